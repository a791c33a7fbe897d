/- What the evaluators second form makes of the functions of layers 24 and 25 that their small statements reach. -/
import Derived.Test.YthhhkplbjcknkaaGreatRows
import Derived.Test.YthhhkplbjcknkaaGreatEvX
namespace Go.Proofs.YthhhkplbjcknkaaGreat
set_option linter.unusedVariables false
set_option linter.unusedSimpArgs false
open Go.RowKit Ev
def gtL : List (List Nat) := [[], [], [], [0, 1, 2, 4, 5, 6, 7, 9, 10, 11, 24, 36, 37, 38, 39, 44, 57, 68], [0, 1, 4, 5], [0, 1, 2, 3, 4, 5, 6, 29], [0, 1, 4, 5], [0, 1, 2, 4, 5, 6, 7, 8, 29, 32], [0, 1, 2], [], [0, 1, 2, 6, 7, 8, 9, 22], [0, 1, 4, 5, 19, 42], [0, 2, 3, 5, 27], [0, 2, 3, 12], [0, 2, 10], [0, 1, 4, 5, 13, 18, 23, 27], [0, 1, 4, 5, 6, 12], [0, 2, 4], [0, 2], [0, 2, 4], [0, 2, 4], [0, 1, 2, 6, 7, 9, 22], [0, 1, 2, 6], [0, 1, 4, 6], [0, 2, 4], [0, 1, 4, 5, 7, 15, 41], [0, 2], [0, 1, 4, 5, 6, 12], [0, 2, 4], [0, 2], [0, 2, 4], [0, 2, 4], [0, 2, 4], [0, 2, 4], [], [0, 1, 4, 5, 6, 7, 15], [0, 1, 4, 5, 6, 7, 15], [0, 2, 4], [0, 2, 3, 5, 13], [0, 1, 2], [0, 1, 4], [0, 1, 2, 6], [], [0, 2, 3, 5, 12], [0, 1, 4], [0, 2], [0, 2, 4], [0, 1, 4, 6], [0, 2, 4], [0, 2, 4], [0, 2, 3, 21, 27], [0, 2, 3, 4, 23, 43, 56, 61, 67], [0], [0, 23], [0, 1, 4], [0, 2], [], [], [], [], [], [], [0, 1, 4, 5, 19], [0, 2, 3, 6], [0, 2, 3, 4, 5, 6, 18, 30], [0, 1], [0, 2], [0, 2], [0, 2, 4], [0, 1, 4, 5, 6, 7, 8, 15, 32], [0, 2, 3, 5], [0, 1, 2, 3], [0, 2, 4], [], [], [], [], [], [], [], [], [], [], [0, 2, 4], [], [], [], [], [0, 2, 3, 10, 17], [0, 2], [0, 1, 4, 5, 9, 10, 15, 20], [], [], [], [], [], [], [], [], [], [], [], [], [], [], [], [], [], [], [], [], [], [0, 1, 4, 5, 6, 12, 16, 29, 37], [0, 1, 4, 5, 7, 9, 10, 13, 29, 30, 53], [0, 1, 4, 5, 6, 22], [0, 1, 4, 5, 6, 7, 13, 17], [], [], [], [], [], [], [], [], [], [], [], [], [], [], [], [], [], [], [], [], [], [], [0, 1, 4, 5, 6, 7, 10, 17, 22, 23, 24], [], [], [], [], [], [0, 11], [], [], [], [], [], [], [], [], [], [], [], [0, 1, 4, 5], [], [], [], [], [], [], [], [], [], [], [], [], [], [], [], [], [], [], [], [], [], [], [], [], [], [0, 2, 4], [], [0, 1, 4, 5, 8], [], [], [], [], [], [], [], [], [], [], [], [], [], [], [], [], [], [], [], [], [], [], [], [], [], [], [], [], [], [], [], [], [], [], [], [], [], [], [], [], [], [], [], [], [], [], [], [], [], [], [], [], [], [], [], [], [], [], [], [], [], [], [], [], [], []]
def gt (f : Nat) : List Nat := gtL.getD f []
theorem okd : okDsts Tryz.prog = true := by kernel_rfl
theorem sz23 : size? Tryz.prog 23 = some 3 := by kernel_rfl
theorem len24 (a : Option Addr) (n c : Nat) : len2 Tryz.prog #[24] [.slice a n c] = some (.int .i64 n) := len_slice Tryz.underlying24 a n c
theorem nt3 : isNilT Tryz.prog 3 = false := by kernel_rfl
theorem bgtr3 (a b : Int) : bin2 Tryz.prog .gtr 3 (.int .i64 a) (.int .i64 b) = some (.bool (decide (b < a))) := b_gtr nt3 a b
theorem fa23f1 (b off : Nat) : evFieldAddr Tryz.prog 23 (.pointer (some ⟨b, off, none⟩)) 1 = some (.pointer (some ⟨b, off + 1, none⟩)) := by kernel_rfl
theorem ag3 : agg? Tryz.prog 3 = some false := by kernel_rfl
theorem ldr3 {β : Type} {W : Nat → Prop} {n0 : Nat} {h : H} {n : Nat} {Q : β → H → Nat → Prop} (b off : Nat) (k : Value → M β) (hb : b < n) : Run W n0 ((inside (evLoad Tryz.prog 3 (.pointer (some ⟨b, off, none⟩)))).bind k) h n Q ↔ optG (h.get b) fun B => Run W n0 (optK (B.cells[off]?) k) h n Q := ld_iff ag3 b off k hb
theorem fa23f0 (b off : Nat) : evFieldAddr Tryz.prog 23 (.pointer (some ⟨b, off, none⟩)) 0 = some (.pointer (some ⟨b, off + 0, none⟩)) := by kernel_rfl
theorem fa23f2 (b off : Nat) : evFieldAddr Tryz.prog 23 (.pointer (some ⟨b, off, none⟩)) 2 = some (.pointer (some ⟨b, off + 2, none⟩)) := by kernel_rfl
theorem blss3 (a b : Int) : bin2 Tryz.prog .lss 3 (.int .i64 a) (.int .i64 b) = some (.bool (decide (a < b))) := b_lss nt3 a b
theorem sz9 : size? Tryz.prog 9 = some 1 := by kernel_rfl
theorem ix24 (b off n c : Nat) (k : IntKind) (i : Int) (h0 : 0 ≤ i) (h1 : i < n) : evIndexAddr Tryz.prog 24 (.slice (some ⟨b, off, none⟩) n c) (.int k i) = some (.pointer (some ⟨b, off + i.toNat, none⟩)) := (ix_slice Tryz.underlying24 sz9 b off n c k i h0 h1).trans (by rw [Nat.mul_one])
theorem ag9 : agg? Tryz.prog 9 = some false := by kernel_rfl
theorem ldr9 {β : Type} {W : Nat → Prop} {n0 : Nat} {h : H} {n : Nat} {Q : β → H → Nat → Prop} (b off : Nat) (k : Value → M β) (hb : b < n) : Run W n0 ((inside (evLoad Tryz.prog 9 (.pointer (some ⟨b, off, none⟩)))).bind k) h n Q ↔ optG (h.get b) fun B => Run W n0 (optK (B.cells[off]?) k) h n Q := ld_iff ag9 b off k hb
theorem len9 (s : List UInt8) : len2 Tryz.prog #[9] [.string ⟨s.toArray⟩] = some (.int .i64 s.length) := len_strL Tryz.underlying9 s
theorem bsub3 (a b : Int) : bin2 Tryz.prog .sub 3 (.int .i64 a) (.int .i64 b) = some (.int .i64 (IntKind.i64.wrap (a - b))) := b_sub nt3 a b
theorem bneq3 (a b : Int) : bin2 Tryz.prog .neq 3 (.int .i64 a) (.int .i64 b) = some (.bool (a != b)) := b_neq nt3 a b
theorem badd3 (a b : Int) : bin2 Tryz.prog .add 3 (.int .i64 a) (.int .i64 b) = some (.int .i64 (IntKind.i64.wrap (a + b))) := b_add nt3 a b
theorem nt27 : isNilT Tryz.prog 27 = false := by kernel_rfl
theorem beql27 (a b : Int) : bin2 Tryz.prog .eql 27 (.int .i64 a) (.int .i64 b) = some (.bool (a == b)) := b_eql nt27 a b
theorem beql3 (a b : Int) : bin2 Tryz.prog .eql 3 (.int .i64 a) (.int .i64 b) = some (.bool (a == b)) := b_eql nt3 a b
theorem nt9 : isNilT Tryz.prog 9 = false := by kernel_rfl
theorem beql9 (a b : List UInt8) : bin2 Tryz.prog .eql 9 (.string ⟨a.toArray⟩) (.string ⟨b.toArray⟩) = some (.bool (decide (a = b))) := b_eqlS nt9 a b
theorem beql26s (a : Addr) : bin2 Tryz.prog .eql 26 (.pointer (some a)) (.pointer none) = some (.bool false) := by kernel_rfl
theorem beql26n : bin2 Tryz.prog .eql 26 (.pointer none) (.pointer none) = some (.bool true) := by kernel_rfl
theorem sz43 : size? Tryz.prog 43 = some 2 := by kernel_rfl
theorem fa43f0 (b off : Nat) : evFieldAddr Tryz.prog 43 (.pointer (some ⟨b, off, none⟩)) 0 = some (.pointer (some ⟨b, off + 0, none⟩)) := by kernel_rfl
theorem fa43f1 (b off : Nat) : evFieldAddr Tryz.prog 43 (.pointer (some ⟨b, off, none⟩)) 1 = some (.pointer (some ⟨b, off + 1, none⟩)) := by kernel_rfl
theorem bneq9 (a b : List UInt8) : bin2 Tryz.prog .neq 9 (.string ⟨a.toArray⟩) (.string ⟨b.toArray⟩) = some (.bool (!decide (a = b))) := b_neqS nt9 a b
theorem beql41s (a : Addr) : bin2 Tryz.prog .eql 41 (.pointer (some a)) (.pointer none) = some (.bool false) := by kernel_rfl
theorem beql41n : bin2 Tryz.prog .eql 41 (.pointer none) (.pointer none) = some (.bool true) := by kernel_rfl
theorem bneq27 (a b : Int) : bin2 Tryz.prog .neq 27 (.int .i64 a) (.int .i64 b) = some (.bool (a != b)) := b_neq nt27 a b
theorem bd60x0x1x3x4 (v0 : Int) (v1 : Int) (v3 : Option Addr) (v4 : Option Addr) : evBuild Tryz.prog 60 [(0, (Value.int .i64 v0)), (1, (Value.int .i64 v1)), (3, (Value.pointer v3)), (4, (Value.pointer v4))] = M.ret (.agg #[(Value.int .i64 v0), (Value.int .i64 v1), (Go.Value.bool false), (Value.pointer v3), (Value.pointer v4), (Go.Value.pointer none), (Go.Value.bool false), (Go.Value.slice none 0 0), (Go.Value.bool false), (Go.Value.int Go.IntKind.i64 0), (Go.Value.int Go.IntKind.i64 0)]) := by kernel_rfl
theorem sz60 : size? Tryz.prog 60 = some 11 := by kernel_rfl
theorem fa60f2 (b off : Nat) : evFieldAddr Tryz.prog 60 (.pointer (some ⟨b, off, none⟩)) 2 = some (.pointer (some ⟨b, off + 2, none⟩)) := by kernel_rfl
theorem ag4 : agg? Tryz.prog 4 = some false := by kernel_rfl
theorem ldr4 {β : Type} {W : Nat → Prop} {n0 : Nat} {h : H} {n : Nat} {Q : β → H → Nat → Prop} (b off : Nat) (k : Value → M β) (hb : b < n) : Run W n0 ((inside (evLoad Tryz.prog 4 (.pointer (some ⟨b, off, none⟩)))).bind k) h n Q ↔ optG (h.get b) fun B => Run W n0 (optK (B.cells[off]?) k) h n Q := ld_iff ag4 b off k hb
theorem fa60f8 (b off : Nat) : evFieldAddr Tryz.prog 60 (.pointer (some ⟨b, off, none⟩)) 8 = some (.pointer (some ⟨b, off + 8, none⟩)) := by kernel_rfl
theorem fa60f0 (b off : Nat) : evFieldAddr Tryz.prog 60 (.pointer (some ⟨b, off, none⟩)) 0 = some (.pointer (some ⟨b, off + 0, none⟩)) := by kernel_rfl
theorem fa60f3 (b off : Nat) : evFieldAddr Tryz.prog 60 (.pointer (some ⟨b, off, none⟩)) 3 = some (.pointer (some ⟨b, off + 3, none⟩)) := by kernel_rfl
theorem ag55 : agg? Tryz.prog 55 = some false := by kernel_rfl
theorem ldr55 {β : Type} {W : Nat → Prop} {n0 : Nat} {h : H} {n : Nat} {Q : β → H → Nat → Prop} (b off : Nat) (k : Value → M β) (hb : b < n) : Run W n0 ((inside (evLoad Tryz.prog 55 (.pointer (some ⟨b, off, none⟩)))).bind k) h n Q ↔ optG (h.get b) fun B => Run W n0 (optK (B.cells[off]?) k) h n Q := ld_iff ag55 b off k hb
theorem slh9 {β : Type} (l : List UInt8) (kd : IntKind) (j : Int) (k : Value → M β) (h0 : 0 ≤ j) (h1 : j ≤ l.length) : slice2 Tryz.prog 9 (.string ⟨l.toArray⟩) none (some (.int kd j)) none k = k (.string ⟨(l.take j.toNat).toArray⟩) := sls_hi Tryz.underlying9 l kd j k h0 h1
theorem sll9 {β : Type} (l : List UInt8) (kd : IntKind) (i : Int) (k : Value → M β) (h0 : 0 ≤ i) (h1 : i ≤ l.length) : slice2 Tryz.prog 9 (.string ⟨l.toArray⟩) (some (.int kd i)) none none k = k (.string ⟨(l.drop i.toNat).toArray⟩) := sls_lo Tryz.underlying9 l kd i k h0 h1
theorem slb9 {β : Type} (l : List UInt8) (kd kd' : IntKind) (i j : Int) (k : Value → M β) (h0 : 0 ≤ i) (h1 : i ≤ j) (h2 : j ≤ l.length) : slice2 Tryz.prog 9 (.string ⟨l.toArray⟩) (some (.int kd i)) (some (.int kd' j)) none k = k (.string ⟨((l.drop i.toNat).take (j.toNat - i.toNat)).toArray⟩) := sls_both Tryz.underlying9 l kd kd' i j k h0 h1 h2
theorem fa60f6 (b off : Nat) : evFieldAddr Tryz.prog 60 (.pointer (some ⟨b, off, none⟩)) 6 = some (.pointer (some ⟨b, off + 6, none⟩)) := by kernel_rfl
theorem sz4 : size? Tryz.prog 4 = some 1 := by kernel_rfl
theorem str4 {β : Type} {W : Nat → Prop} {n0 : Nat} {h : H} {n : Nat} {Q : β → H → Nat → Prop} (b off : Nat) (v : Value) (k : Value → M β) (hb : b < n) (h1 : one v = true) : Run W n0 ((inside (evStore Tryz.prog 4 (.pointer (some ⟨b, off, none⟩)) v)).bind k) h n Q ↔ optG (h.get b) fun B => B.own = true ∧ off < B.cells.length ∧ (n0 ≤ b ∨ W b) ∧ Run W n0 (k undef) (h.set b (some ⟨B.elem, B.own, B.cells.set off v⟩)) n Q := st_iff sz4 b off v k hb h1
theorem fa60f4 (b off : Nat) : evFieldAddr Tryz.prog 60 (.pointer (some ⟨b, off, none⟩)) 4 = some (.pointer (some ⟨b, off + 4, none⟩)) := by kernel_rfl
theorem ag51 : agg? Tryz.prog 51 = some false := by kernel_rfl
theorem ldr51 {β : Type} {W : Nat → Prop} {n0 : Nat} {h : H} {n : Nat} {Q : β → H → Nat → Prop} (b off : Nat) (k : Value → M β) (hb : b < n) : Run W n0 ((inside (evLoad Tryz.prog 51 (.pointer (some ⟨b, off, none⟩)))).bind k) h n Q ↔ optG (h.get b) fun B => Run W n0 (optK (B.cells[off]?) k) h n Q := ld_iff ag51 b off k hb
theorem fa60f7 (b off : Nat) : evFieldAddr Tryz.prog 60 (.pointer (some ⟨b, off, none⟩)) 7 = some (.pointer (some ⟨b, off + 7, none⟩)) := by kernel_rfl
theorem ag58 : agg? Tryz.prog 58 = some false := by kernel_rfl
theorem ldr58 {β : Type} {W : Nat → Prop} {n0 : Nat} {h : H} {n : Nat} {Q : β → H → Nat → Prop} (b off : Nat) (k : Value → M β) (hb : b < n) : Run W n0 ((inside (evLoad Tryz.prog 58 (.pointer (some ⟨b, off, none⟩)))).bind k) h n Q ↔ optG (h.get b) fun B => Run W n0 (optK (B.cells[off]?) k) h n Q := ld_iff ag58 b off k hb
theorem len58 (a : Option Addr) (n c : Nat) : len2 Tryz.prog #[58] [.slice a n c] = some (.int .i64 n) := len_slice Tryz.underlying58 a n c
theorem fa60f5 (b off : Nat) : evFieldAddr Tryz.prog 60 (.pointer (some ⟨b, off, none⟩)) 5 = some (.pointer (some ⟨b, off + 5, none⟩)) := by kernel_rfl
theorem ag57 : agg? Tryz.prog 57 = some false := by kernel_rfl
theorem ldr57 {β : Type} {W : Nat → Prop} {n0 : Nat} {h : H} {n : Nat} {Q : β → H → Nat → Prop} (b off : Nat) (k : Value → M β) (hb : b < n) : Run W n0 ((inside (evLoad Tryz.prog 57 (.pointer (some ⟨b, off, none⟩)))).bind k) h n Q ↔ optG (h.get b) fun B => Run W n0 (optK (B.cells[off]?) k) h n Q := ld_iff ag57 b off k hb
theorem bneq57s (a : Addr) : bin2 Tryz.prog .neq 57 (.pointer (some a)) (.pointer none) = some (.bool true) := by kernel_rfl
theorem bneq57n : bin2 Tryz.prog .neq 57 (.pointer none) (.pointer none) = some (.bool false) := by kernel_rfl
theorem fa69f1 (b off : Nat) : evFieldAddr Tryz.prog 69 (.pointer (some ⟨b, off, none⟩)) 1 = some (.pointer (some ⟨b, off + 3, none⟩)) := by kernel_rfl
theorem ag65 : agg? Tryz.prog 65 = some false := by kernel_rfl
theorem ldr65 {β : Type} {W : Nat → Prop} {n0 : Nat} {h : H} {n : Nat} {Q : β → H → Nat → Prop} (b off : Nat) (k : Value → M β) (hb : b < n) : Run W n0 ((inside (evLoad Tryz.prog 65 (.pointer (some ⟨b, off, none⟩)))).bind k) h n Q ↔ optG (h.get b) fun B => Run W n0 (optK (B.cells[off]?) k) h n Q := ld_iff ag65 b off k hb
theorem fa60f1 (b off : Nat) : evFieldAddr Tryz.prog 60 (.pointer (some ⟨b, off, none⟩)) 1 = some (.pointer (some ⟨b, off + 1, none⟩)) := by kernel_rfl
theorem bgeq3 (a b : Int) : bin2 Tryz.prog .geq 3 (.int .i64 a) (.int .i64 b) = some (.bool (decide (b ≤ a))) := b_geq nt3 a b
theorem bneq26s (a : Addr) : bin2 Tryz.prog .neq 26 (.pointer (some a)) (.pointer none) = some (.bool true) := by kernel_rfl
theorem bneq26n : bin2 Tryz.prog .neq 26 (.pointer none) (.pointer none) = some (.bool false) := by kernel_rfl
theorem fa60f10 (b off : Nat) : evFieldAddr Tryz.prog 60 (.pointer (some ⟨b, off, none⟩)) 10 = some (.pointer (some ⟨b, off + 10, none⟩)) := by kernel_rfl
theorem sz3 : size? Tryz.prog 3 = some 1 := by kernel_rfl
theorem str3 {β : Type} {W : Nat → Prop} {n0 : Nat} {h : H} {n : Nat} {Q : β → H → Nat → Prop} (b off : Nat) (v : Value) (k : Value → M β) (hb : b < n) (h1 : one v = true) : Run W n0 ((inside (evStore Tryz.prog 3 (.pointer (some ⟨b, off, none⟩)) v)).bind k) h n Q ↔ optG (h.get b) fun B => B.own = true ∧ off < B.cells.length ∧ (n0 ≤ b ∨ W b) ∧ Run W n0 (k undef) (h.set b (some ⟨B.elem, B.own, B.cells.set off v⟩)) n Q := st_iff sz3 b off v k hb h1
theorem c1x58 : Cell1 Tryz.prog 58 5 (Go.Value.int Go.IntKind.u8 0) := ⟨Tryz.underlying58, ⟨Tryz.t5, by kernel_rfl, by kernel_rfl, by decide⟩, by kernel_rfl, by kernel_rfl⟩
theorem ns58 : isStrT Tryz.prog 58 = false := by kernel_rfl
theorem sz58 : size? Tryz.prog 58 = some 1 := by kernel_rfl
theorem str58 {β : Type} {W : Nat → Prop} {n0 : Nat} {h : H} {n : Nat} {Q : β → H → Nat → Prop} (b off : Nat) (v : Value) (k : Value → M β) (hb : b < n) (h1 : one v = true) : Run W n0 ((inside (evStore Tryz.prog 58 (.pointer (some ⟨b, off, none⟩)) v)).bind k) h n Q ↔ optG (h.get b) fun B => B.own = true ∧ off < B.cells.length ∧ (n0 ≤ b ∨ W b) ∧ Run W n0 (k undef) (h.set b (some ⟨B.elem, B.own, B.cells.set off v⟩)) n Q := st_iff sz58 b off v k hb h1
theorem fa60f9 (b off : Nat) : evFieldAddr Tryz.prog 60 (.pointer (some ⟨b, off, none⟩)) 9 = some (.pointer (some ⟨b, off + 9, none⟩)) := by kernel_rfl
theorem ag27 : agg? Tryz.prog 27 = some false := by kernel_rfl
theorem ldr27 {β : Type} {W : Nat → Prop} {n0 : Nat} {h : H} {n : Nat} {Q : β → H → Nat → Prop} (b off : Nat) (k : Value → M β) (hb : b < n) : Run W n0 ((inside (evLoad Tryz.prog 27 (.pointer (some ⟨b, off, none⟩)))).bind k) h n Q ↔ optG (h.get b) fun B => Run W n0 (optK (B.cells[off]?) k) h n Q := ld_iff ag27 b off k hb
theorem bmul3 (a b : Int) : bin2 Tryz.prog .mul 3 (.int .i64 a) (.int .i64 b) = some (.int .i64 (IntKind.i64.wrap (a * b))) := b_mul nt3 a b
theorem fa73f0 (b off : Nat) : evFieldAddr Tryz.prog 73 (.pointer (some ⟨b, off, none⟩)) 0 = some (.pointer (some ⟨b, off + 0, none⟩)) := by kernel_rfl
theorem fa71f0 (b off : Nat) : evFieldAddr Tryz.prog 71 (.pointer (some ⟨b, off, none⟩)) 0 = some (.pointer (some ⟨b, off + 0, none⟩)) := by kernel_rfl
theorem ag26 : agg? Tryz.prog 26 = some false := by kernel_rfl
theorem ldr26 {β : Type} {W : Nat → Prop} {n0 : Nat} {h : H} {n : Nat} {Q : β → H → Nat → Prop} (b off : Nat) (k : Value → M β) (hb : b < n) : Run W n0 ((inside (evLoad Tryz.prog 26 (.pointer (some ⟨b, off, none⟩)))).bind k) h n Q ↔ optG (h.get b) fun B => Run W n0 (optK (B.cells[off]?) k) h n Q := ld_iff ag26 b off k hb
theorem fa73f1 (b off : Nat) : evFieldAddr Tryz.prog 73 (.pointer (some ⟨b, off, none⟩)) 1 = some (.pointer (some ⟨b, off + 2, none⟩)) := by kernel_rfl
theorem str9 {β : Type} {W : Nat → Prop} {n0 : Nat} {h : H} {n : Nat} {Q : β → H → Nat → Prop} (b off : Nat) (v : Value) (k : Value → M β) (hb : b < n) (h1 : one v = true) : Run W n0 ((inside (evStore Tryz.prog 9 (.pointer (some ⟨b, off, none⟩)) v)).bind k) h n Q ↔ optG (h.get b) fun B => B.own = true ∧ off < B.cells.length ∧ (n0 ≤ b ∨ W b) ∧ Run W n0 (k undef) (h.set b (some ⟨B.elem, B.own, B.cells.set off v⟩)) n Q := st_iff sz9 b off v k hb h1
theorem bneq41s (a : Addr) : bin2 Tryz.prog .neq 41 (.pointer (some a)) (.pointer none) = some (.bool true) := by kernel_rfl
theorem bneq41n : bin2 Tryz.prog .neq 41 (.pointer none) (.pointer none) = some (.bool false) := by kernel_rfl
theorem fa71f1 (b off : Nat) : evFieldAddr Tryz.prog 71 (.pointer (some ⟨b, off, none⟩)) 1 = some (.pointer (some ⟨b, off + 1, none⟩)) := by kernel_rfl
theorem bd71x0 (v0 : Option Addr) : evBuild Tryz.prog 71 [(0, (Value.pointer v0))] = M.ret (.agg #[(Value.pointer v0), (Go.Value.int Go.IntKind.i64 0)]) := by kernel_rfl
theorem bd73x0 (v0f0 : Option Addr) (v0f1 : Int) : evBuild Tryz.prog 73 [(0, (Value.agg #[(Value.pointer v0f0), (Value.int .i64 v0f1)]))] = M.ret (.agg #[(Value.pointer v0f0), (Value.int .i64 v0f1), (Go.Value.string { data := #[] }), (Go.Value.bool false)]) := by kernel_rfl
theorem sz73 : size? Tryz.prog 73 = some 4 := by kernel_rfl
theorem cv3x5 {β : Type} (x : Int) (k : Value → M β) : conv2 Tryz.prog 3 5 (.int .i64 x) k = k (.int .u8 (IntKind.u8.wrap x)) := by kernel_rfl
theorem bquo3 (a b : Int) (h0 : b ≠ 0) : bin2 Tryz.prog .quo 3 (.int .i64 a) (.int .i64 b) = some (.int .i64 (IntKind.i64.wrap (a.tdiv b))) := b_quo nt3 a b h0
theorem brem3 (a b : Int) (h0 : b ≠ 0) : bin2 Tryz.prog .rem 3 (.int .i64 a) (.int .i64 b) = some (.int .i64 (a.tmod b)) := b_rem nt3 a b h0
theorem badd9 (a b : List UInt8) (h : a.length + b.length ≤ 9223372036854775807) : bin2 Tryz.prog .add 9 (.string ⟨a.toArray⟩) (.string ⟨b.toArray⟩) = some (.string ⟨(a ++ b).toArray⟩) := b_addS nt9 a b h
theorem bleq3 (a b : Int) : bin2 Tryz.prog .leq 3 (.int .i64 a) (.int .i64 b) = some (.bool (decide (a ≤ b))) := b_leq nt3 a b
theorem bd87x0 (v0 : Int) : evBuild Tryz.prog 87 [(0, (Value.int .i64 v0))] = M.ret (.agg #[(Value.int .i64 v0), (Go.Value.int Go.IntKind.i64 0), (Go.Value.int Go.IntKind.i64 0), (Go.Value.int Go.IntKind.i64 0), (Go.Value.pointer none), (Go.Value.string { data := #[] }), (Go.Value.int Go.IntKind.i64 0), (Go.Value.int Go.IntKind.u32 0), (Go.Value.int Go.IntKind.u32 0), (Go.Value.bool false), (Go.Value.int Go.IntKind.i64 0)]) := by kernel_rfl
theorem sz87 : size? Tryz.prog 87 = some 11 := by kernel_rfl
theorem bd89x0 (v0 : ByteArray) : evBuild Tryz.prog 89 [(0, (Value.string v0))] = M.ret (.agg #[(Value.string v0), (Go.Value.int Go.IntKind.i64 0), (Go.Value.int Go.IntKind.i64 0)]) := by kernel_rfl
theorem sz89 : size? Tryz.prog 89 = some 3 := by kernel_rfl
theorem beql55s (a : Addr) : bin2 Tryz.prog .eql 55 (.pointer (some a)) (.pointer none) = some (.bool false) := by kernel_rfl
theorem beql55n : bin2 Tryz.prog .eql 55 (.pointer none) (.pointer none) = some (.bool true) := by kernel_rfl
theorem fa89f0 (b off : Nat) : evFieldAddr Tryz.prog 89 (.pointer (some ⟨b, off, none⟩)) 0 = some (.pointer (some ⟨b, off + 0, none⟩)) := by kernel_rfl
theorem beql51s (a : Addr) : bin2 Tryz.prog .eql 51 (.pointer (some a)) (.pointer none) = some (.bool false) := by kernel_rfl
theorem beql51n : bin2 Tryz.prog .eql 51 (.pointer none) (.pointer none) = some (.bool true) := by kernel_rfl
theorem fa87f4 (b off : Nat) : evFieldAddr Tryz.prog 87 (.pointer (some ⟨b, off, none⟩)) 4 = some (.pointer (some ⟨b, off + 4, none⟩)) := by kernel_rfl
theorem ag85 : agg? Tryz.prog 85 = some false := by kernel_rfl
theorem ldr85 {β : Type} {W : Nat → Prop} {n0 : Nat} {h : H} {n : Nat} {Q : β → H → Nat → Prop} (b off : Nat) (k : Value → M β) (hb : b < n) : Run W n0 ((inside (evLoad Tryz.prog 85 (.pointer (some ⟨b, off, none⟩)))).bind k) h n Q ↔ optG (h.get b) fun B => Run W n0 (optK (B.cells[off]?) k) h n Q := ld_iff ag85 b off k hb
theorem beql65s (a : Addr) : bin2 Tryz.prog .eql 65 (.pointer (some a)) (.pointer none) = some (.bool false) := by kernel_rfl
theorem beql65n : bin2 Tryz.prog .eql 65 (.pointer none) (.pointer none) = some (.bool true) := by kernel_rfl
theorem fa93f0 (b off : Nat) : evFieldAddr Tryz.prog 93 (.pointer (some ⟨b, off, none⟩)) 0 = some (.pointer (some ⟨b, off + 0, none⟩)) := by kernel_rfl
theorem fa93f4 (b off : Nat) : evFieldAddr Tryz.prog 93 (.pointer (some ⟨b, off, none⟩)) 4 = some (.pointer (some ⟨b, off + 259, none⟩)) := by kernel_rfl
theorem sz57 : size? Tryz.prog 57 = some 1 := by kernel_rfl
theorem str57 {β : Type} {W : Nat → Prop} {n0 : Nat} {h : H} {n : Nat} {Q : β → H → Nat → Prop} (b off : Nat) (v : Value) (k : Value → M β) (hb : b < n) (h1 : one v = true) : Run W n0 ((inside (evStore Tryz.prog 57 (.pointer (some ⟨b, off, none⟩)) v)).bind k) h n Q ↔ optG (h.get b) fun B => B.own = true ∧ off < B.cells.length ∧ (n0 ≤ b ∨ W b) ∧ Run W n0 (k undef) (h.set b (some ⟨B.elem, B.own, B.cells.set off v⟩)) n Q := st_iff sz57 b off v k hb h1
theorem nt97 : isNilT Tryz.prog 97 = false := by kernel_rfl
theorem beql97 (a b : Int) : bin2 Tryz.prog .eql 97 (.int .i64 a) (.int .i64 b) = some (.bool (a == b)) := b_eql nt97 a b
theorem fa73f2 (b off : Nat) : evFieldAddr Tryz.prog 73 (.pointer (some ⟨b, off, none⟩)) 2 = some (.pointer (some ⟨b, off + 3, none⟩)) := by kernel_rfl
theorem beql85s (a : Addr) : bin2 Tryz.prog .eql 85 (.pointer (some a)) (.pointer none) = some (.bool false) := by kernel_rfl
theorem beql85n : bin2 Tryz.prog .eql 85 (.pointer none) (.pointer none) = some (.bool true) := by kernel_rfl
theorem fa118f0 (b off : Nat) : evFieldAddr Tryz.prog 118 (.pointer (some ⟨b, off, none⟩)) 0 = some (.pointer (some ⟨b, off + 0, none⟩)) := by kernel_rfl
theorem ag116 : agg? Tryz.prog 116 = some false := by kernel_rfl
theorem ldr116 {β : Type} {W : Nat → Prop} {n0 : Nat} {h : H} {n : Nat} {Q : β → H → Nat → Prop} (b off : Nat) (k : Value → M β) (hb : b < n) : Run W n0 ((inside (evLoad Tryz.prog 116 (.pointer (some ⟨b, off, none⟩)))).bind k) h n Q ↔ optG (h.get b) fun B => Run W n0 (optK (B.cells[off]?) k) h n Q := ld_iff ag116 b off k hb
theorem beql116s (a : Addr) : bin2 Tryz.prog .eql 116 (.pointer (some a)) (.pointer none) = some (.bool false) := by kernel_rfl
theorem beql116n : bin2 Tryz.prog .eql 116 (.pointer none) (.pointer none) = some (.bool true) := by kernel_rfl
theorem fa118f5 (b off : Nat) : evFieldAddr Tryz.prog 118 (.pointer (some ⟨b, off, none⟩)) 5 = some (.pointer (some ⟨b, off + 5, none⟩)) := by kernel_rfl
theorem fa123f0 (b off : Nat) : evFieldAddr Tryz.prog 123 (.pointer (some ⟨b, off, none⟩)) 0 = some (.pointer (some ⟨b, off + 0, none⟩)) := by kernel_rfl
theorem ag119 : agg? Tryz.prog 119 = some false := by kernel_rfl
theorem ldr119 {β : Type} {W : Nat → Prop} {n0 : Nat} {h : H} {n : Nat} {Q : β → H → Nat → Prop} (b off : Nat) (k : Value → M β) (hb : b < n) : Run W n0 ((inside (evLoad Tryz.prog 119 (.pointer (some ⟨b, off, none⟩)))).bind k) h n Q ↔ optG (h.get b) fun B => Run W n0 (optK (B.cells[off]?) k) h n Q := ld_iff ag119 b off k hb
theorem fa69f2 (b off : Nat) : evFieldAddr Tryz.prog 69 (.pointer (some ⟨b, off, none⟩)) 2 = some (.pointer (some ⟨b, off + 4, none⟩)) := by kernel_rfl
theorem ag66 : agg? Tryz.prog 66 = some false := by kernel_rfl
theorem ldr66 {β : Type} {W : Nat → Prop} {n0 : Nat} {h : H} {n : Nat} {Q : β → H → Nat → Prop} (b off : Nat) (k : Value → M β) (hb : b < n) : Run W n0 ((inside (evLoad Tryz.prog 66 (.pointer (some ⟨b, off, none⟩)))).bind k) h n Q ↔ optG (h.get b) fun B => Run W n0 (optK (B.cells[off]?) k) h n Q := ld_iff ag66 b off k hb
theorem ixs9 (l : List UInt8) (k : IntKind) (i : Int) (h0 : 0 ≤ i) (h1 : i < l.length) : index2 Tryz.prog 9 (.string ⟨l.toArray⟩) (.int k i) = some (.int .u8 (l.getD i.toNat 0).toNat) := idx_str Tryz.underlying9 l k i h0 h1
theorem fa69f3 (b off : Nat) : evFieldAddr Tryz.prog 69 (.pointer (some ⟨b, off, none⟩)) 3 = some (.pointer (some ⟨b, off + 5, none⟩)) := by kernel_rfl
theorem ag67 : agg? Tryz.prog 67 = some false := by kernel_rfl
theorem ldr67 {β : Type} {W : Nat → Prop} {n0 : Nat} {h : H} {n : Nat} {Q : β → H → Nat → Prop} (b off : Nat) (k : Value → M β) (hb : b < n) : Run W n0 ((inside (evLoad Tryz.prog 67 (.pointer (some ⟨b, off, none⟩)))).bind k) h n Q ↔ optG (h.get b) fun B => Run W n0 (optK (B.cells[off]?) k) h n Q := ld_iff ag67 b off k hb
theorem sz27 : size? Tryz.prog 27 = some 1 := by kernel_rfl
theorem str27 {β : Type} {W : Nat → Prop} {n0 : Nat} {h : H} {n : Nat} {Q : β → H → Nat → Prop} (b off : Nat) (v : Value) (k : Value → M β) (hb : b < n) (h1 : one v = true) : Run W n0 ((inside (evStore Tryz.prog 27 (.pointer (some ⟨b, off, none⟩)) v)).bind k) h n Q ↔ optG (h.get b) fun B => B.own = true ∧ off < B.cells.length ∧ (n0 ≤ b ∨ W b) ∧ Run W n0 (k undef) (h.set b (some ⟨B.elem, B.own, B.cells.set off v⟩)) n Q := st_iff sz27 b off v k hb h1
theorem bneq65s (a : Addr) : bin2 Tryz.prog .neq 65 (.pointer (some a)) (.pointer none) = some (.bool true) := by kernel_rfl
theorem bneq65n : bin2 Tryz.prog .neq 65 (.pointer none) (.pointer none) = some (.bool false) := by kernel_rfl
theorem fa93f5 (b off : Nat) : evFieldAddr Tryz.prog 93 (.pointer (some ⟨b, off, none⟩)) 5 = some (.pointer (some ⟨b, off + 260, none⟩)) := by kernel_rfl
theorem bneq51s (a : Addr) : bin2 Tryz.prog .neq 51 (.pointer (some a)) (.pointer none) = some (.bool true) := by kernel_rfl
theorem bneq51n : bin2 Tryz.prog .neq 51 (.pointer none) (.pointer none) = some (.bool false) := by kernel_rfl
theorem fa87f7 (b off : Nat) : evFieldAddr Tryz.prog 87 (.pointer (some ⟨b, off, none⟩)) 7 = some (.pointer (some ⟨b, off + 9, none⟩)) := by kernel_rfl
theorem fa87f1 (b off : Nat) : evFieldAddr Tryz.prog 87 (.pointer (some ⟨b, off, none⟩)) 1 = some (.pointer (some ⟨b, off + 1, none⟩)) := by kernel_rfl
theorem ag84 : agg? Tryz.prog 84 = some false := by kernel_rfl
theorem ldr84 {β : Type} {W : Nat → Prop} {n0 : Nat} {h : H} {n : Nat} {Q : β → H → Nat → Prop} (b off : Nat) (k : Value → M β) (hb : b < n) : Run W n0 ((inside (evLoad Tryz.prog 84 (.pointer (some ⟨b, off, none⟩)))).bind k) h n Q ↔ optG (h.get b) fun B => Run W n0 (optK (B.cells[off]?) k) h n Q := ld_iff ag84 b off k hb
theorem nt84 : isNilT Tryz.prog 84 = false := by kernel_rfl
theorem beql84 (a b : Int) : bin2 Tryz.prog .eql 84 (.int .i64 a) (.int .i64 b) = some (.bool (a == b)) := b_eql nt84 a b
theorem fa87f2 (b off : Nat) : evFieldAddr Tryz.prog 87 (.pointer (some ⟨b, off, none⟩)) 2 = some (.pointer (some ⟨b, off + 2, none⟩)) := by kernel_rfl
theorem fa87f8 (b off : Nat) : evFieldAddr Tryz.prog 87 (.pointer (some ⟨b, off, none⟩)) 8 = some (.pointer (some ⟨b, off + 10, none⟩)) := by kernel_rfl
theorem fa89f2 (b off : Nat) : evFieldAddr Tryz.prog 89 (.pointer (some ⟨b, off, none⟩)) 2 = some (.pointer (some ⟨b, off + 2, none⟩)) := by kernel_rfl
theorem fa89f1 (b off : Nat) : evFieldAddr Tryz.prog 89 (.pointer (some ⟨b, off, none⟩)) 1 = some (.pointer (some ⟨b, off + 1, none⟩)) := by kernel_rfl
theorem sz64 : size? Tryz.prog 64 = some 3 := by kernel_rfl
theorem fa64f0 (b off : Nat) : evFieldAddr Tryz.prog 64 (.pointer (some ⟨b, off, none⟩)) 0 = some (.pointer (some ⟨b, off + 0, none⟩)) := by kernel_rfl
theorem fa64f1 (b off : Nat) : evFieldAddr Tryz.prog 64 (.pointer (some ⟨b, off, none⟩)) 1 = some (.pointer (some ⟨b, off + 1, none⟩)) := by kernel_rfl
theorem bd69x0x1x2x3 (v0f0 : ByteArray) (v0f1 : Int) (v0f2 : Int) (v1 : Option Addr) (v2 : Option Addr) (v3 : Option Addr) : evBuild Tryz.prog 69 [(0, (Value.agg #[(Value.string v0f0), (Value.int .i64 v0f1), (Value.int .u32 v0f2)])), (1, (Value.pointer v1)), (2, (Value.pointer v2)), (3, (Value.pointer v3))] = M.ret (.agg #[(Value.string v0f0), (Value.int .i64 v0f1), (Value.int .u32 v0f2), (Value.pointer v1), (Value.pointer v2), (Value.pointer v3)]) := by kernel_rfl
theorem sz69 : size? Tryz.prog 69 = some 6 := by kernel_rfl
theorem zr64 : zero? Tryz.prog 64 = some (Go.Value.agg #[(Go.Value.string { data := #[] }), (Go.Value.int Go.IntKind.i64 0), (Go.Value.int Go.IntKind.u32 0)]) := by kernel_rfl
theorem bd64x  : evBuild Tryz.prog 64 [] = M.ret (.agg #[(Go.Value.string { data := #[] }), (Go.Value.int Go.IntKind.i64 0), (Go.Value.int Go.IntKind.u32 0)]) := by kernel_rfl
theorem fa87f5 (b off : Nat) : evFieldAddr Tryz.prog 87 (.pointer (some ⟨b, off, none⟩)) 5 = some (.pointer (some ⟨b, off + 5, none⟩)) := by kernel_rfl
theorem beql119s (a : Addr) : bin2 Tryz.prog .eql 119 (.pointer (some a)) (.pointer none) = some (.bool false) := by kernel_rfl
theorem beql119n : bin2 Tryz.prog .eql 119 (.pointer none) (.pointer none) = some (.bool true) := by kernel_rfl
theorem fa143f1 (b off : Nat) : evFieldAddr Tryz.prog 143 (.pointer (some ⟨b, off, none⟩)) 1 = some (.pointer (some ⟨b, off + 1, none⟩)) := by kernel_rfl
theorem ag139 : agg? Tryz.prog 139 = some false := by kernel_rfl
theorem ldr139 {β : Type} {W : Nat → Prop} {n0 : Nat} {h : H} {n : Nat} {Q : β → H → Nat → Prop} (b off : Nat) (k : Value → M β) (hb : b < n) : Run W n0 ((inside (evLoad Tryz.prog 139 (.pointer (some ⟨b, off, none⟩)))).bind k) h n Q ↔ optG (h.get b) fun B => Run W n0 (optK (B.cells[off]?) k) h n Q := ld_iff ag139 b off k hb
theorem len91 (a : Option Addr) (n c : Nat) : len2 Tryz.prog #[91] [.slice a n c] = some (.int .i64 n) := len_slice Tryz.underlying91 a n c
theorem fa143f0 (b off : Nat) : evFieldAddr Tryz.prog 143 (.pointer (some ⟨b, off, none⟩)) 0 = some (.pointer (some ⟨b, off + 0, none⟩)) := by kernel_rfl
theorem fa143f4 (b off : Nat) : evFieldAddr Tryz.prog 143 (.pointer (some ⟨b, off, none⟩)) 4 = some (.pointer (some ⟨b, off + 4, none⟩)) := by kernel_rfl
theorem ag141 : agg? Tryz.prog 141 = some false := by kernel_rfl
theorem ldr141 {β : Type} {W : Nat → Prop} {n0 : Nat} {h : H} {n : Nat} {Q : β → H → Nat → Prop} (b off : Nat) (k : Value → M β) (hb : b < n) : Run W n0 ((inside (evLoad Tryz.prog 141 (.pointer (some ⟨b, off, none⟩)))).bind k) h n Q ↔ optG (h.get b) fun B => Run W n0 (optK (B.cells[off]?) k) h n Q := ld_iff ag141 b off k hb
theorem len141 (a : Option Addr) (n c : Nat) : len2 Tryz.prog #[141] [.slice a n c] = some (.int .i64 n) := len_slice Tryz.underlying141 a n c
theorem fa69f0 (b off : Nat) : evFieldAddr Tryz.prog 69 (.pointer (some ⟨b, off, none⟩)) 0 = some (.pointer (some ⟨b, off + 0, none⟩)) := by kernel_rfl
theorem fa64f2 (b off : Nat) : evFieldAddr Tryz.prog 64 (.pointer (some ⟨b, off, none⟩)) 2 = some (.pointer (some ⟨b, off + 2, none⟩)) := by kernel_rfl
theorem ag62 : agg? Tryz.prog 62 = some false := by kernel_rfl
theorem ldr62 {β : Type} {W : Nat → Prop} {n0 : Nat} {h : H} {n : Nat} {Q : β → H → Nat → Prop} (b off : Nat) (k : Value → M β) (hb : b < n) : Run W n0 ((inside (evLoad Tryz.prog 62 (.pointer (some ⟨b, off, none⟩)))).bind k) h n Q ↔ optG (h.get b) fun B => Run W n0 (optK (B.cells[off]?) k) h n Q := ld_iff ag62 b off k hb
theorem nt62 : isNilT Tryz.prog 62 = false := by kernel_rfl
theorem bneq62 (a b : Int) : bin2 Tryz.prog .neq 62 (.int .u32 a) (.int .u32 b) = some (.bool (a != b)) := b_neq nt62 a b
theorem cv5x62 {β : Type} (x : Int) (k : Value → M β) : conv2 Tryz.prog 5 62 (.int .u8 x) k = k (.int .u32 (IntKind.u32.wrap x)) := by kernel_rfl
theorem blss62 (a b : Int) : bin2 Tryz.prog .lss 62 (.int .u32 a) (.int .u32 b) = some (.bool (decide (a < b))) := b_lss nt62 a b
theorem bgtr62 (a b : Int) : bin2 Tryz.prog .gtr 62 (.int .u32 a) (.int .u32 b) = some (.bool (decide (b < a))) := b_gtr nt62 a b
theorem bsub62 (a b : Int) : bin2 Tryz.prog .sub 62 (.int .u32 a) (.int .u32 b) = some (.int .u32 (IntKind.u32.wrap (a - b))) := b_sub nt62 a b
theorem cv62x3 {β : Type} (x : Int) (k : Value → M β) : conv2 Tryz.prog 62 3 (.int .u32 x) k = k (.int .i64 (IntKind.i64.wrap x)) := by kernel_rfl
theorem fa87f3 (b off : Nat) : evFieldAddr Tryz.prog 87 (.pointer (some ⟨b, off, none⟩)) 3 = some (.pointer (some ⟨b, off + 3, none⟩)) := by kernel_rfl
theorem fa87f6 (b off : Nat) : evFieldAddr Tryz.prog 87 (.pointer (some ⟨b, off, none⟩)) 6 = some (.pointer (some ⟨b, off + 8, none⟩)) := by kernel_rfl
theorem sz62 : size? Tryz.prog 62 = some 1 := by kernel_rfl
theorem str62 {β : Type} {W : Nat → Prop} {n0 : Nat} {h : H} {n : Nat} {Q : β → H → Nat → Prop} (b off : Nat) (v : Value) (k : Value → M β) (hb : b < n) (h1 : one v = true) : Run W n0 ((inside (evStore Tryz.prog 62 (.pointer (some ⟨b, off, none⟩)) v)).bind k) h n Q ↔ optG (h.get b) fun B => B.own = true ∧ off < B.cells.length ∧ (n0 ≤ b ∨ W b) ∧ Run W n0 (k undef) (h.set b (some ⟨B.elem, B.own, B.cells.set off v⟩)) n Q := st_iff sz62 b off v k hb h1
theorem sz84 : size? Tryz.prog 84 = some 1 := by kernel_rfl
theorem str84 {β : Type} {W : Nat → Prop} {n0 : Nat} {h : H} {n : Nat} {Q : β → H → Nat → Prop} (b off : Nat) (v : Value) (k : Value → M β) (hb : b < n) (h1 : one v = true) : Run W n0 ((inside (evStore Tryz.prog 84 (.pointer (some ⟨b, off, none⟩)) v)).bind k) h n Q ↔ optG (h.get b) fun B => B.own = true ∧ off < B.cells.length ∧ (n0 ≤ b ∨ W b) ∧ Run W n0 (k undef) (h.set b (some ⟨B.elem, B.own, B.cells.set off v⟩)) n Q := st_iff sz84 b off v k hb h1
theorem cv62x187 {β : Type} (x : Int) (k : Value → M β) : conv2 Tryz.prog 62 187 (.int .u32 x) k = k (.int .u64 (IntKind.u64.wrap x)) := by kernel_rfl
theorem nt187 : isNilT Tryz.prog 187 = false := by kernel_rfl
theorem bshl187 {k' : IntKind} (a b : Int) (h0 : 0 ≤ b) : bin2 Tryz.prog .shl 187 (.int .u64 a) (.int k' b) = some (.int .u64 (IntKind.u64.wrap (a * 2 ^ (min b.toNat (IntKind.u64).bits)))) := b_shl nt187 a b h0
theorem bor187 (a b : Int) : bin2 Tryz.prog .or 187 (.int .u64 a) (.int .u64 b) = some (.int .u64 (IntKind.u64.wrap (BitVec.ofInt (IntKind.u64).bits a ||| BitVec.ofInt (IntKind.u64).bits b).toNat)) := b_or nt187 a b
theorem beql187 (a b : Int) : bin2 Tryz.prog .eql 187 (.int .u64 a) (.int .u64 b) = some (.bool (a == b)) := b_eql nt187 a b
theorem fa87f0 (b off : Nat) : evFieldAddr Tryz.prog 87 (.pointer (some ⟨b, off, none⟩)) 0 = some (.pointer (some ⟨b, off + 0, none⟩)) := by kernel_rfl
theorem sz85 : size? Tryz.prog 85 = some 1 := by kernel_rfl
theorem str85 {β : Type} {W : Nat → Prop} {n0 : Nat} {h : H} {n : Nat} {Q : β → H → Nat → Prop} (b off : Nat) (v : Value) (k : Value → M β) (hb : b < n) (h1 : one v = true) : Run W n0 ((inside (evStore Tryz.prog 85 (.pointer (some ⟨b, off, none⟩)) v)).bind k) h n Q ↔ optG (h.get b) fun B => B.own = true ∧ off < B.cells.length ∧ (n0 ≤ b ∨ W b) ∧ Run W n0 (k undef) (h.set b (some ⟨B.elem, B.own, B.cells.set off v⟩)) n Q := st_iff sz85 b off v k hb h1
theorem bshl62 {k' : IntKind} (a b : Int) (h0 : 0 ≤ b) : bin2 Tryz.prog .shl 62 (.int .u32 a) (.int k' b) = some (.int .u32 (IntKind.u32.wrap (a * 2 ^ (min b.toNat (IntKind.u32).bits)))) := b_shl nt62 a b h0
theorem bor62 (a b : Int) : bin2 Tryz.prog .or 62 (.int .u32 a) (.int .u32 b) = some (.int .u32 (IntKind.u32.wrap (BitVec.ofInt (IntKind.u32).bits a ||| BitVec.ofInt (IntKind.u32).bits b).toNat)) := b_or nt62 a b
theorem bneq55s (a : Addr) : bin2 Tryz.prog .neq 55 (.pointer (some a)) (.pointer none) = some (.bool true) := by kernel_rfl
theorem bneq55n : bin2 Tryz.prog .neq 55 (.pointer none) (.pointer none) = some (.bool false) := by kernel_rfl
theorem nt5 : isNilT Tryz.prog 5 = false := by kernel_rfl
theorem bshr5 {k' : IntKind} (a b : Int) (h0 : 0 ≤ b) : bin2 Tryz.prog .shr 5 (.int .u8 a) (.int k' b) = some (.int .u8 (a.fdiv (2 ^ (min b.toNat (IntKind.u8).bits)))) := b_shr nt5 a b h0
theorem band5 (a b : Int) : bin2 Tryz.prog .and 5 (.int .u8 a) (.int .u8 b) = some (.int .u8 (IntKind.u8.wrap (BitVec.ofInt (IntKind.u8).bits a &&& BitVec.ofInt (IntKind.u8).bits b).toNat)) := b_and nt5 a b
theorem FX1 : (∀ (a : Option Addr) (n c : Nat), len2 Tryz.prog #[24] [.slice a n c] = some (.int .i64 n)) ∧ (∀ (a b : Int), bin2 Tryz.prog .gtr 3 (.int .i64 a) (.int .i64 b) = some (.bool (decide (b < a)))) ∧ (∀ (b off : Nat), evFieldAddr Tryz.prog 23 (.pointer (some ⟨b, off, none⟩)) 1 = some (.pointer (some ⟨b, off + 1, none⟩))) ∧ (∀ {β : Type} {W : Nat → Prop} {n0 : Nat} {h : H} {n : Nat} {Q : β → H → Nat → Prop} (b off : Nat) (k : Value → M β) (hb : b < n), Run W n0 ((inside (evLoad Tryz.prog 3 (.pointer (some ⟨b, off, none⟩)))).bind k) h n Q ↔ optG (h.get b) fun B => Run W n0 (optK (B.cells[off]?) k) h n Q) ∧ (∀ (b off : Nat), evFieldAddr Tryz.prog 23 (.pointer (some ⟨b, off, none⟩)) 0 = some (.pointer (some ⟨b, off + 0, none⟩))) ∧ (∀ (b off : Nat), evFieldAddr Tryz.prog 23 (.pointer (some ⟨b, off, none⟩)) 2 = some (.pointer (some ⟨b, off + 2, none⟩))) ∧ (∀ (a b : Int), bin2 Tryz.prog .lss 3 (.int .i64 a) (.int .i64 b) = some (.bool (decide (a < b)))) ∧ (∀ (b off n c : Nat) (k : IntKind) (i : Int) (h0 : 0 ≤ i) (h1 : i < n), evIndexAddr Tryz.prog 24 (.slice (some ⟨b, off, none⟩) n c) (.int k i) = some (.pointer (some ⟨b, off + i.toNat, none⟩))) ∧ (∀ {β : Type} {W : Nat → Prop} {n0 : Nat} {h : H} {n : Nat} {Q : β → H → Nat → Prop} (b off : Nat) (k : Value → M β) (hb : b < n), Run W n0 ((inside (evLoad Tryz.prog 9 (.pointer (some ⟨b, off, none⟩)))).bind k) h n Q ↔ optG (h.get b) fun B => Run W n0 (optK (B.cells[off]?) k) h n Q) ∧ (∀ (s : List UInt8), len2 Tryz.prog #[9] [.string ⟨s.toArray⟩] = some (.int .i64 s.length)) ∧ (∀ (a b : Int), bin2 Tryz.prog .sub 3 (.int .i64 a) (.int .i64 b) = some (.int .i64 (IntKind.i64.wrap (a - b)))) ∧ (∀ (a b : Int), bin2 Tryz.prog .neq 3 (.int .i64 a) (.int .i64 b) = some (.bool (a != b))) ∧ (∀ (a b : Int), bin2 Tryz.prog .add 3 (.int .i64 a) (.int .i64 b) = some (.int .i64 (IntKind.i64.wrap (a + b)))) ∧ (∀ (a b : Int), bin2 Tryz.prog .eql 27 (.int .i64 a) (.int .i64 b) = some (.bool (a == b))) ∧ (∀ (a b : Int), bin2 Tryz.prog .eql 3 (.int .i64 a) (.int .i64 b) = some (.bool (a == b))) ∧ (∀ (a b : List UInt8), bin2 Tryz.prog .eql 9 (.string ⟨a.toArray⟩) (.string ⟨b.toArray⟩) = some (.bool (decide (a = b)))) ∧ (∀ (a : Addr), bin2 Tryz.prog .eql 26 (.pointer (some a)) (.pointer none) = some (.bool false)) ∧ (bin2 Tryz.prog .eql 26 (.pointer none) (.pointer none) = some (.bool true)) ∧ (∀ (b off : Nat), evFieldAddr Tryz.prog 43 (.pointer (some ⟨b, off, none⟩)) 0 = some (.pointer (some ⟨b, off + 0, none⟩))) ∧ (∀ (b off : Nat), evFieldAddr Tryz.prog 43 (.pointer (some ⟨b, off, none⟩)) 1 = some (.pointer (some ⟨b, off + 1, none⟩))) ∧ (∀ (a b : List UInt8), bin2 Tryz.prog .neq 9 (.string ⟨a.toArray⟩) (.string ⟨b.toArray⟩) = some (.bool (!decide (a = b)))) ∧ (∀ (a : Addr), bin2 Tryz.prog .eql 41 (.pointer (some a)) (.pointer none) = some (.bool false)) ∧ (bin2 Tryz.prog .eql 41 (.pointer none) (.pointer none) = some (.bool true)) ∧ (∀ (a b : Int), bin2 Tryz.prog .neq 27 (.int .i64 a) (.int .i64 b) = some (.bool (a != b))) ∧ (∀ (v0 : Int) (v1 : Int) (v3 : Option Addr) (v4 : Option Addr), evBuild Tryz.prog 60 [(0, (Value.int .i64 v0)), (1, (Value.int .i64 v1)), (3, (Value.pointer v3)), (4, (Value.pointer v4))] = M.ret (.agg #[(Value.int .i64 v0), (Value.int .i64 v1), (Go.Value.bool false), (Value.pointer v3), (Value.pointer v4), (Go.Value.pointer none), (Go.Value.bool false), (Go.Value.slice none 0 0), (Go.Value.bool false), (Go.Value.int Go.IntKind.i64 0), (Go.Value.int Go.IntKind.i64 0)])) ∧ (∀ (b off : Nat), evFieldAddr Tryz.prog 60 (.pointer (some ⟨b, off, none⟩)) 2 = some (.pointer (some ⟨b, off + 2, none⟩))) ∧ (∀ {β : Type} {W : Nat → Prop} {n0 : Nat} {h : H} {n : Nat} {Q : β → H → Nat → Prop} (b off : Nat) (k : Value → M β) (hb : b < n), Run W n0 ((inside (evLoad Tryz.prog 4 (.pointer (some ⟨b, off, none⟩)))).bind k) h n Q ↔ optG (h.get b) fun B => Run W n0 (optK (B.cells[off]?) k) h n Q) ∧ (∀ (b off : Nat), evFieldAddr Tryz.prog 60 (.pointer (some ⟨b, off, none⟩)) 8 = some (.pointer (some ⟨b, off + 8, none⟩))) ∧ (∀ (b off : Nat), evFieldAddr Tryz.prog 60 (.pointer (some ⟨b, off, none⟩)) 0 = some (.pointer (some ⟨b, off + 0, none⟩))) ∧ (∀ (b off : Nat), evFieldAddr Tryz.prog 60 (.pointer (some ⟨b, off, none⟩)) 3 = some (.pointer (some ⟨b, off + 3, none⟩))) ∧ (∀ {β : Type} {W : Nat → Prop} {n0 : Nat} {h : H} {n : Nat} {Q : β → H → Nat → Prop} (b off : Nat) (k : Value → M β) (hb : b < n), Run W n0 ((inside (evLoad Tryz.prog 55 (.pointer (some ⟨b, off, none⟩)))).bind k) h n Q ↔ optG (h.get b) fun B => Run W n0 (optK (B.cells[off]?) k) h n Q) ∧ (∀ {β : Type} (l : List UInt8) (kd : IntKind) (j : Int) (k : Value → M β) (h0 : 0 ≤ j) (h1 : j ≤ l.length), slice2 Tryz.prog 9 (.string ⟨l.toArray⟩) none (some (.int kd j)) none k = k (.string ⟨(l.take j.toNat).toArray⟩)) ∧ (∀ {β : Type} (l : List UInt8) (kd : IntKind) (i : Int) (k : Value → M β) (h0 : 0 ≤ i) (h1 : i ≤ l.length), slice2 Tryz.prog 9 (.string ⟨l.toArray⟩) (some (.int kd i)) none none k = k (.string ⟨(l.drop i.toNat).toArray⟩)) ∧ (∀ {β : Type} (l : List UInt8) (kd kd' : IntKind) (i j : Int) (k : Value → M β) (h0 : 0 ≤ i) (h1 : i ≤ j) (h2 : j ≤ l.length), slice2 Tryz.prog 9 (.string ⟨l.toArray⟩) (some (.int kd i)) (some (.int kd' j)) none k = k (.string ⟨((l.drop i.toNat).take (j.toNat - i.toNat)).toArray⟩)) ∧ (∀ (b off : Nat), evFieldAddr Tryz.prog 60 (.pointer (some ⟨b, off, none⟩)) 6 = some (.pointer (some ⟨b, off + 6, none⟩))) ∧ (∀ {β : Type} {W : Nat → Prop} {n0 : Nat} {h : H} {n : Nat} {Q : β → H → Nat → Prop} (b off : Nat) (v : Value) (k : Value → M β) (hb : b < n) (h1 : one v = true), Run W n0 ((inside (evStore Tryz.prog 4 (.pointer (some ⟨b, off, none⟩)) v)).bind k) h n Q ↔ optG (h.get b) fun B => B.own = true ∧ off < B.cells.length ∧ (n0 ≤ b ∨ W b) ∧ Run W n0 (k undef) (h.set b (some ⟨B.elem, B.own, B.cells.set off v⟩)) n Q) ∧ (∀ (b off : Nat), evFieldAddr Tryz.prog 60 (.pointer (some ⟨b, off, none⟩)) 4 = some (.pointer (some ⟨b, off + 4, none⟩))) ∧ (∀ {β : Type} {W : Nat → Prop} {n0 : Nat} {h : H} {n : Nat} {Q : β → H → Nat → Prop} (b off : Nat) (k : Value → M β) (hb : b < n), Run W n0 ((inside (evLoad Tryz.prog 51 (.pointer (some ⟨b, off, none⟩)))).bind k) h n Q ↔ optG (h.get b) fun B => Run W n0 (optK (B.cells[off]?) k) h n Q) ∧ (∀ (b off : Nat), evFieldAddr Tryz.prog 60 (.pointer (some ⟨b, off, none⟩)) 7 = some (.pointer (some ⟨b, off + 7, none⟩))) ∧ (∀ {β : Type} {W : Nat → Prop} {n0 : Nat} {h : H} {n : Nat} {Q : β → H → Nat → Prop} (b off : Nat) (k : Value → M β) (hb : b < n), Run W n0 ((inside (evLoad Tryz.prog 58 (.pointer (some ⟨b, off, none⟩)))).bind k) h n Q ↔ optG (h.get b) fun B => Run W n0 (optK (B.cells[off]?) k) h n Q) ∧ (∀ (a : Option Addr) (n c : Nat), len2 Tryz.prog #[58] [.slice a n c] = some (.int .i64 n)) ∧ (∀ (b off : Nat), evFieldAddr Tryz.prog 60 (.pointer (some ⟨b, off, none⟩)) 5 = some (.pointer (some ⟨b, off + 5, none⟩))) ∧ (∀ {β : Type} {W : Nat → Prop} {n0 : Nat} {h : H} {n : Nat} {Q : β → H → Nat → Prop} (b off : Nat) (k : Value → M β) (hb : b < n), Run W n0 ((inside (evLoad Tryz.prog 57 (.pointer (some ⟨b, off, none⟩)))).bind k) h n Q ↔ optG (h.get b) fun B => Run W n0 (optK (B.cells[off]?) k) h n Q) ∧ (∀ (a : Addr), bin2 Tryz.prog .neq 57 (.pointer (some a)) (.pointer none) = some (.bool true)) ∧ (bin2 Tryz.prog .neq 57 (.pointer none) (.pointer none) = some (.bool false)) ∧ (∀ (b off : Nat), evFieldAddr Tryz.prog 69 (.pointer (some ⟨b, off, none⟩)) 1 = some (.pointer (some ⟨b, off + 3, none⟩))) ∧ (∀ {β : Type} {W : Nat → Prop} {n0 : Nat} {h : H} {n : Nat} {Q : β → H → Nat → Prop} (b off : Nat) (k : Value → M β) (hb : b < n), Run W n0 ((inside (evLoad Tryz.prog 65 (.pointer (some ⟨b, off, none⟩)))).bind k) h n Q ↔ optG (h.get b) fun B => Run W n0 (optK (B.cells[off]?) k) h n Q) ∧ (∀ (b off : Nat), evFieldAddr Tryz.prog 60 (.pointer (some ⟨b, off, none⟩)) 1 = some (.pointer (some ⟨b, off + 1, none⟩))) ∧ (∀ (a b : Int), bin2 Tryz.prog .geq 3 (.int .i64 a) (.int .i64 b) = some (.bool (decide (b ≤ a)))) ∧ (∀ (a : Addr), bin2 Tryz.prog .neq 26 (.pointer (some a)) (.pointer none) = some (.bool true)) := ⟨@len24, @bgtr3, @fa23f1, @ldr3, @fa23f0, @fa23f2, @blss3, @ix24, @ldr9, @len9, @bsub3, @bneq3, @badd3, @beql27, @beql3, @beql9, @beql26s, @beql26n, @fa43f0, @fa43f1, @bneq9, @beql41s, @beql41n, @bneq27, @bd60x0x1x3x4, @fa60f2, @ldr4, @fa60f8, @fa60f0, @fa60f3, @ldr55, @slh9, @sll9, @slb9, @fa60f6, @str4, @fa60f4, @ldr51, @fa60f7, @ldr58, @len58, @fa60f5, @ldr57, @bneq57s, @bneq57n, @fa69f1, @ldr65, @fa60f1, @bgeq3, @bneq26s⟩
theorem FX2 : (bin2 Tryz.prog .neq 26 (.pointer none) (.pointer none) = some (.bool false)) ∧ (∀ (b off : Nat), evFieldAddr Tryz.prog 60 (.pointer (some ⟨b, off, none⟩)) 10 = some (.pointer (some ⟨b, off + 10, none⟩))) ∧ (∀ {β : Type} {W : Nat → Prop} {n0 : Nat} {h : H} {n : Nat} {Q : β → H → Nat → Prop} (b off : Nat) (v : Value) (k : Value → M β) (hb : b < n) (h1 : one v = true), Run W n0 ((inside (evStore Tryz.prog 3 (.pointer (some ⟨b, off, none⟩)) v)).bind k) h n Q ↔ optG (h.get b) fun B => B.own = true ∧ off < B.cells.length ∧ (n0 ≤ b ∨ W b) ∧ Run W n0 (k undef) (h.set b (some ⟨B.elem, B.own, B.cells.set off v⟩)) n Q) ∧ (∀ {β : Type} {W : Nat → Prop} {n0 : Nat} {h : H} {n : Nat} {Q : β → H → Nat → Prop} (b off : Nat) (v : Value) (k : Value → M β) (hb : b < n) (h1 : one v = true), Run W n0 ((inside (evStore Tryz.prog 58 (.pointer (some ⟨b, off, none⟩)) v)).bind k) h n Q ↔ optG (h.get b) fun B => B.own = true ∧ off < B.cells.length ∧ (n0 ≤ b ∨ W b) ∧ Run W n0 (k undef) (h.set b (some ⟨B.elem, B.own, B.cells.set off v⟩)) n Q) ∧ (∀ (b off : Nat), evFieldAddr Tryz.prog 60 (.pointer (some ⟨b, off, none⟩)) 9 = some (.pointer (some ⟨b, off + 9, none⟩))) ∧ (∀ {β : Type} {W : Nat → Prop} {n0 : Nat} {h : H} {n : Nat} {Q : β → H → Nat → Prop} (b off : Nat) (k : Value → M β) (hb : b < n), Run W n0 ((inside (evLoad Tryz.prog 27 (.pointer (some ⟨b, off, none⟩)))).bind k) h n Q ↔ optG (h.get b) fun B => Run W n0 (optK (B.cells[off]?) k) h n Q) ∧ (∀ (a b : Int), bin2 Tryz.prog .mul 3 (.int .i64 a) (.int .i64 b) = some (.int .i64 (IntKind.i64.wrap (a * b)))) ∧ (∀ (b off : Nat), evFieldAddr Tryz.prog 73 (.pointer (some ⟨b, off, none⟩)) 0 = some (.pointer (some ⟨b, off + 0, none⟩))) ∧ (∀ (b off : Nat), evFieldAddr Tryz.prog 71 (.pointer (some ⟨b, off, none⟩)) 0 = some (.pointer (some ⟨b, off + 0, none⟩))) ∧ (∀ {β : Type} {W : Nat → Prop} {n0 : Nat} {h : H} {n : Nat} {Q : β → H → Nat → Prop} (b off : Nat) (k : Value → M β) (hb : b < n), Run W n0 ((inside (evLoad Tryz.prog 26 (.pointer (some ⟨b, off, none⟩)))).bind k) h n Q ↔ optG (h.get b) fun B => Run W n0 (optK (B.cells[off]?) k) h n Q) ∧ (∀ (b off : Nat), evFieldAddr Tryz.prog 73 (.pointer (some ⟨b, off, none⟩)) 1 = some (.pointer (some ⟨b, off + 2, none⟩))) ∧ (∀ {β : Type} {W : Nat → Prop} {n0 : Nat} {h : H} {n : Nat} {Q : β → H → Nat → Prop} (b off : Nat) (v : Value) (k : Value → M β) (hb : b < n) (h1 : one v = true), Run W n0 ((inside (evStore Tryz.prog 9 (.pointer (some ⟨b, off, none⟩)) v)).bind k) h n Q ↔ optG (h.get b) fun B => B.own = true ∧ off < B.cells.length ∧ (n0 ≤ b ∨ W b) ∧ Run W n0 (k undef) (h.set b (some ⟨B.elem, B.own, B.cells.set off v⟩)) n Q) ∧ (∀ (a : Addr), bin2 Tryz.prog .neq 41 (.pointer (some a)) (.pointer none) = some (.bool true)) ∧ (bin2 Tryz.prog .neq 41 (.pointer none) (.pointer none) = some (.bool false)) ∧ (∀ (b off : Nat), evFieldAddr Tryz.prog 71 (.pointer (some ⟨b, off, none⟩)) 1 = some (.pointer (some ⟨b, off + 1, none⟩))) ∧ (∀ (v0 : Option Addr), evBuild Tryz.prog 71 [(0, (Value.pointer v0))] = M.ret (.agg #[(Value.pointer v0), (Go.Value.int Go.IntKind.i64 0)])) ∧ (∀ (v0f0 : Option Addr) (v0f1 : Int), evBuild Tryz.prog 73 [(0, (Value.agg #[(Value.pointer v0f0), (Value.int .i64 v0f1)]))] = M.ret (.agg #[(Value.pointer v0f0), (Value.int .i64 v0f1), (Go.Value.string { data := #[] }), (Go.Value.bool false)])) ∧ (∀ {β : Type} (x : Int) (k : Value → M β), conv2 Tryz.prog 3 5 (.int .i64 x) k = k (.int .u8 (IntKind.u8.wrap x))) ∧ (∀ (a b : Int) (h0 : b ≠ 0), bin2 Tryz.prog .quo 3 (.int .i64 a) (.int .i64 b) = some (.int .i64 (IntKind.i64.wrap (a.tdiv b)))) ∧ (∀ (a b : Int) (h0 : b ≠ 0), bin2 Tryz.prog .rem 3 (.int .i64 a) (.int .i64 b) = some (.int .i64 (a.tmod b))) ∧ (∀ (a b : List UInt8) (h : a.length + b.length ≤ 9223372036854775807), bin2 Tryz.prog .add 9 (.string ⟨a.toArray⟩) (.string ⟨b.toArray⟩) = some (.string ⟨(a ++ b).toArray⟩)) ∧ (∀ (a b : Int), bin2 Tryz.prog .leq 3 (.int .i64 a) (.int .i64 b) = some (.bool (decide (a ≤ b)))) ∧ (∀ (v0 : Int), evBuild Tryz.prog 87 [(0, (Value.int .i64 v0))] = M.ret (.agg #[(Value.int .i64 v0), (Go.Value.int Go.IntKind.i64 0), (Go.Value.int Go.IntKind.i64 0), (Go.Value.int Go.IntKind.i64 0), (Go.Value.pointer none), (Go.Value.string { data := #[] }), (Go.Value.int Go.IntKind.i64 0), (Go.Value.int Go.IntKind.u32 0), (Go.Value.int Go.IntKind.u32 0), (Go.Value.bool false), (Go.Value.int Go.IntKind.i64 0)])) ∧ (∀ (v0 : ByteArray), evBuild Tryz.prog 89 [(0, (Value.string v0))] = M.ret (.agg #[(Value.string v0), (Go.Value.int Go.IntKind.i64 0), (Go.Value.int Go.IntKind.i64 0)])) ∧ (∀ (a : Addr), bin2 Tryz.prog .eql 55 (.pointer (some a)) (.pointer none) = some (.bool false)) ∧ (bin2 Tryz.prog .eql 55 (.pointer none) (.pointer none) = some (.bool true)) ∧ (∀ (b off : Nat), evFieldAddr Tryz.prog 89 (.pointer (some ⟨b, off, none⟩)) 0 = some (.pointer (some ⟨b, off + 0, none⟩))) ∧ (∀ (a : Addr), bin2 Tryz.prog .eql 51 (.pointer (some a)) (.pointer none) = some (.bool false)) ∧ (bin2 Tryz.prog .eql 51 (.pointer none) (.pointer none) = some (.bool true)) ∧ (∀ (b off : Nat), evFieldAddr Tryz.prog 87 (.pointer (some ⟨b, off, none⟩)) 4 = some (.pointer (some ⟨b, off + 4, none⟩))) ∧ (∀ {β : Type} {W : Nat → Prop} {n0 : Nat} {h : H} {n : Nat} {Q : β → H → Nat → Prop} (b off : Nat) (k : Value → M β) (hb : b < n), Run W n0 ((inside (evLoad Tryz.prog 85 (.pointer (some ⟨b, off, none⟩)))).bind k) h n Q ↔ optG (h.get b) fun B => Run W n0 (optK (B.cells[off]?) k) h n Q) ∧ (∀ (a : Addr), bin2 Tryz.prog .eql 65 (.pointer (some a)) (.pointer none) = some (.bool false)) ∧ (bin2 Tryz.prog .eql 65 (.pointer none) (.pointer none) = some (.bool true)) ∧ (∀ (b off : Nat), evFieldAddr Tryz.prog 93 (.pointer (some ⟨b, off, none⟩)) 0 = some (.pointer (some ⟨b, off + 0, none⟩))) ∧ (∀ (b off : Nat), evFieldAddr Tryz.prog 93 (.pointer (some ⟨b, off, none⟩)) 4 = some (.pointer (some ⟨b, off + 259, none⟩))) ∧ (∀ {β : Type} {W : Nat → Prop} {n0 : Nat} {h : H} {n : Nat} {Q : β → H → Nat → Prop} (b off : Nat) (v : Value) (k : Value → M β) (hb : b < n) (h1 : one v = true), Run W n0 ((inside (evStore Tryz.prog 57 (.pointer (some ⟨b, off, none⟩)) v)).bind k) h n Q ↔ optG (h.get b) fun B => B.own = true ∧ off < B.cells.length ∧ (n0 ≤ b ∨ W b) ∧ Run W n0 (k undef) (h.set b (some ⟨B.elem, B.own, B.cells.set off v⟩)) n Q) ∧ (∀ (a b : Int), bin2 Tryz.prog .eql 97 (.int .i64 a) (.int .i64 b) = some (.bool (a == b))) ∧ (∀ (b off : Nat), evFieldAddr Tryz.prog 73 (.pointer (some ⟨b, off, none⟩)) 2 = some (.pointer (some ⟨b, off + 3, none⟩))) ∧ (∀ (a : Addr), bin2 Tryz.prog .eql 85 (.pointer (some a)) (.pointer none) = some (.bool false)) ∧ (bin2 Tryz.prog .eql 85 (.pointer none) (.pointer none) = some (.bool true)) ∧ (∀ (b off : Nat), evFieldAddr Tryz.prog 118 (.pointer (some ⟨b, off, none⟩)) 0 = some (.pointer (some ⟨b, off + 0, none⟩))) ∧ (∀ {β : Type} {W : Nat → Prop} {n0 : Nat} {h : H} {n : Nat} {Q : β → H → Nat → Prop} (b off : Nat) (k : Value → M β) (hb : b < n), Run W n0 ((inside (evLoad Tryz.prog 116 (.pointer (some ⟨b, off, none⟩)))).bind k) h n Q ↔ optG (h.get b) fun B => Run W n0 (optK (B.cells[off]?) k) h n Q) ∧ (∀ (a : Addr), bin2 Tryz.prog .eql 116 (.pointer (some a)) (.pointer none) = some (.bool false)) ∧ (bin2 Tryz.prog .eql 116 (.pointer none) (.pointer none) = some (.bool true)) ∧ (∀ (b off : Nat), evFieldAddr Tryz.prog 118 (.pointer (some ⟨b, off, none⟩)) 5 = some (.pointer (some ⟨b, off + 5, none⟩))) ∧ (∀ (b off : Nat), evFieldAddr Tryz.prog 123 (.pointer (some ⟨b, off, none⟩)) 0 = some (.pointer (some ⟨b, off + 0, none⟩))) ∧ (∀ {β : Type} {W : Nat → Prop} {n0 : Nat} {h : H} {n : Nat} {Q : β → H → Nat → Prop} (b off : Nat) (k : Value → M β) (hb : b < n), Run W n0 ((inside (evLoad Tryz.prog 119 (.pointer (some ⟨b, off, none⟩)))).bind k) h n Q ↔ optG (h.get b) fun B => Run W n0 (optK (B.cells[off]?) k) h n Q) ∧ (∀ (b off : Nat), evFieldAddr Tryz.prog 69 (.pointer (some ⟨b, off, none⟩)) 2 = some (.pointer (some ⟨b, off + 4, none⟩))) ∧ (∀ {β : Type} {W : Nat → Prop} {n0 : Nat} {h : H} {n : Nat} {Q : β → H → Nat → Prop} (b off : Nat) (k : Value → M β) (hb : b < n), Run W n0 ((inside (evLoad Tryz.prog 66 (.pointer (some ⟨b, off, none⟩)))).bind k) h n Q ↔ optG (h.get b) fun B => Run W n0 (optK (B.cells[off]?) k) h n Q) ∧ (∀ (l : List UInt8) (k : IntKind) (i : Int) (h0 : 0 ≤ i) (h1 : i < l.length), index2 Tryz.prog 9 (.string ⟨l.toArray⟩) (.int k i) = some (.int .u8 (l.getD i.toNat 0).toNat)) := ⟨@bneq26n, @fa60f10, @str3, @str58, @fa60f9, @ldr27, @bmul3, @fa73f0, @fa71f0, @ldr26, @fa73f1, @str9, @bneq41s, @bneq41n, @fa71f1, @bd71x0, @bd73x0, @cv3x5, @bquo3, @brem3, @badd9, @bleq3, @bd87x0, @bd89x0, @beql55s, @beql55n, @fa89f0, @beql51s, @beql51n, @fa87f4, @ldr85, @beql65s, @beql65n, @fa93f0, @fa93f4, @str57, @beql97, @fa73f2, @beql85s, @beql85n, @fa118f0, @ldr116, @beql116s, @beql116n, @fa118f5, @fa123f0, @ldr119, @fa69f2, @ldr66, @ixs9⟩
theorem FX3 : (∀ (b off : Nat), evFieldAddr Tryz.prog 69 (.pointer (some ⟨b, off, none⟩)) 3 = some (.pointer (some ⟨b, off + 5, none⟩))) ∧ (∀ {β : Type} {W : Nat → Prop} {n0 : Nat} {h : H} {n : Nat} {Q : β → H → Nat → Prop} (b off : Nat) (k : Value → M β) (hb : b < n), Run W n0 ((inside (evLoad Tryz.prog 67 (.pointer (some ⟨b, off, none⟩)))).bind k) h n Q ↔ optG (h.get b) fun B => Run W n0 (optK (B.cells[off]?) k) h n Q) ∧ (∀ {β : Type} {W : Nat → Prop} {n0 : Nat} {h : H} {n : Nat} {Q : β → H → Nat → Prop} (b off : Nat) (v : Value) (k : Value → M β) (hb : b < n) (h1 : one v = true), Run W n0 ((inside (evStore Tryz.prog 27 (.pointer (some ⟨b, off, none⟩)) v)).bind k) h n Q ↔ optG (h.get b) fun B => B.own = true ∧ off < B.cells.length ∧ (n0 ≤ b ∨ W b) ∧ Run W n0 (k undef) (h.set b (some ⟨B.elem, B.own, B.cells.set off v⟩)) n Q) ∧ (∀ (a : Addr), bin2 Tryz.prog .neq 65 (.pointer (some a)) (.pointer none) = some (.bool true)) ∧ (bin2 Tryz.prog .neq 65 (.pointer none) (.pointer none) = some (.bool false)) ∧ (∀ (b off : Nat), evFieldAddr Tryz.prog 93 (.pointer (some ⟨b, off, none⟩)) 5 = some (.pointer (some ⟨b, off + 260, none⟩))) ∧ (∀ (a : Addr), bin2 Tryz.prog .neq 51 (.pointer (some a)) (.pointer none) = some (.bool true)) ∧ (bin2 Tryz.prog .neq 51 (.pointer none) (.pointer none) = some (.bool false)) ∧ (∀ (b off : Nat), evFieldAddr Tryz.prog 87 (.pointer (some ⟨b, off, none⟩)) 7 = some (.pointer (some ⟨b, off + 9, none⟩))) ∧ (∀ (b off : Nat), evFieldAddr Tryz.prog 87 (.pointer (some ⟨b, off, none⟩)) 1 = some (.pointer (some ⟨b, off + 1, none⟩))) ∧ (∀ {β : Type} {W : Nat → Prop} {n0 : Nat} {h : H} {n : Nat} {Q : β → H → Nat → Prop} (b off : Nat) (k : Value → M β) (hb : b < n), Run W n0 ((inside (evLoad Tryz.prog 84 (.pointer (some ⟨b, off, none⟩)))).bind k) h n Q ↔ optG (h.get b) fun B => Run W n0 (optK (B.cells[off]?) k) h n Q) ∧ (∀ (a b : Int), bin2 Tryz.prog .eql 84 (.int .i64 a) (.int .i64 b) = some (.bool (a == b))) ∧ (∀ (b off : Nat), evFieldAddr Tryz.prog 87 (.pointer (some ⟨b, off, none⟩)) 2 = some (.pointer (some ⟨b, off + 2, none⟩))) ∧ (∀ (b off : Nat), evFieldAddr Tryz.prog 87 (.pointer (some ⟨b, off, none⟩)) 8 = some (.pointer (some ⟨b, off + 10, none⟩))) ∧ (∀ (b off : Nat), evFieldAddr Tryz.prog 89 (.pointer (some ⟨b, off, none⟩)) 2 = some (.pointer (some ⟨b, off + 2, none⟩))) ∧ (∀ (b off : Nat), evFieldAddr Tryz.prog 89 (.pointer (some ⟨b, off, none⟩)) 1 = some (.pointer (some ⟨b, off + 1, none⟩))) ∧ (∀ (b off : Nat), evFieldAddr Tryz.prog 64 (.pointer (some ⟨b, off, none⟩)) 0 = some (.pointer (some ⟨b, off + 0, none⟩))) ∧ (∀ (b off : Nat), evFieldAddr Tryz.prog 64 (.pointer (some ⟨b, off, none⟩)) 1 = some (.pointer (some ⟨b, off + 1, none⟩))) ∧ (∀ (v0f0 : ByteArray) (v0f1 : Int) (v0f2 : Int) (v1 : Option Addr) (v2 : Option Addr) (v3 : Option Addr), evBuild Tryz.prog 69 [(0, (Value.agg #[(Value.string v0f0), (Value.int .i64 v0f1), (Value.int .u32 v0f2)])), (1, (Value.pointer v1)), (2, (Value.pointer v2)), (3, (Value.pointer v3))] = M.ret (.agg #[(Value.string v0f0), (Value.int .i64 v0f1), (Value.int .u32 v0f2), (Value.pointer v1), (Value.pointer v2), (Value.pointer v3)])) ∧ (evBuild Tryz.prog 64 [] = M.ret (.agg #[(Go.Value.string { data := #[] }), (Go.Value.int Go.IntKind.i64 0), (Go.Value.int Go.IntKind.u32 0)])) ∧ (∀ (b off : Nat), evFieldAddr Tryz.prog 87 (.pointer (some ⟨b, off, none⟩)) 5 = some (.pointer (some ⟨b, off + 5, none⟩))) ∧ (∀ (a : Addr), bin2 Tryz.prog .eql 119 (.pointer (some a)) (.pointer none) = some (.bool false)) ∧ (bin2 Tryz.prog .eql 119 (.pointer none) (.pointer none) = some (.bool true)) ∧ (∀ (b off : Nat), evFieldAddr Tryz.prog 143 (.pointer (some ⟨b, off, none⟩)) 1 = some (.pointer (some ⟨b, off + 1, none⟩))) ∧ (∀ {β : Type} {W : Nat → Prop} {n0 : Nat} {h : H} {n : Nat} {Q : β → H → Nat → Prop} (b off : Nat) (k : Value → M β) (hb : b < n), Run W n0 ((inside (evLoad Tryz.prog 139 (.pointer (some ⟨b, off, none⟩)))).bind k) h n Q ↔ optG (h.get b) fun B => Run W n0 (optK (B.cells[off]?) k) h n Q) ∧ (∀ (a : Option Addr) (n c : Nat), len2 Tryz.prog #[91] [.slice a n c] = some (.int .i64 n)) ∧ (∀ (b off : Nat), evFieldAddr Tryz.prog 143 (.pointer (some ⟨b, off, none⟩)) 0 = some (.pointer (some ⟨b, off + 0, none⟩))) ∧ (∀ (b off : Nat), evFieldAddr Tryz.prog 143 (.pointer (some ⟨b, off, none⟩)) 4 = some (.pointer (some ⟨b, off + 4, none⟩))) ∧ (∀ {β : Type} {W : Nat → Prop} {n0 : Nat} {h : H} {n : Nat} {Q : β → H → Nat → Prop} (b off : Nat) (k : Value → M β) (hb : b < n), Run W n0 ((inside (evLoad Tryz.prog 141 (.pointer (some ⟨b, off, none⟩)))).bind k) h n Q ↔ optG (h.get b) fun B => Run W n0 (optK (B.cells[off]?) k) h n Q) ∧ (∀ (a : Option Addr) (n c : Nat), len2 Tryz.prog #[141] [.slice a n c] = some (.int .i64 n)) ∧ (∀ (b off : Nat), evFieldAddr Tryz.prog 69 (.pointer (some ⟨b, off, none⟩)) 0 = some (.pointer (some ⟨b, off + 0, none⟩))) ∧ (∀ (b off : Nat), evFieldAddr Tryz.prog 64 (.pointer (some ⟨b, off, none⟩)) 2 = some (.pointer (some ⟨b, off + 2, none⟩))) ∧ (∀ {β : Type} {W : Nat → Prop} {n0 : Nat} {h : H} {n : Nat} {Q : β → H → Nat → Prop} (b off : Nat) (k : Value → M β) (hb : b < n), Run W n0 ((inside (evLoad Tryz.prog 62 (.pointer (some ⟨b, off, none⟩)))).bind k) h n Q ↔ optG (h.get b) fun B => Run W n0 (optK (B.cells[off]?) k) h n Q) ∧ (∀ (a b : Int), bin2 Tryz.prog .neq 62 (.int .u32 a) (.int .u32 b) = some (.bool (a != b))) ∧ (∀ {β : Type} (x : Int) (k : Value → M β), conv2 Tryz.prog 5 62 (.int .u8 x) k = k (.int .u32 (IntKind.u32.wrap x))) ∧ (∀ (a b : Int), bin2 Tryz.prog .lss 62 (.int .u32 a) (.int .u32 b) = some (.bool (decide (a < b)))) ∧ (∀ (a b : Int), bin2 Tryz.prog .gtr 62 (.int .u32 a) (.int .u32 b) = some (.bool (decide (b < a)))) ∧ (∀ (a b : Int), bin2 Tryz.prog .sub 62 (.int .u32 a) (.int .u32 b) = some (.int .u32 (IntKind.u32.wrap (a - b)))) ∧ (∀ {β : Type} (x : Int) (k : Value → M β), conv2 Tryz.prog 62 3 (.int .u32 x) k = k (.int .i64 (IntKind.i64.wrap x))) ∧ (∀ (b off : Nat), evFieldAddr Tryz.prog 87 (.pointer (some ⟨b, off, none⟩)) 3 = some (.pointer (some ⟨b, off + 3, none⟩))) ∧ (∀ (b off : Nat), evFieldAddr Tryz.prog 87 (.pointer (some ⟨b, off, none⟩)) 6 = some (.pointer (some ⟨b, off + 8, none⟩))) ∧ (∀ {β : Type} {W : Nat → Prop} {n0 : Nat} {h : H} {n : Nat} {Q : β → H → Nat → Prop} (b off : Nat) (v : Value) (k : Value → M β) (hb : b < n) (h1 : one v = true), Run W n0 ((inside (evStore Tryz.prog 62 (.pointer (some ⟨b, off, none⟩)) v)).bind k) h n Q ↔ optG (h.get b) fun B => B.own = true ∧ off < B.cells.length ∧ (n0 ≤ b ∨ W b) ∧ Run W n0 (k undef) (h.set b (some ⟨B.elem, B.own, B.cells.set off v⟩)) n Q) ∧ (∀ {β : Type} {W : Nat → Prop} {n0 : Nat} {h : H} {n : Nat} {Q : β → H → Nat → Prop} (b off : Nat) (v : Value) (k : Value → M β) (hb : b < n) (h1 : one v = true), Run W n0 ((inside (evStore Tryz.prog 84 (.pointer (some ⟨b, off, none⟩)) v)).bind k) h n Q ↔ optG (h.get b) fun B => B.own = true ∧ off < B.cells.length ∧ (n0 ≤ b ∨ W b) ∧ Run W n0 (k undef) (h.set b (some ⟨B.elem, B.own, B.cells.set off v⟩)) n Q) ∧ (∀ {β : Type} (x : Int) (k : Value → M β), conv2 Tryz.prog 62 187 (.int .u32 x) k = k (.int .u64 (IntKind.u64.wrap x))) ∧ (∀ {k' : IntKind} (a b : Int) (h0 : 0 ≤ b), bin2 Tryz.prog .shl 187 (.int .u64 a) (.int k' b) = some (.int .u64 (IntKind.u64.wrap (a * 2 ^ (min b.toNat (IntKind.u64).bits))))) ∧ (∀ (a b : Int), bin2 Tryz.prog .or 187 (.int .u64 a) (.int .u64 b) = some (.int .u64 (IntKind.u64.wrap (BitVec.ofInt (IntKind.u64).bits a ||| BitVec.ofInt (IntKind.u64).bits b).toNat))) ∧ (∀ (a b : Int), bin2 Tryz.prog .eql 187 (.int .u64 a) (.int .u64 b) = some (.bool (a == b))) ∧ (∀ (b off : Nat), evFieldAddr Tryz.prog 87 (.pointer (some ⟨b, off, none⟩)) 0 = some (.pointer (some ⟨b, off + 0, none⟩))) ∧ (∀ {β : Type} {W : Nat → Prop} {n0 : Nat} {h : H} {n : Nat} {Q : β → H → Nat → Prop} (b off : Nat) (v : Value) (k : Value → M β) (hb : b < n) (h1 : one v = true), Run W n0 ((inside (evStore Tryz.prog 85 (.pointer (some ⟨b, off, none⟩)) v)).bind k) h n Q ↔ optG (h.get b) fun B => B.own = true ∧ off < B.cells.length ∧ (n0 ≤ b ∨ W b) ∧ Run W n0 (k undef) (h.set b (some ⟨B.elem, B.own, B.cells.set off v⟩)) n Q) ∧ (∀ {k' : IntKind} (a b : Int) (h0 : 0 ≤ b), bin2 Tryz.prog .shl 62 (.int .u32 a) (.int k' b) = some (.int .u32 (IntKind.u32.wrap (a * 2 ^ (min b.toNat (IntKind.u32).bits))))) := ⟨@fa69f3, @ldr67, @str27, @bneq65s, @bneq65n, @fa93f5, @bneq51s, @bneq51n, @fa87f7, @fa87f1, @ldr84, @beql84, @fa87f2, @fa87f8, @fa89f2, @fa89f1, @fa64f0, @fa64f1, @bd69x0x1x2x3, @bd64x, @fa87f5, @beql119s, @beql119n, @fa143f1, @ldr139, @len91, @fa143f0, @fa143f4, @ldr141, @len141, @fa69f0, @fa64f2, @ldr62, @bneq62, @cv5x62, @blss62, @bgtr62, @bsub62, @cv62x3, @fa87f3, @fa87f6, @str62, @str84, @cv62x187, @bshl187, @bor187, @beql187, @fa87f0, @str85, @bshl62⟩
theorem FX4 : (∀ (a b : Int), bin2 Tryz.prog .or 62 (.int .u32 a) (.int .u32 b) = some (.int .u32 (IntKind.u32.wrap (BitVec.ofInt (IntKind.u32).bits a ||| BitVec.ofInt (IntKind.u32).bits b).toNat))) ∧ (∀ (a : Addr), bin2 Tryz.prog .neq 55 (.pointer (some a)) (.pointer none) = some (.bool true)) ∧ (bin2 Tryz.prog .neq 55 (.pointer none) (.pointer none) = some (.bool false)) ∧ (∀ {k' : IntKind} (a b : Int) (h0 : 0 ≤ b), bin2 Tryz.prog .shr 5 (.int .u8 a) (.int k' b) = some (.int .u8 (a.fdiv (2 ^ (min b.toNat (IntKind.u8).bits))))) ∧ (∀ (a b : Int), bin2 Tryz.prog .and 5 (.int .u8 a) (.int .u8 b) = some (.int .u8 (IntKind.u8.wrap (BitVec.ofInt (IntKind.u8).bits a &&& BitVec.ofInt (IntKind.u8).bits b).toNat))) := ⟨@bor62, @bneq55s, @bneq55n, @bshr5, @band5⟩

/- balerlaw24_UnpressFeeds -/
noncomputable def lpA_balerlaw24_UnpressFeeds (lf d fu : Nat) (k : Ex → Fr → M Value) (x0 : Value) (x1 : Value) (x2 : Value) (x4 : Value) (x5 : Value) (x6 : Value) (x7 : Value) (x24 : Value) (x36 : Value) (x37 : Value) (x38 : Value) : M Value := loopK (fun s1 k1 => codeK Tryz.prog (evCall2 Tryz.prog gt lf d) (gt 3) lf (codeAt (bodyOf Tryz.prog 3) [true, true, true, true, false, true, false, false]) s1 k1) [0, 1, 2, 4, 5, 6, 7, 24, 36, 37, 38] fu [(0, x0), (1, x1), (2, x2), (4, x4), (5, x5), (6, x6), (7, x7), (24, x24), (36, x36), (37, x37), (38, x38)] k
noncomputable def kcA_balerlaw24_UnpressFeeds (lf d : Nat) : Ex → Fr → M Value := contAt Tryz.prog (evCall2 Tryz.prog gt lf d) (gt 3) lf (bodyOf Tryz.prog 3) [true, true, true, true, false, true, false] (endK Tryz.prog (resOf Tryz.prog 3))
noncomputable def b_balerlaw24_UnpressFeeds (lf d : Nat) (a0 : Value) (a1 : Value) : M Value :=
 (inside (evBox Tryz.prog 23 a0)).bind fun v2n1 =>
 (inside (evLoad Tryz.prog 23 v2n1)).bind fun v12n2 =>
 (inside (evCall2 Tryz.prog gt lf d 8 #[v12n2])).bind fun v13n3 =>
 optK (un2 Tryz.prog .not v13n3) fun v14n4 =>
 ifV v14n4 (
 (inside (evCall2 Tryz.prog gt lf d 9 #[])).bind fun v25n5 =>
 outK [v25n5]) (
 optK (len2 Tryz.prog #[24] [a1]) fun v17n6 =>
 optK (bin2 Tryz.prog .gtr 3 v17n6 (Value.int .i64 20)) fun v18n7 =>
 ifV v18n7 (
 (inside (evCall2 Tryz.prog gt lf d 9 #[])).bind fun v25n8 =>
 outK [v25n8]) (
 optK (evFieldAddr Tryz.prog 23 v2n1 1) fun v21n9 =>
 (inside (evLoad Tryz.prog 3 v21n9)).bind fun v22n10 =>
 optK (bin2 Tryz.prog .gtr 3 v22n10 (Value.int .i64 300)) fun v23n11 =>
 ifV v23n11 (
 (inside (evCall2 Tryz.prog gt lf d 9 #[])).bind fun v25n12 =>
 outK [v25n12]) (
 optK (evFieldAddr Tryz.prog 23 v2n1 0) fun v27n13 =>
 (inside (evLoad Tryz.prog 3 v27n13)).bind fun v28n14 =>
 optK (evFieldAddr Tryz.prog 23 v2n1 1) fun v29n15 =>
 (inside (evLoad Tryz.prog 3 v29n15)).bind fun v30n16 =>
 optK (evFieldAddr Tryz.prog 23 v2n1 2) fun v31n17 =>
 (inside (evLoad Tryz.prog 3 v31n17)).bind fun v32n18 =>
 (inside (evCall2 Tryz.prog gt lf d 10 #[v28n14, v30n16, v32n18])).bind fun v33n19 =>
 optK (evExtract v33n19 0) fun v34n20 =>
 optK (evExtract v33n19 1) fun v35n21 =>
 optK (len2 Tryz.prog #[24] [a1]) fun v37n22 =>
 lpA_balerlaw24_UnpressFeeds lf d lf (kcA_balerlaw24_UnpressFeeds lf d) a0 a1 v2n1 (Value.bool false) v34n20 v35n21 (Value.int .i64 0) v23n11 a1 v37n22 (Value.int .i64 0))))
theorem sh_balerlaw24_UnpressFeeds (lf d : Nat) (a0 : Value) (a1 : Value) : evCall2 Tryz.prog gt lf (d + 1) 3 #[a0, a1] = inside (b_balerlaw24_UnpressFeeds lf d a0 a1) := by kernel_rfl
theorem zeroA_balerlaw24_UnpressFeeds (lf d : Nat) (k : Ex → Fr → M Value) (x0 : Value) (x1 : Value) (x2 : Value) (x4 : Value) (x5 : Value) (x6 : Value) (x7 : Value) (x24 : Value) (x36 : Value) (x37 : Value) (x38 : Value) : lpA_balerlaw24_UnpressFeeds lf d 0 k x0 x1 x2 x4 x5 x6 x7 x24 x36 x37 x38 = M.fail := rfl
theorem succA_balerlaw24_UnpressFeeds (lf d fu : Nat) (k : Ex → Fr → M Value) (x0 : Value) (x1 : Value) (x2 : Value) (x4 : Value) (x5 : Value) (x6 : Value) (x7 : Value) (x24 : Value) (x36 : Value) (x37 : Value) (x38 : Value) : lpA_balerlaw24_UnpressFeeds lf d (fu + 1) k x0 x1 x2 x4 x5 x6 x7 x24 x36 x37 x38 =
  optK (bin2 Tryz.prog .lss 3 x38 x37) fun v39n23 =>
  ifV v39n23 (
    optK (evIndexAddr Tryz.prog 24 x36 x38) fun v40n24 =>
    (inside (evLoad Tryz.prog 9 v40n24)).bind fun v41n25 =>
    optK (len2 Tryz.prog #[9] [v41n25]) fun v43n26 =>
    optK (bin2 Tryz.prog .gtr 3 v43n26 (Value.int .i64 200)) fun v44n27 =>
    ifV v44n27 (
      (inside (evCall2 Tryz.prog gt lf d 9 #[])).bind fun v45n28 =>
      k Ex.ret [(0, x0), (1, x1), (2, x2), (4, v45n28), (5, x5), (6, x6), (7, x7), (9, v41n25), (24, x24), (36, x36), (37, x37), (38, x38), (39, v39n23), (44, v44n27)]) (
      optK (len2 Tryz.prog #[9] [v41n25]) fun v47n29 =>
      optK (evFieldAddr Tryz.prog 23 x2 1) fun v48n30 =>
      (inside (evLoad Tryz.prog 3 v48n30)).bind fun v49n31 =>
      optK (bin2 Tryz.prog .sub 3 v49n31 x7) fun v51n32 =>
      optK (min2 [v47n29, v51n32]) fun v52n33 =>
      (inside (evCall2 Tryz.prog gt lf d 11 #[x5, v41n25])).bind fun v55n34 =>
      optK (bin2 Tryz.prog .neq 3 v55n34 v52n33) fun v57n35 =>
      ifV v57n35 (
        k Ex.ret [(0, x0), (1, x1), (2, x2), (4, (Value.bool false)), (5, x5), (6, x6), (7, x7), (9, v41n25), (10, v52n33), (24, x24), (36, x36), (37, x37), (38, x38), (39, v39n23), (44, v44n27), (57, v57n35)]) (
        optK (bin2 Tryz.prog .add 3 x7 v52n33) fun v60n36 =>
        (inside (evCall2 Tryz.prog gt lf d 12 #[x5])).bind fun v62n37 =>
        optK (bin2 Tryz.prog .neq 3 v62n37 v60n36) fun v64n38 =>
        ifV v64n38 (
          k Ex.ret [(0, x0), (1, x1), (2, x2), (4, (Value.bool false)), (5, x5), (6, x6), (7, v60n36), (9, v41n25), (10, v52n33), (24, x24), (36, x36), (37, x37), (38, x38), (39, v39n23), (44, v44n27), (57, v57n35), (68, (Value.bool true))]) (
          (inside (evCall2 Tryz.prog gt lf d 13 #[x5])).bind fun v67n39 =>
          ifV v67n39 (
            k Ex.ret [(0, x0), (1, x1), (2, x2), (4, (Value.bool false)), (5, x5), (6, x6), (7, v60n36), (9, v41n25), (10, v52n33), (24, x24), (36, x36), (37, x37), (38, x38), (39, v39n23), (44, v44n27), (57, v57n35), (68, v67n39)]) (
            optK (bin2 Tryz.prog .add 3 x38 (Value.int .i64 1)) fun v69n40 =>
            lpA_balerlaw24_UnpressFeeds lf d fu k x0 x1 x2 x4 x5 x6 v60n36 x24 x36 x37 v69n40))))) (
    k (Ex.exit 0) [(0, x0), (1, x1), (2, x2), (4, x4), (5, x5), (6, x6), (7, x7), (24, x24), (36, x36), (37, x37), (38, x38), (39, v39n23)]) := by kernel_rfl
theorem kcAa_balerlaw24_UnpressFeeds (lf d : Nat) (y0 : Value) (y1 : Value) (y2 : Value) (y4 : Value) (y5 : Value) (y6 : Value) (y7 : Value) (y9 : Value) (y24 : Value) (y36 : Value) (y37 : Value) (y38 : Value) (y39 : Value) (y44 : Value) : kcA_balerlaw24_UnpressFeeds lf d Ex.ret [(0, y0), (1, y1), (2, y2), (4, y4), (5, y5), (6, y6), (7, y7), (9, y9), (24, y24), (36, y36), (37, y37), (38, y38), (39, y39), (44, y44)] =
  outK [y4] := by kernel_rfl
theorem kcAb_balerlaw24_UnpressFeeds (lf d : Nat) (y0 : Value) (y1 : Value) (y2 : Value) (y4 : Value) (y5 : Value) (y6 : Value) (y7 : Value) (y9 : Value) (y10 : Value) (y24 : Value) (y36 : Value) (y37 : Value) (y38 : Value) (y39 : Value) (y44 : Value) (y57 : Value) : kcA_balerlaw24_UnpressFeeds lf d Ex.ret [(0, y0), (1, y1), (2, y2), (4, y4), (5, y5), (6, y6), (7, y7), (9, y9), (10, y10), (24, y24), (36, y36), (37, y37), (38, y38), (39, y39), (44, y44), (57, y57)] =
  outK [y4] := by kernel_rfl
theorem kcAc_balerlaw24_UnpressFeeds (lf d : Nat) (y0 : Value) (y1 : Value) (y2 : Value) (y4 : Value) (y5 : Value) (y6 : Value) (y7 : Value) (y9 : Value) (y10 : Value) (y24 : Value) (y36 : Value) (y37 : Value) (y38 : Value) (y39 : Value) (y44 : Value) (y57 : Value) (y68 : Value) : kcA_balerlaw24_UnpressFeeds lf d Ex.ret [(0, y0), (1, y1), (2, y2), (4, y4), (5, y5), (6, y6), (7, y7), (9, y9), (10, y10), (24, y24), (36, y36), (37, y37), (38, y38), (39, y39), (44, y44), (57, y57), (68, y68)] =
  outK [y4] := by kernel_rfl
theorem kcAd_balerlaw24_UnpressFeeds (lf d : Nat) (y0 : Value) (y1 : Value) (y2 : Value) (y4 : Value) (y5 : Value) (y6 : Value) (y7 : Value) (y24 : Value) (y36 : Value) (y37 : Value) (y38 : Value) (y39 : Value) : kcA_balerlaw24_UnpressFeeds lf d (Ex.exit 0) [(0, y0), (1, y1), (2, y2), (4, y4), (5, y5), (6, y6), (7, y7), (24, y24), (36, y36), (37, y37), (38, y38), (39, y39)] =
  (inside (evCall2 Tryz.prog gt lf d 14 #[y5])).bind fun v71n41 =>
  optK (bin2 Tryz.prog .eql 27 y6 (Value.int .i64 0)) fun v73n42 =>
  ifV v73n42 (
    optK (bin2 Tryz.prog .eql 27 v71n41 (Value.int .i64 0)) fun v76n43 =>
    ifV v76n43 (
      (inside (evCall2 Tryz.prog gt lf d 11 #[y5, (Value.string { data := #[97] })])).bind fun v80n44 =>
      optK (bin2 Tryz.prog .eql 3 v80n44 (Value.int .i64 0)) fun v81n45 =>
      ifV v81n45 (
        (inside (evCall2 Tryz.prog gt lf d 14 #[y5])).bind fun v85n46 =>
        optK (bin2 Tryz.prog .eql 27 v85n46 (Value.int .i64 7)) fun v86n47 =>
        ifV v86n47 (
          (inside (evCall2 Tryz.prog gt lf d 9 #[])).bind fun v89n48 =>
          outK [v89n48]) (
          outK [(Value.bool false)])) (
        outK [(Value.bool false)])) (
      outK [(Value.bool false)])) (
    outK [(Value.bool false)]) := by kernel_rfl

/- balerlaw24_UnpressNil -/
noncomputable def b_balerlaw24_UnpressNil (lf d : Nat) (a0 : Value) (a1 : Value) : M Value :=
 (inside (evCall2 Tryz.prog gt lf d 11 #[(Value.pointer none), a0])).bind fun v8n1 =>
 optK (bin2 Tryz.prog .eql 3 v8n1 (Value.int .i64 0)) fun v9n2 =>
 ifV v9n2 (
 (inside (evCall2 Tryz.prog gt lf d 14 #[(Value.pointer none)])).bind fun v12n3 =>
 optK (bin2 Tryz.prog .eql 27 v12n3 (Value.int .i64 7)) fun v13n4 =>
 ifV v13n4 (
 (inside (evCall2 Tryz.prog gt lf d 15 #[(Value.pointer none), a1])).bind fun v18n5 =>
 optK (bin2 Tryz.prog .eql 3 v18n5 (Value.int .i64 0)) fun v19n6 =>
 ifV v19n6 (
 (inside (evCall2 Tryz.prog gt lf d 13 #[(Value.pointer none)])).bind fun v23n7 =>
 ifV v23n7 (
 (inside (evCall2 Tryz.prog gt lf d 16 #[(Value.pointer none), a1])).bind fun v28n8 =>
 optK (bin2 Tryz.prog .eql 9 v28n8 (Value.string { data := #[] })) fun v29n9 =>
 ifV v29n9 (
 (inside (evCall2 Tryz.prog gt lf d 17 #[(Value.pointer none)])).bind fun v33n10 =>
 optK (bin2 Tryz.prog .eql 3 v33n10 (Value.int .i64 0)) fun v34n11 =>
 ifV v34n11 (
 (inside (evCall2 Tryz.prog gt lf d 18 #[(Value.pointer none)])).bind fun v38n12 =>
 optK (un2 Tryz.prog .not v38n12) fun v39n13 =>
 ifV v39n13 (
 (inside (evCall2 Tryz.prog gt lf d 19 #[(Value.pointer none)])).bind fun v43n14 =>
 optK (bin2 Tryz.prog .eql 27 v43n14 (Value.int .i64 0)) fun v44n15 =>
 ifV v44n15 (
 (inside (evCall2 Tryz.prog gt lf d 20 #[(Value.pointer none)])).bind fun v48n16 =>
 optK (bin2 Tryz.prog .eql 3 v48n16 (Value.int .i64 0)) fun v49n17 =>
 ifV v49n17 (
 (inside (evCall2 Tryz.prog gt lf d 12 #[(Value.pointer none)])).bind fun v53n18 =>
 optK (bin2 Tryz.prog .eql 3 v53n18 (Value.int .i64 0)) fun v54n19 =>
 ifV v54n19 (
 (inside (evCall2 Tryz.prog gt lf d 9 #[])).bind fun v57n20 =>
 outK [v57n20]) (
 outK [(Value.bool false)])) (
 outK [(Value.bool false)])) (
 outK [(Value.bool false)])) (
 outK [(Value.bool false)])) (
 outK [(Value.bool false)])) (
 outK [(Value.bool false)])) (
 outK [(Value.bool false)])) (
 outK [(Value.bool false)])) (
 outK [(Value.bool false)])) (
 outK [(Value.bool false)])
theorem sh_balerlaw24_UnpressNil (lf d : Nat) (a0 : Value) (a1 : Value) : evCall2 Tryz.prog gt lf (d + 1) 4 #[a0, a1] = inside (b_balerlaw24_UnpressNil lf d a0 a1) := by kernel_rfl

/- balerlaw24_UnpressNews -/
noncomputable def b_balerlaw24_UnpressNews (lf d : Nat) (a0 : Value) : M Value :=
 (inside (evBox Tryz.prog 23 a0)).bind fun v1n1 =>
 optK (evFieldAddr Tryz.prog 23 v1n1 0) fun v8n2 =>
 (inside (evLoad Tryz.prog 3 v8n2)).bind fun v9n3 =>
 optK (evFieldAddr Tryz.prog 23 v1n1 1) fun v10n4 =>
 (inside (evLoad Tryz.prog 3 v10n4)).bind fun v11n5 =>
 optK (evFieldAddr Tryz.prog 23 v1n1 2) fun v12n6 =>
 (inside (evLoad Tryz.prog 3 v12n6)).bind fun v13n7 =>
 (inside (evCall2 Tryz.prog gt lf d 10 #[v9n3, v11n5, v13n7])).bind fun v14n8 =>
 optK (evExtract v14n8 0) fun v15n9 =>
 optK (evExtract v14n8 1) fun v16n10 =>
 optK (evFieldAddr Tryz.prog 23 v1n1 0) fun v18n11 =>
 (inside (evLoad Tryz.prog 3 v18n11)).bind fun v19n12 =>
 optK (evFieldAddr Tryz.prog 23 v1n1 1) fun v20n13 =>
 (inside (evLoad Tryz.prog 3 v20n13)).bind fun v21n14 =>
 optK (evFieldAddr Tryz.prog 23 v1n1 2) fun v22n15 =>
 (inside (evLoad Tryz.prog 3 v22n15)).bind fun v23n16 =>
 (inside (evCall2 Tryz.prog gt lf d 21 #[v19n12, v21n14, v23n16])).bind fun v24n17 =>
 optK (evExtract v24n17 0) fun v25n18 =>
 optK (evExtract v24n17 1) fun v26n19 =>
 (inside (evLoad Tryz.prog 23 v1n1)).bind fun v27n20 =>
 (inside (evCall2 Tryz.prog gt lf d 8 #[v27n20])).bind fun v28n21 =>
 optK (un2 Tryz.prog .not v28n21) fun v29n22 =>
 ifV v29n22 (
 optK (bin2 Tryz.prog .eql 27 v16n10 (Value.int .i64 1)) fun v31n23 =>
 ifV v31n23 (
 optK (bin2 Tryz.prog .eql 27 v26n19 (Value.int .i64 1)) fun v34n24 =>
 ifV v34n24 (
 optK (bin2 Tryz.prog .eql 26 v15n9 (Value.pointer none)) fun v38n25 =>
 ifV v38n25 (
 optK (bin2 Tryz.prog .eql 3 v25n18 (Value.int .i64 0)) fun v42n26 =>
 ifV v42n26 (
 (inside (evCall2 Tryz.prog gt lf d 9 #[])).bind fun v45n27 =>
 outK [v45n27]) (
 outK [(Value.bool false)])) (
 outK [(Value.bool false)])) (
 outK [(Value.bool false)])) (
 outK [(Value.bool false)])) (
 optK (bin2 Tryz.prog .eql 27 v16n10 (Value.int .i64 0)) fun v48n28 =>
 ifV v48n28 (
 optK (bin2 Tryz.prog .eql 27 v26n19 (Value.int .i64 0)) fun v51n29 =>
 ifV v51n29 (
 optK (evFieldAddr Tryz.prog 23 v1n1 0) fun v55n30 =>
 (inside (evLoad Tryz.prog 3 v55n30)).bind fun v56n31 =>
 optK (evFieldAddr Tryz.prog 23 v1n1 1) fun v57n32 =>
 (inside (evLoad Tryz.prog 3 v57n32)).bind fun v58n33 =>
 optK (evFieldAddr Tryz.prog 23 v1n1 2) fun v59n34 =>
 (inside (evLoad Tryz.prog 3 v59n34)).bind fun v60n35 =>
 (inside (evCall2 Tryz.prog gt lf d 22 #[v56n31, v58n33, v60n35])).bind fun v61n36 =>
 optK (bin2 Tryz.prog .eql 3 v25n18 v61n36) fun v62n37 =>
 ifV v62n37 (
 (inside (evCall2 Tryz.prog gt lf d 17 #[v15n9])).bind fun v66n38 =>
 optK (bin2 Tryz.prog .eql 3 v66n38 (Value.int .i64 0)) fun v67n39 =>
 ifV v67n39 (
 (inside (evCall2 Tryz.prog gt lf d 12 #[v15n9])).bind fun v71n40 =>
 optK (bin2 Tryz.prog .eql 3 v71n40 (Value.int .i64 0)) fun v72n41 =>
 ifV v72n41 (
 (inside (evCall2 Tryz.prog gt lf d 18 #[v15n9])).bind fun v76n42 =>
 optK (un2 Tryz.prog .not v76n42) fun v77n43 =>
 ifV v77n43 (
 (inside (evCall2 Tryz.prog gt lf d 19 #[v15n9])).bind fun v81n44 =>
 optK (bin2 Tryz.prog .eql 27 v81n44 (Value.int .i64 0)) fun v82n45 =>
 ifV v82n45 (
 (inside (evCall2 Tryz.prog gt lf d 13 #[v15n9])).bind fun v86n46 =>
 optK (un2 Tryz.prog .not v86n46) fun v87n47 =>
 ifV v87n47 (
 (inside (evCall2 Tryz.prog gt lf d 15 #[v15n9, (Value.int .i64 9)])).bind fun v91n48 =>
 optK (bin2 Tryz.prog .eql 3 v91n48 (Value.int .i64 0)) fun v92n49 =>
 ifV v92n49 (
 (inside (evCall2 Tryz.prog gt lf d 13 #[v15n9])).bind fun v96n50 =>
 ifV v96n50 (
 (inside (evCall2 Tryz.prog gt lf d 20 #[v15n9])).bind fun v100n51 =>
 optK (bin2 Tryz.prog .eql 3 v100n51 (Value.int .i64 0)) fun v101n52 =>
 ifV v101n52 (
 (inside (evCall2 Tryz.prog gt lf d 9 #[])).bind fun v104n53 =>
 outK [v104n53]) (
 outK [(Value.bool false)])) (
 outK [(Value.bool false)])) (
 outK [(Value.bool false)])) (
 outK [(Value.bool false)])) (
 outK [(Value.bool false)])) (
 outK [(Value.bool false)])) (
 outK [(Value.bool false)])) (
 outK [(Value.bool false)])) (
 outK [(Value.bool false)])) (
 outK [(Value.bool false)])) (
 outK [(Value.bool false)]))
theorem sh_balerlaw24_UnpressNews (lf d : Nat) (a0 : Value) : evCall2 Tryz.prog gt lf (d + 1) 5 #[a0] = inside (b_balerlaw24_UnpressNews lf d a0) := by kernel_rfl

/- balerlaw25_TesterNil -/
noncomputable def b_balerlaw25_TesterNil (lf d : Nat) (a0 : Value) (a1 : Value) : M Value :=
 (inside (evCall2 Tryz.prog gt lf d 23 #[(Value.pointer none), a0])).bind fun v8n1 =>
 optK (bin2 Tryz.prog .eql 3 v8n1 (Value.int .i64 0)) fun v9n2 =>
 ifV v9n2 (
 (inside (evCall2 Tryz.prog gt lf d 24 #[(Value.pointer none)])).bind fun v12n3 =>
 optK (bin2 Tryz.prog .eql 27 v12n3 (Value.int .i64 7)) fun v13n4 =>
 ifV v13n4 (
 (inside (evCall2 Tryz.prog gt lf d 25 #[(Value.pointer none), a1])).bind fun v18n5 =>
 optK (bin2 Tryz.prog .eql 3 v18n5 (Value.int .i64 0)) fun v19n6 =>
 ifV v19n6 (
 (inside (evCall2 Tryz.prog gt lf d 26 #[(Value.pointer none)])).bind fun v23n7 =>
 ifV v23n7 (
 (inside (evCall2 Tryz.prog gt lf d 27 #[(Value.pointer none), a1])).bind fun v28n8 =>
 optK (bin2 Tryz.prog .eql 9 v28n8 (Value.string { data := #[] })) fun v29n9 =>
 ifV v29n9 (
 (inside (evCall2 Tryz.prog gt lf d 28 #[(Value.pointer none)])).bind fun v33n10 =>
 optK (bin2 Tryz.prog .eql 3 v33n10 (Value.int .i64 0)) fun v34n11 =>
 ifV v34n11 (
 (inside (evCall2 Tryz.prog gt lf d 29 #[(Value.pointer none)])).bind fun v38n12 =>
 optK (un2 Tryz.prog .not v38n12) fun v39n13 =>
 ifV v39n13 (
 (inside (evCall2 Tryz.prog gt lf d 30 #[(Value.pointer none)])).bind fun v43n14 =>
 optK (bin2 Tryz.prog .eql 27 v43n14 (Value.int .i64 0)) fun v44n15 =>
 ifV v44n15 (
 (inside (evCall2 Tryz.prog gt lf d 31 #[(Value.pointer none)])).bind fun v48n16 =>
 optK (bin2 Tryz.prog .eql 3 v48n16 (Value.int .i64 0)) fun v49n17 =>
 ifV v49n17 (
 (inside (evCall2 Tryz.prog gt lf d 32 #[(Value.pointer none)])).bind fun v53n18 =>
 optK (bin2 Tryz.prog .eql 3 v53n18 (Value.int .i64 0)) fun v54n19 =>
 ifV v54n19 (
 (inside (evCall2 Tryz.prog gt lf d 33 #[(Value.pointer none)])).bind fun v58n20 =>
 optK (bin2 Tryz.prog .eql 3 v58n20 (Value.int .i64 0)) fun v59n21 =>
 ifV v59n21 (
 (inside (evCall2 Tryz.prog gt lf d 34 #[])).bind fun v62n22 =>
 outK [v62n22]) (
 outK [(Value.bool false)])) (
 outK [(Value.bool false)])) (
 outK [(Value.bool false)])) (
 outK [(Value.bool false)])) (
 outK [(Value.bool false)])) (
 outK [(Value.bool false)])) (
 outK [(Value.bool false)])) (
 outK [(Value.bool false)])) (
 outK [(Value.bool false)])) (
 outK [(Value.bool false)])) (
 outK [(Value.bool false)])
theorem sh_balerlaw25_TesterNil (lf d : Nat) (a0 : Value) (a1 : Value) : evCall2 Tryz.prog gt lf (d + 1) 6 #[a0, a1] = inside (b_balerlaw25_TesterNil lf d a0 a1) := by kernel_rfl

/- balerlaw25_TesterNews -/
noncomputable def b_balerlaw25_TesterNews (lf d : Nat) (a0 : Value) (a1 : Value) : M Value :=
 (inside (evBox Tryz.prog 43 a0)).bind fun v2n1 =>
 optK (evFieldAddr Tryz.prog 43 v2n1 0) fun v10n2 =>
 (inside (evLoad Tryz.prog 3 v10n2)).bind fun v11n3 =>
 optK (evFieldAddr Tryz.prog 43 v2n1 1) fun v12n4 =>
 (inside (evLoad Tryz.prog 3 v12n4)).bind fun v13n5 =>
 (inside (evCall2 Tryz.prog gt lf d 35 #[v11n3, v13n5])).bind fun v14n6 =>
 optK (evExtract v14n6 0) fun v15n7 =>
 optK (evExtract v14n6 1) fun v16n8 =>
 optK (evFieldAddr Tryz.prog 43 v2n1 0) fun v18n9 =>
 (inside (evLoad Tryz.prog 3 v18n9)).bind fun v19n10 =>
 optK (evFieldAddr Tryz.prog 43 v2n1 1) fun v20n11 =>
 (inside (evLoad Tryz.prog 3 v20n11)).bind fun v21n12 =>
 (inside (evCall2 Tryz.prog gt lf d 36 #[v19n10, v21n12])).bind fun v22n13 =>
 optK (evExtract v22n13 0) fun v23n14 =>
 optK (evExtract v22n13 1) fun v24n15 =>
 (inside (evCall2 Tryz.prog gt lf d 37 #[a1])).bind fun v26n16 =>
 (inside (evCall2 Tryz.prog gt lf d 38 #[a1])).bind fun v28n17 =>
 optK (bin2 Tryz.prog .neq 9 v26n16 v28n17) fun v29n18 =>
 ifV v29n18 (
 outK [(Value.bool false)]) (
 (inside (evLoad Tryz.prog 43 v2n1)).bind fun v30n19 =>
 (inside (evCall2 Tryz.prog gt lf d 39 #[v30n19])).bind fun v31n20 =>
 optK (un2 Tryz.prog .not v31n20) fun v32n21 =>
 ifV v32n21 (
 optK (bin2 Tryz.prog .eql 27 v16n8 (Value.int .i64 1)) fun v34n22 =>
 ifV v34n22 (
 optK (bin2 Tryz.prog .eql 27 v24n15 (Value.int .i64 1)) fun v37n23 =>
 ifV v37n23 (
 optK (bin2 Tryz.prog .eql 41 v15n7 (Value.pointer none)) fun v41n24 =>
 ifV v41n24 (
 optK (bin2 Tryz.prog .eql 3 v23n14 (Value.int .i64 0)) fun v45n25 =>
 ifV v45n25 (
 (inside (evCall2 Tryz.prog gt lf d 34 #[])).bind fun v48n26 =>
 outK [v48n26]) (
 outK [(Value.bool false)])) (
 outK [(Value.bool false)])) (
 outK [(Value.bool false)])) (
 outK [(Value.bool false)])) (
 optK (bin2 Tryz.prog .eql 27 v16n8 (Value.int .i64 0)) fun v51n27 =>
 ifV v51n27 (
 optK (bin2 Tryz.prog .eql 27 v24n15 (Value.int .i64 0)) fun v54n28 =>
 ifV v54n28 (
 optK (evFieldAddr Tryz.prog 43 v2n1 0) fun v58n29 =>
 (inside (evLoad Tryz.prog 3 v58n29)).bind fun v59n30 =>
 optK (evFieldAddr Tryz.prog 43 v2n1 1) fun v60n31 =>
 (inside (evLoad Tryz.prog 3 v60n31)).bind fun v61n32 =>
 (inside (evCall2 Tryz.prog gt lf d 40 #[v59n30, v61n32])).bind fun v62n33 =>
 optK (bin2 Tryz.prog .eql 3 v23n14 v62n33) fun v63n34 =>
 ifV v63n34 (
 (inside (evCall2 Tryz.prog gt lf d 28 #[v15n7])).bind fun v67n35 =>
 optK (bin2 Tryz.prog .eql 3 v67n35 (Value.int .i64 0)) fun v68n36 =>
 ifV v68n36 (
 (inside (evCall2 Tryz.prog gt lf d 33 #[v15n7])).bind fun v72n37 =>
 optK (bin2 Tryz.prog .eql 3 v72n37 (Value.int .i64 0)) fun v73n38 =>
 ifV v73n38 (
 (inside (evCall2 Tryz.prog gt lf d 29 #[v15n7])).bind fun v77n39 =>
 optK (un2 Tryz.prog .not v77n39) fun v78n40 =>
 ifV v78n40 (
 (inside (evCall2 Tryz.prog gt lf d 30 #[v15n7])).bind fun v82n41 =>
 optK (bin2 Tryz.prog .eql 27 v82n41 (Value.int .i64 0)) fun v83n42 =>
 ifV v83n42 (
 (inside (evCall2 Tryz.prog gt lf d 25 #[v15n7, (Value.int .i64 9)])).bind fun v87n43 =>
 optK (bin2 Tryz.prog .eql 3 v87n43 (Value.int .i64 0)) fun v88n44 =>
 ifV v88n44 (
 (inside (evCall2 Tryz.prog gt lf d 26 #[v15n7])).bind fun v92n45 =>
 ifV v92n45 (
 (inside (evCall2 Tryz.prog gt lf d 32 #[v15n7])).bind fun v96n46 =>
 optK (bin2 Tryz.prog .eql 3 v96n46 (Value.int .i64 0)) fun v97n47 =>
 ifV v97n47 (
 (inside (evCall2 Tryz.prog gt lf d 34 #[])).bind fun v100n48 =>
 outK [v100n48]) (
 outK [(Value.bool false)])) (
 outK [(Value.bool false)])) (
 outK [(Value.bool false)])) (
 outK [(Value.bool false)])) (
 outK [(Value.bool false)])) (
 outK [(Value.bool false)])) (
 outK [(Value.bool false)])) (
 outK [(Value.bool false)])) (
 outK [(Value.bool false)])) (
 outK [(Value.bool false)])))
theorem sh_balerlaw25_TesterNews (lf d : Nat) (a0 : Value) (a1 : Value) : evCall2 Tryz.prog gt lf (d + 1) 7 #[a0, a1] = inside (b_balerlaw25_TesterNews lf d a0 a1) := by kernel_rfl

/- balerlaw24_Setup_may -/
noncomputable def b_balerlaw24_Setup_may (lf d : Nat) (a0 : Value) : M Value :=
 (inside (evBox Tryz.prog 23 a0)).bind fun v1n1 =>
 optK (evFieldAddr Tryz.prog 23 v1n1 0) fun v3n2 =>
 (inside (evLoad Tryz.prog 3 v3n2)).bind fun v4n3 =>
 optK (evFieldAddr Tryz.prog 23 v1n1 1) fun v5n4 =>
 (inside (evLoad Tryz.prog 3 v5n4)).bind fun v6n5 =>
 optK (evFieldAddr Tryz.prog 23 v1n1 2) fun v7n6 =>
 (inside (evLoad Tryz.prog 3 v7n6)).bind fun v8n7 =>
 (inside (evCall2 Tryz.prog gt lf d 41 #[v4n3, v6n5, v8n7])).bind fun v9n8 =>
 outK [v9n8]
theorem sh_balerlaw24_Setup_may (lf d : Nat) (a0 : Value) : evCall2 Tryz.prog gt lf (d + 1) 8 #[a0] = inside (b_balerlaw24_Setup_may lf d a0) := by kernel_rfl

/- unpress_New -/
noncomputable def b_unpress_New (lf d : Nat) (a0 : Value) (a1 : Value) (a2 : Value) : M Value :=
 (inside (evCall2 Tryz.prog gt lf d 43 #[a0])).bind fun v12n1 =>
 optK (evExtract v12n1 0) fun v13n2 =>
 optK (evExtract v12n1 1) fun v14n3 =>
 optK (bin2 Tryz.prog .neq 27 v14n3 (Value.int .i64 0)) fun v16n4 =>
 ifV v16n4 (
 outK [(Value.pointer none), (Value.int .i64 1)]) (
 (inside (evCall2 Tryz.prog gt lf d 44 #[a1, a2])).bind fun v20n5 =>
 optK (un2 Tryz.prog .not v20n5) fun v21n6 =>
 ifV v21n6 (
 outK [(Value.pointer none), (Value.int .i64 1)]) (
 (inside (evCall2 Tryz.prog gt lf d 45 #[(Value.string { data := #[] })])).bind fun v25n7 =>
 (inside (evBuild Tryz.prog 60 [(0, a1), (1, a2), (3, v25n7), (4, v13n2)])).bind fun v27n8 =>
 (inside (evBox Tryz.prog 60 v27n8)).bind fun v28n9 =>
 outK [v28n9, (Value.int .i64 0)]))
theorem sh_unpress_New (lf d : Nat) (a0 : Value) (a1 : Value) (a2 : Value) : evCall2 Tryz.prog gt lf (d + 1) 10 #[a0, a1, a2] = inside (b_unpress_New lf d a0 a1 a2) := by kernel_rfl

/- unpress_Expander_Feed -/
noncomputable def b_unpress_Expander_Feed (lf d : Nat) (a0 : Value) (a1 : Value) : M Value :=
 optK (bin2 Tryz.prog .eql 26 a0 (Value.pointer none)) fun v7n1 =>
 ifV v7n1 (
 outK [(Value.int .i64 0)]) (
 optK (nil2 a0) fun v10n2 =>
 optK (evFieldAddr Tryz.prog 60 v10n2 2) fun v11n3 =>
 (inside (evLoad Tryz.prog 4 v11n3)).bind fun v12n4 =>
 ifV v12n4 (
 outK [(Value.int .i64 0)]) (
 optK (nil2 a0) fun v16n5 =>
 optK (evFieldAddr Tryz.prog 60 v16n5 8) fun v17n6 =>
 (inside (evLoad Tryz.prog 4 v17n6)).bind fun v18n7 =>
 ifV v18n7 (
 outK [(Value.int .i64 0)]) (
 optK (len2 Tryz.prog #[9] [a1]) fun v21n8 =>
 optK (nil2 a0) fun v23n9 =>
 optK (evFieldAddr Tryz.prog 60 v23n9 0) fun v24n10 =>
 (timed (
 (inside (evLoad Tryz.prog 3 v24n10)).bind fun v25n12 => M.ret v25n12)).bind fun vtn11 =>
 optK (nil2 a0) fun v27n13 =>
 optK (evFieldAddr Tryz.prog 60 v27n13 3) fun v28n14 =>
 (timed (
 (inside (evLoad Tryz.prog 55 v28n14)).bind fun v29n16 => M.ret v29n16)).bind fun vtn15 =>
 (timed (
 (inside (evCall2 Tryz.prog gt lf d 46 #[vtn15.1])).bind fun v30n18 => M.ret v30n18)).bind fun vtn17 =>
 optK (bin2 Tryz.prog .sub 3 vtn11.1 vtn17.1) fun v31n19 =>
 optK (min2 [v21n8, v31n19]) fun v32n20 =>
 chkT ((!(Tk.clash vtn11.2 vtn17.2) && true) && true) (
 optK (nil2 a0) fun v34n21 =>
 optK (evFieldAddr Tryz.prog 60 v34n21 3) fun v35n22 =>
 (inside (evLoad Tryz.prog 55 v35n22)).bind fun v36n23 =>
 slice2 Tryz.prog 9 a1 none (some v32n20) none fun v39n24 =>
 (inside (evCall2 Tryz.prog gt lf d 47 #[v36n23, v39n24])).bind fun v40n25 =>
 optK (bin2 Tryz.prog .gtr 3 v32n20 (Value.int .i64 0)) fun v42n26 =>
 ifV v42n26 (
 optK (nil2 a0) fun v44n27 =>
 optK (evFieldAddr Tryz.prog 60 v44n27 6) fun v45n28 =>
 (inside (evStore Tryz.prog 4 v45n28 (Value.bool false))).bind fun u29 =>
 outK [v32n20]) (
 outK [v32n20])))))
theorem sh_unpress_Expander_Feed (lf d : Nat) (a0 : Value) (a1 : Value) : evCall2 Tryz.prog gt lf (d + 1) 11 #[a0, a1] = inside (b_unpress_Expander_Feed lf d a0 a1) := by kernel_rfl

/- unpress_Expander_Held -/
noncomputable def b_unpress_Expander_Held (lf d : Nat) (a0 : Value) : M Value :=
 optK (bin2 Tryz.prog .eql 26 a0 (Value.pointer none)) fun v5n1 =>
 ifV v5n1 (
 outK [(Value.int .i64 0)]) (
 optK (nil2 a0) fun v7n2 =>
 optK (evFieldAddr Tryz.prog 60 v7n2 3) fun v8n3 =>
 (timed (
 (inside (evLoad Tryz.prog 55 v8n3)).bind fun v9n5 => M.ret v9n5)).bind fun vtn4 =>
 (timed (
 (inside (evCall2 Tryz.prog gt lf d 46 #[vtn4.1])).bind fun v10n7 => M.ret v10n7)).bind fun vtn6 =>
 optK (nil2 a0) fun v12n8 =>
 optK (evFieldAddr Tryz.prog 60 v12n8 4) fun v13n9 =>
 (timed (
 (inside (evLoad Tryz.prog 51 v13n9)).bind fun v14n11 => M.ret v14n11)).bind fun vtn10 =>
 (timed (
 (inside (evCall2 Tryz.prog gt lf d 48 #[vtn10.1])).bind fun v15n13 => M.ret v15n13)).bind fun vtn12 =>
 optK (bin2 Tryz.prog .add 3 vtn6.1 vtn12.1) fun v16n14 =>
 optK (nil2 a0) fun v18n15 =>
 optK (evFieldAddr Tryz.prog 60 v18n15 7) fun v19n16 =>
 (timed (
 (inside (evLoad Tryz.prog 58 v19n16)).bind fun v20n18 => M.ret v20n18)).bind fun vtn17 =>
 optK (len2 Tryz.prog #[58] [vtn17.1]) fun v21n19 =>
 optK (bin2 Tryz.prog .add 3 v16n14 v21n19) fun v22n20 =>
 chkT ((!(Tk.clash vtn6.2 vtn10.2) && (!(Tk.clash vtn6.2 vtn17.2) && true)) && ((!(Tk.clash vtn12.2 vtn17.2) && true) && true)) (
 optK (nil2 a0) fun v24n21 =>
 optK (evFieldAddr Tryz.prog 60 v24n21 5) fun v25n22 =>
 (inside (evLoad Tryz.prog 57 v25n22)).bind fun v26n23 =>
 optK (bin2 Tryz.prog .neq 57 v26n23 (Value.pointer none)) fun v27n24 =>
 ifV v27n24 (
 optK (nil2 a0) fun v30n25 =>
 optK (evFieldAddr Tryz.prog 60 v30n25 5) fun v31n26 =>
 (inside (evLoad Tryz.prog 57 v31n26)).bind fun v32n27 =>
 optK (nil2 v32n27) fun v33n28 =>
 optK (evFieldAddr Tryz.prog 69 v33n28 1) fun v34n29 =>
 (inside (evLoad Tryz.prog 65 v34n29)).bind fun v35n30 =>
 (inside (evCall2 Tryz.prog gt lf d 49 #[v35n30])).bind fun v36n31 =>
 optK (bin2 Tryz.prog .add 3 v22n20 v36n31) fun v37n32 =>
 outK [v37n32]) (
 outK [v22n20])))
theorem sh_unpress_Expander_Held (lf d : Nat) (a0 : Value) : evCall2 Tryz.prog gt lf (d + 1) 12 #[a0] = inside (b_unpress_Expander_Held lf d a0) := by kernel_rfl

/- unpress_Expander_Stopped -/
noncomputable def b_unpress_Expander_Stopped (lf d : Nat) (a0 : Value) : M Value :=
 optK (bin2 Tryz.prog .eql 26 a0 (Value.pointer none)) fun v5n1 =>
 ifV v5n1 (
 outK [(Value.bool true)]) (
 optK (nil2 a0) fun v8n2 =>
 optK (evFieldAddr Tryz.prog 60 v8n2 8) fun v9n3 =>
 (inside (evLoad Tryz.prog 4 v9n3)).bind fun v10n4 =>
 ifV v10n4 (
 outK [(Value.bool true)]) (
 optK (nil2 a0) fun v14n5 =>
 optK (evFieldAddr Tryz.prog 60 v14n5 5) fun v15n6 =>
 (inside (evLoad Tryz.prog 57 v15n6)).bind fun v16n7 =>
 optK (bin2 Tryz.prog .neq 57 v16n7 (Value.pointer none)) fun v17n8 =>
 ifV v17n8 (
 optK (nil2 a0) fun v19n9 =>
 optK (evFieldAddr Tryz.prog 60 v19n9 7) fun v20n10 =>
 (inside (evLoad Tryz.prog 58 v20n10)).bind fun v21n11 =>
 optK (len2 Tryz.prog #[58] [v21n11]) fun v22n12 =>
 optK (nil2 a0) fun v24n13 =>
 optK (evFieldAddr Tryz.prog 60 v24n13 1) fun v25n14 =>
 (inside (evLoad Tryz.prog 3 v25n14)).bind fun v26n15 =>
 optK (bin2 Tryz.prog .geq 3 v22n12 v26n15) fun v27n16 =>
 outK [v27n16]) (
 optK (nil2 a0) fun v29n17 =>
 optK (evFieldAddr Tryz.prog 60 v29n17 6) fun v30n18 =>
 (inside (evLoad Tryz.prog 4 v30n18)).bind fun v31n19 =>
 outK [v31n19])))
theorem sh_unpress_Expander_Stopped (lf d : Nat) (a0 : Value) : evCall2 Tryz.prog gt lf (d + 1) 13 #[a0] = inside (b_unpress_Expander_Stopped lf d a0) := by kernel_rfl

/- unpress_Expander_End -/
noncomputable def b_unpress_Expander_End (lf d : Nat) (a0 : Value) : M Value :=
 optK (bin2 Tryz.prog .eql 26 a0 (Value.pointer none)) fun v4n1 =>
 ifV v4n1 (
 outK [(Value.int .i64 7)]) (
 optK (nil2 a0) fun v7n2 =>
 optK (evFieldAddr Tryz.prog 60 v7n2 2) fun v8n3 =>
 (inside (evLoad Tryz.prog 4 v8n3)).bind fun v9n4 =>
 ifV v9n4 (
 outK [(Value.int .i64 7)]) (
 optK (nil2 a0) fun v12n5 =>
 optK (evFieldAddr Tryz.prog 60 v12n5 2) fun v13n6 =>
 (inside (evStore Tryz.prog 4 v13n6 (Value.bool true))).bind fun u7 =>
 optK (nil2 a0) fun v15n8 =>
 optK (evFieldAddr Tryz.prog 60 v15n8 6) fun v16n9 =>
 (inside (evStore Tryz.prog 4 v16n9 (Value.bool false))).bind fun u10 =>
 outK [(Value.int .i64 0)]))
theorem sh_unpress_Expander_End (lf d : Nat) (a0 : Value) : evCall2 Tryz.prog gt lf (d + 1) 14 #[a0] = inside (b_unpress_Expander_End lf d a0) := by kernel_rfl

/- unpress_Expander_Step -/
noncomputable def lpA_unpress_Expander_Step (lf d fu : Nat) (k : Ex → Fr → M Value) (x0 : Value) (x1 : Value) (x4 : Value) (x5 : Value) : M Value := loopK (fun s1 k1 => codeK Tryz.prog (evCall2 Tryz.prog gt lf d) (gt 15) lf (codeAt (bodyOf Tryz.prog 15) [true, true, false, false, false]) s1 k1) [0, 1, 4, 5] fu [(0, x0), (1, x1), (4, x4), (5, x5)] k
noncomputable def kcA_unpress_Expander_Step (lf d : Nat) : Ex → Fr → M Value := contAt Tryz.prog (evCall2 Tryz.prog gt lf d) (gt 15) lf (bodyOf Tryz.prog 15) [true, true, false, false] (endK Tryz.prog (resOf Tryz.prog 15))
noncomputable def b_unpress_Expander_Step (lf d : Nat) (a0 : Value) (a1 : Value) : M Value :=
 lpA_unpress_Expander_Step lf d lf (kcA_unpress_Expander_Step lf d) a0 a1 (Value.int .i64 0) (Value.int .i64 0)
theorem sh_unpress_Expander_Step (lf d : Nat) (a0 : Value) (a1 : Value) : evCall2 Tryz.prog gt lf (d + 1) 15 #[a0, a1] = inside (b_unpress_Expander_Step lf d a0 a1) := by kernel_rfl
theorem zeroA_unpress_Expander_Step (lf d : Nat) (k : Ex → Fr → M Value) (x0 : Value) (x1 : Value) (x4 : Value) (x5 : Value) : lpA_unpress_Expander_Step lf d 0 k x0 x1 x4 x5 = M.fail := rfl
theorem succA_unpress_Expander_Step (lf d fu : Nat) (k : Ex → Fr → M Value) (x0 : Value) (x1 : Value) (x4 : Value) (x5 : Value) : lpA_unpress_Expander_Step lf d (fu + 1) k x0 x1 x4 x5 =
  optK (bin2 Tryz.prog .lss 3 x5 x1) fun v8n1 =>
  ifV v8n1 (
    (inside (evCall2 Tryz.prog gt lf d 13 #[x0])).bind fun v11n2 =>
    optK (un2 Tryz.prog .not v11n2) fun v12n3 =>
    ifV v12n3 (
      optK (nil2 x0) fun v15n4 =>
      optK (evFieldAddr Tryz.prog 60 v15n4 5) fun v16n5 =>
      (inside (evLoad Tryz.prog 57 v16n5)).bind fun v17n6 =>
      optK (bin2 Tryz.prog .neq 57 v17n6 (Value.pointer none)) fun v18n7 =>
      ifV v18n7 (
        (inside (evCall2 Tryz.prog gt lf d 50 #[x0])).bind fun v20n8 =>
        optK (bin2 Tryz.prog .add 3 x5 (Value.int .i64 1)) fun v25n9 =>
        lpA_unpress_Expander_Step lf d fu k x0 x1 x4 v25n9) (
        (inside (evCall2 Tryz.prog gt lf d 51 #[x0])).bind fun v22n10 =>
        optK (un2 Tryz.prog .not v22n10) fun v23n11 =>
        ifV v23n11 (
          lpA_unpress_Expander_Step lf d fu k x0 x1 x4 x5) (
          optK (bin2 Tryz.prog .add 3 x5 (Value.int .i64 1)) fun v25n12 =>
          lpA_unpress_Expander_Step lf d fu k x0 x1 x4 v25n12))) (
      k (Ex.exit 0) [(0, x0), (1, x1), (4, x4), (5, x5), (13, v12n3)])) (
    k (Ex.exit 0) [(0, x0), (1, x1), (4, x4), (5, x5), (13, (Value.bool false))]) := by kernel_rfl
theorem kcAa_unpress_Expander_Step (lf d : Nat) (y0 : Value) (y1 : Value) (y4 : Value) (y5 : Value) (y13 : Value) : kcA_unpress_Expander_Step lf d (Ex.exit 0) [(0, y0), (1, y1), (4, y4), (5, y5), (13, y13)] =
  optK (bin2 Tryz.prog .neq 26 y0 (Value.pointer none)) fun v27n13 =>
  ifV v27n13 (
    optK (nil2 y0) fun v29n14 =>
    optK (evFieldAddr Tryz.prog 60 v29n14 10) fun v30n15 =>
    (inside (evLoad Tryz.prog 3 v30n15)).bind fun v31n16 =>
    optK (bin2 Tryz.prog .add 3 v31n16 y5) fun v33n17 =>
    optK (nil2 y0) fun v34n18 =>
    optK (evFieldAddr Tryz.prog 60 v34n18 10) fun v35n19 =>
    (inside (evStore Tryz.prog 3 v35n19 v33n17)).bind fun u20 =>
    outK [y5]) (
    outK [y5]) := by kernel_rfl

/- unpress_Expander_Take -/
noncomputable def b_unpress_Expander_Take (lf d : Nat) (a0 : Value) (a1 : Value) : M Value :=
 optK (bin2 Tryz.prog .eql 26 a0 (Value.pointer none)) fun v8n1 =>
 ifV v8n1 (
 outK [(Value.string { data := #[] })]) (
 optK (bin2 Tryz.prog .lss 3 a1 (Value.int .i64 1)) fun v11n2 =>
 ifV v11n2 (
 outK [(Value.string { data := #[] })]) (
 optK (nil2 a0) fun v15n3 =>
 optK (evFieldAddr Tryz.prog 60 v15n3 7) fun v16n4 =>
 (inside (evLoad Tryz.prog 58 v16n4)).bind fun v17n5 =>
 optK (len2 Tryz.prog #[58] [v17n5]) fun v18n6 =>
 optK (min2 [a1, v18n6]) fun v19n7 =>
 optK (nil2 a0) fun v21n8 =>
 optK (evFieldAddr Tryz.prog 60 v21n8 7) fun v22n9 =>
 (inside (evLoad Tryz.prog 58 v22n9)).bind fun v23n10 =>
 slice2 Tryz.prog 58 v23n10 none (some v19n7) none fun v25n11 =>
 conv2 Tryz.prog 58 9 v25n11 fun v26n12 =>
 optK (nil2 a0) fun v29n13 =>
 optK (evFieldAddr Tryz.prog 60 v29n13 7) fun v30n14 =>
 (inside (evLoad Tryz.prog 58 v30n14)).bind fun v31n15 =>
 slice2 Tryz.prog 58 v31n15 (some v19n7) none none fun v33n16 =>
 optK (nil2 a0) fun v34n17 =>
 optK (evFieldAddr Tryz.prog 60 v34n17 7) fun v35n18 =>
 (inside (evStore Tryz.prog 58 v35n18 v33n16)).bind fun u19 =>
 outK [v26n12]))
theorem sh_unpress_Expander_Take (lf d : Nat) (a0 : Value) (a1 : Value) : evCall2 Tryz.prog gt lf (d + 1) 16 #[a0, a1] = inside (b_unpress_Expander_Take lf d a0 a1) := by kernel_rfl

/- unpress_Expander_Waiting -/
noncomputable def b_unpress_Expander_Waiting (lf d : Nat) (a0 : Value) : M Value :=
 optK (bin2 Tryz.prog .eql 26 a0 (Value.pointer none)) fun v4n1 =>
 ifV v4n1 (
 outK [(Value.int .i64 0)]) (
 optK (nil2 a0) fun v6n2 =>
 optK (evFieldAddr Tryz.prog 60 v6n2 7) fun v7n3 =>
 (inside (evLoad Tryz.prog 58 v7n3)).bind fun v8n4 =>
 optK (len2 Tryz.prog #[58] [v8n4]) fun v9n5 =>
 outK [v9n5])
theorem sh_unpress_Expander_Waiting (lf d : Nat) (a0 : Value) : evCall2 Tryz.prog gt lf (d + 1) 17 #[a0] = inside (b_unpress_Expander_Waiting lf d a0) := by kernel_rfl

/- unpress_Expander_Done -/
noncomputable def b_unpress_Expander_Done (lf d : Nat) (a0 : Value) : M Value :=
 optK (bin2 Tryz.prog .neq 26 a0 (Value.pointer none)) fun v4n1 =>
 ifV v4n1 (
 optK (nil2 a0) fun v7n2 =>
 optK (evFieldAddr Tryz.prog 60 v7n2 8) fun v8n3 =>
 (inside (evLoad Tryz.prog 4 v8n3)).bind fun v9n4 =>
 outK [v9n4]) (
 outK [(Value.bool false)])
theorem sh_unpress_Expander_Done (lf d : Nat) (a0 : Value) : evCall2 Tryz.prog gt lf (d + 1) 18 #[a0] = inside (b_unpress_Expander_Done lf d a0) := by kernel_rfl

/- unpress_Expander_Err -/
noncomputable def b_unpress_Expander_Err (lf d : Nat) (a0 : Value) : M Value :=
 optK (bin2 Tryz.prog .eql 26 a0 (Value.pointer none)) fun v4n1 =>
 ifV v4n1 (
 outK [(Value.int .i64 0)]) (
 optK (nil2 a0) fun v6n2 =>
 optK (evFieldAddr Tryz.prog 60 v6n2 9) fun v7n3 =>
 (inside (evLoad Tryz.prog 27 v7n3)).bind fun v8n4 =>
 outK [v8n4])
theorem sh_unpress_Expander_Err (lf d : Nat) (a0 : Value) : evCall2 Tryz.prog gt lf (d + 1) 19 #[a0] = inside (b_unpress_Expander_Err lf d a0) := by kernel_rfl

/- unpress_Expander_Steps -/
noncomputable def b_unpress_Expander_Steps (lf d : Nat) (a0 : Value) : M Value :=
 optK (bin2 Tryz.prog .eql 26 a0 (Value.pointer none)) fun v4n1 =>
 ifV v4n1 (
 outK [(Value.int .i64 0)]) (
 optK (nil2 a0) fun v6n2 =>
 optK (evFieldAddr Tryz.prog 60 v6n2 10) fun v7n3 =>
 (inside (evLoad Tryz.prog 3 v7n3)).bind fun v8n4 =>
 outK [v8n4])
theorem sh_unpress_Expander_Steps (lf d : Nat) (a0 : Value) : evCall2 Tryz.prog gt lf (d + 1) 20 #[a0] = inside (b_unpress_Expander_Steps lf d a0) := by kernel_rfl

/- unpress_Need -/
noncomputable def b_unpress_Need (lf d : Nat) (a0 : Value) (a1 : Value) (a2 : Value) : M Value :=
 (inside (evCall2 Tryz.prog gt lf d 43 #[a0])).bind fun v12n1 =>
 optK (evExtract v12n1 0) fun v13n2 =>
 optK (evExtract v12n1 1) fun v14n3 =>
 optK (bin2 Tryz.prog .neq 27 v14n3 (Value.int .i64 0)) fun v16n4 =>
 ifV v16n4 (
 outK [(Value.int .i64 0), (Value.int .i64 1)]) (
 (inside (evCall2 Tryz.prog gt lf d 44 #[a1, a2])).bind fun v20n5 =>
 optK (un2 Tryz.prog .not v20n5) fun v21n6 =>
 ifV v21n6 (
 outK [(Value.int .i64 0), (Value.int .i64 1)]) (
 optK (bin2 Tryz.prog .add 3 a1 a2) fun v25n7 =>
 optK (bin2 Tryz.prog .mul 3 (Value.int .i64 36) a0) fun v27n8 =>
 optK (bin2 Tryz.prog .add 3 v25n7 v27n8) fun v28n9 =>
 optK (bin2 Tryz.prog .add 3 v28n9 (Value.int .i64 40960)) fun v29n10 =>
 outK [v29n10, (Value.int .i64 0)]))
theorem sh_unpress_Need (lf d : Nat) (a0 : Value) (a1 : Value) (a2 : Value) : evCall2 Tryz.prog gt lf (d + 1) 21 #[a0, a1, a2] = inside (b_unpress_Need lf d a0 a1 a2) := by kernel_rfl

/- balerref24_Need -/
noncomputable def b_balerref24_Need (lf d : Nat) (a0 : Value) (a1 : Value) (a2 : Value) : M Value :=
 optK (bin2 Tryz.prog .add 3 a1 a2) fun v9n1 =>
 optK (bin2 Tryz.prog .mul 3 (Value.int .i64 36) a0) fun v11n2 =>
 optK (bin2 Tryz.prog .add 3 v9n1 v11n2) fun v12n3 =>
 optK (bin2 Tryz.prog .add 3 v12n3 (Value.int .i64 40960)) fun v13n4 =>
 outK [v13n4]
theorem sh_balerref24_Need (lf d : Nat) (a0 : Value) (a1 : Value) (a2 : Value) : evCall2 Tryz.prog gt lf (d + 1) 22 #[a0, a1, a2] = inside (b_balerref24_Need lf d a0 a1 a2) := by kernel_rfl

/- tester_Tester_Feed -/
noncomputable def b_tester_Tester_Feed (lf d : Nat) (a0 : Value) (a1 : Value) : M Value :=
 optK (bin2 Tryz.prog .eql 41 a0 (Value.pointer none)) fun v6n1 =>
 ifV v6n1 (
 outK [(Value.int .i64 0)]) (
 optK (nil2 a0) fun v8n2 =>
 optK (evFieldAddr Tryz.prog 73 v8n2 0) fun v9n3 =>
 optK (evFieldAddr Tryz.prog 71 v9n3 0) fun v10n4 =>
 (inside (evLoad Tryz.prog 26 v10n4)).bind fun v11n5 =>
 (inside (evCall2 Tryz.prog gt lf d 11 #[v11n5, a1])).bind fun v13n6 =>
 outK [v13n6])
theorem sh_tester_Tester_Feed (lf d : Nat) (a0 : Value) (a1 : Value) : evCall2 Tryz.prog gt lf (d + 1) 23 #[a0, a1] = inside (b_tester_Tester_Feed lf d a0 a1) := by kernel_rfl

/- tester_Tester_End -/
noncomputable def b_tester_Tester_End (lf d : Nat) (a0 : Value) : M Value :=
 optK (bin2 Tryz.prog .eql 41 a0 (Value.pointer none)) fun v4n1 =>
 ifV v4n1 (
 outK [(Value.int .i64 7)]) (
 optK (nil2 a0) fun v6n2 =>
 optK (evFieldAddr Tryz.prog 73 v6n2 0) fun v7n3 =>
 optK (evFieldAddr Tryz.prog 71 v7n3 0) fun v8n4 =>
 (inside (evLoad Tryz.prog 26 v8n4)).bind fun v9n5 =>
 (inside (evCall2 Tryz.prog gt lf d 14 #[v9n5])).bind fun v10n6 =>
 outK [v10n6])
theorem sh_tester_Tester_End (lf d : Nat) (a0 : Value) : evCall2 Tryz.prog gt lf (d + 1) 24 #[a0] = inside (b_tester_Tester_End lf d a0) := by kernel_rfl

/- tester_Tester_Step -/
noncomputable def lpA_tester_Tester_Step (lf d fu : Nat) (k : Ex → Fr → M Value) (x0 : Value) (x1 : Value) (x4 : Value) (x5 : Value) (x7 : Value) : M Value := loopK (fun s1 k1 => codeK Tryz.prog (evCall2 Tryz.prog gt lf d) (gt 25) lf (codeAt (bodyOf Tryz.prog 25) [true, true, true, false, false, false]) s1 k1) [0, 1, 4, 5, 7] fu [(0, x0), (1, x1), (4, x4), (5, x5), (7, x7)] k
noncomputable def kcA_tester_Tester_Step (lf d : Nat) : Ex → Fr → M Value := contAt Tryz.prog (evCall2 Tryz.prog gt lf d) (gt 25) lf (bodyOf Tryz.prog 25) [true, true, true, false, false] (endK Tryz.prog (resOf Tryz.prog 25))
noncomputable def b_tester_Tester_Step (lf d : Nat) (a0 : Value) (a1 : Value) : M Value :=
 optK (bin2 Tryz.prog .eql 41 a0 (Value.pointer none)) fun v7n1 =>
 ifV v7n1 (
 outK [(Value.int .i64 0)]) (
 lpA_tester_Tester_Step lf d lf (kcA_tester_Tester_Step lf d) a0 a1 (Value.int .i64 0) (Value.int .i64 0) v7n1)
theorem sh_tester_Tester_Step (lf d : Nat) (a0 : Value) (a1 : Value) : evCall2 Tryz.prog gt lf (d + 1) 25 #[a0, a1] = inside (b_tester_Tester_Step lf d a0 a1) := by kernel_rfl
theorem zeroA_tester_Tester_Step (lf d : Nat) (k : Ex → Fr → M Value) (x0 : Value) (x1 : Value) (x4 : Value) (x5 : Value) (x7 : Value) : lpA_tester_Tester_Step lf d 0 k x0 x1 x4 x5 x7 = M.fail := rfl
theorem succA_tester_Tester_Step (lf d fu : Nat) (k : Ex → Fr → M Value) (x0 : Value) (x1 : Value) (x4 : Value) (x5 : Value) (x7 : Value) : lpA_tester_Tester_Step lf d (fu + 1) k x0 x1 x4 x5 x7 =
  optK (bin2 Tryz.prog .lss 3 x5 x1) fun v10n2 =>
  ifV v10n2 (
    (inside (evCall2 Tryz.prog gt lf d 26 #[x0])).bind fun v13n3 =>
    optK (un2 Tryz.prog .not v13n3) fun v14n4 =>
    ifV v14n4 (
      optK (nil2 x0) fun v18n5 =>
      optK (evFieldAddr Tryz.prog 73 v18n5 0) fun v19n6 =>
      optK (evFieldAddr Tryz.prog 71 v19n6 0) fun v20n7 =>
      (inside (evLoad Tryz.prog 26 v20n7)).bind fun v21n8 =>
      optK (bin2 Tryz.prog .sub 3 x1 x5) fun v24n9 =>
      (inside (evCall2 Tryz.prog gt lf d 15 #[v21n8, v24n9])).bind fun v25n10 =>
      optK (bin2 Tryz.prog .add 3 x5 v25n10) fun v26n11 =>
      optK (nil2 x0) fun v28n12 =>
      optK (evFieldAddr Tryz.prog 73 v28n12 0) fun v29n13 =>
      optK (evFieldAddr Tryz.prog 71 v29n13 0) fun v30n14 =>
      (inside (evLoad Tryz.prog 26 v30n14)).bind fun v31n15 =>
      (inside (evCall2 Tryz.prog gt lf d 17 #[v31n15])).bind fun v32n16 =>
      optK (bin2 Tryz.prog .geq 3 v32n16 (Value.int .i64 4096)) fun v33n17 =>
      ifV v33n17 (
        optK (nil2 x0) fun v43n18 =>
        optK (evFieldAddr Tryz.prog 73 v43n18 0) fun v44n19 =>
        (inside (evCall2 Tryz.prog gt lf d 52 #[v44n19])).bind fun v45n20 =>
        lpA_tester_Tester_Step lf d fu k x0 x1 x4 v26n11 x7) (
        optK (nil2 x0) fun v36n21 =>
        optK (evFieldAddr Tryz.prog 73 v36n21 0) fun v37n22 =>
        optK (evFieldAddr Tryz.prog 71 v37n22 0) fun v38n23 =>
        (inside (evLoad Tryz.prog 26 v38n23)).bind fun v39n24 =>
        (inside (evCall2 Tryz.prog gt lf d 18 #[v39n24])).bind fun v40n25 =>
        ifV v40n25 (
          optK (nil2 x0) fun v43n26 =>
          optK (evFieldAddr Tryz.prog 73 v43n26 0) fun v44n27 =>
          (inside (evCall2 Tryz.prog gt lf d 52 #[v44n27])).bind fun v45n28 =>
          lpA_tester_Tester_Step lf d fu k x0 x1 x4 v26n11 x7) (
          lpA_tester_Tester_Step lf d fu k x0 x1 x4 v26n11 x7))) (
      k (Ex.exit 0) [(0, x0), (1, x1), (4, x4), (5, x5), (7, x7), (15, v14n4)])) (
    k (Ex.exit 0) [(0, x0), (1, x1), (4, x4), (5, x5), (7, x7), (15, (Value.bool false))]) := by kernel_rfl
theorem kcAa_tester_Tester_Step (lf d : Nat) (y0 : Value) (y1 : Value) (y4 : Value) (y5 : Value) (y7 : Value) (y15 : Value) : kcA_tester_Tester_Step lf d (Ex.exit 0) [(0, y0), (1, y1), (4, y4), (5, y5), (7, y7), (15, y15)] =
  (inside (evCall2 Tryz.prog gt lf d 53 #[y0])).bind fun v47n29 =>
  outK [y5] := by kernel_rfl

/- tester_Tester_Stopped -/
noncomputable def b_tester_Tester_Stopped (lf d : Nat) (a0 : Value) : M Value :=
 optK (bin2 Tryz.prog .eql 41 a0 (Value.pointer none)) fun v4n1 =>
 ifV v4n1 (
 outK [(Value.bool true)]) (
 optK (nil2 a0) fun v7n2 =>
 optK (evFieldAddr Tryz.prog 73 v7n2 0) fun v8n3 =>
 optK (evFieldAddr Tryz.prog 71 v8n3 0) fun v9n4 =>
 (inside (evLoad Tryz.prog 26 v9n4)).bind fun v10n5 =>
 (inside (evCall2 Tryz.prog gt lf d 13 #[v10n5])).bind fun v11n6 =>
 outK [v11n6])
theorem sh_tester_Tester_Stopped (lf d : Nat) (a0 : Value) : evCall2 Tryz.prog gt lf (d + 1) 26 #[a0] = inside (b_tester_Tester_Stopped lf d a0) := by kernel_rfl

/- tester_Tester_Take -/
noncomputable def b_tester_Tester_Take (lf d : Nat) (a0 : Value) (a1 : Value) : M Value :=
 optK (bin2 Tryz.prog .eql 41 a0 (Value.pointer none)) fun v8n1 =>
 ifV v8n1 (
 outK [(Value.string { data := #[] })]) (
 optK (bin2 Tryz.prog .lss 3 a1 (Value.int .i64 1)) fun v11n2 =>
 ifV v11n2 (
 outK [(Value.string { data := #[] })]) (
 optK (nil2 a0) fun v15n3 =>
 optK (evFieldAddr Tryz.prog 73 v15n3 1) fun v16n4 =>
 (inside (evLoad Tryz.prog 9 v16n4)).bind fun v17n5 =>
 optK (len2 Tryz.prog #[9] [v17n5]) fun v18n6 =>
 optK (min2 [a1, v18n6]) fun v19n7 =>
 optK (nil2 a0) fun v21n8 =>
 optK (evFieldAddr Tryz.prog 73 v21n8 1) fun v22n9 =>
 (inside (evLoad Tryz.prog 9 v22n9)).bind fun v23n10 =>
 slice2 Tryz.prog 9 v23n10 none (some v19n7) none fun v25n11 =>
 optK (nil2 a0) fun v28n12 =>
 optK (evFieldAddr Tryz.prog 73 v28n12 1) fun v29n13 =>
 (inside (evLoad Tryz.prog 9 v29n13)).bind fun v30n14 =>
 slice2 Tryz.prog 9 v30n14 (some v19n7) none none fun v32n15 =>
 optK (nil2 a0) fun v33n16 =>
 optK (evFieldAddr Tryz.prog 73 v33n16 1) fun v34n17 =>
 (inside (evStore Tryz.prog 9 v34n17 v32n15)).bind fun u18 =>
 outK [v25n11]))
theorem sh_tester_Tester_Take (lf d : Nat) (a0 : Value) (a1 : Value) : evCall2 Tryz.prog gt lf (d + 1) 27 #[a0, a1] = inside (b_tester_Tester_Take lf d a0 a1) := by kernel_rfl

/- tester_Tester_Waiting -/
noncomputable def b_tester_Tester_Waiting (lf d : Nat) (a0 : Value) : M Value :=
 optK (bin2 Tryz.prog .eql 41 a0 (Value.pointer none)) fun v4n1 =>
 ifV v4n1 (
 outK [(Value.int .i64 0)]) (
 optK (nil2 a0) fun v6n2 =>
 optK (evFieldAddr Tryz.prog 73 v6n2 1) fun v7n3 =>
 (inside (evLoad Tryz.prog 9 v7n3)).bind fun v8n4 =>
 optK (len2 Tryz.prog #[9] [v8n4]) fun v9n5 =>
 outK [v9n5])
theorem sh_tester_Tester_Waiting (lf d : Nat) (a0 : Value) : evCall2 Tryz.prog gt lf (d + 1) 28 #[a0] = inside (b_tester_Tester_Waiting lf d a0) := by kernel_rfl

/- tester_Tester_Done -/
noncomputable def b_tester_Tester_Done (lf d : Nat) (a0 : Value) : M Value :=
 optK (bin2 Tryz.prog .neq 41 a0 (Value.pointer none)) fun v4n1 =>
 ifV v4n1 (
 optK (nil2 a0) fun v7n2 =>
 optK (evFieldAddr Tryz.prog 73 v7n2 0) fun v8n3 =>
 optK (evFieldAddr Tryz.prog 71 v8n3 0) fun v9n4 =>
 (inside (evLoad Tryz.prog 26 v9n4)).bind fun v10n5 =>
 (inside (evCall2 Tryz.prog gt lf d 18 #[v10n5])).bind fun v11n6 =>
 outK [v11n6]) (
 outK [(Value.bool false)])
theorem sh_tester_Tester_Done (lf d : Nat) (a0 : Value) : evCall2 Tryz.prog gt lf (d + 1) 29 #[a0] = inside (b_tester_Tester_Done lf d a0) := by kernel_rfl

/- tester_Tester_Err -/
noncomputable def b_tester_Tester_Err (lf d : Nat) (a0 : Value) : M Value :=
 optK (bin2 Tryz.prog .eql 41 a0 (Value.pointer none)) fun v4n1 =>
 ifV v4n1 (
 outK [(Value.int .i64 0)]) (
 optK (nil2 a0) fun v6n2 =>
 optK (evFieldAddr Tryz.prog 73 v6n2 0) fun v7n3 =>
 optK (evFieldAddr Tryz.prog 71 v7n3 0) fun v8n4 =>
 (inside (evLoad Tryz.prog 26 v8n4)).bind fun v9n5 =>
 (inside (evCall2 Tryz.prog gt lf d 19 #[v9n5])).bind fun v10n6 =>
 outK [v10n6])
theorem sh_tester_Tester_Err (lf d : Nat) (a0 : Value) : evCall2 Tryz.prog gt lf (d + 1) 30 #[a0] = inside (b_tester_Tester_Err lf d a0) := by kernel_rfl

/- tester_Tester_Count -/
noncomputable def b_tester_Tester_Count (lf d : Nat) (a0 : Value) : M Value :=
 optK (bin2 Tryz.prog .eql 41 a0 (Value.pointer none)) fun v4n1 =>
 ifV v4n1 (
 outK [(Value.int .i64 0)]) (
 optK (nil2 a0) fun v6n2 =>
 optK (evFieldAddr Tryz.prog 73 v6n2 0) fun v7n3 =>
 optK (evFieldAddr Tryz.prog 71 v7n3 1) fun v8n4 =>
 (inside (evLoad Tryz.prog 3 v8n4)).bind fun v9n5 =>
 outK [v9n5])
theorem sh_tester_Tester_Count (lf d : Nat) (a0 : Value) : evCall2 Tryz.prog gt lf (d + 1) 31 #[a0] = inside (b_tester_Tester_Count lf d a0) := by kernel_rfl

/- tester_Tester_Steps -/
noncomputable def b_tester_Tester_Steps (lf d : Nat) (a0 : Value) : M Value :=
 optK (bin2 Tryz.prog .eql 41 a0 (Value.pointer none)) fun v4n1 =>
 ifV v4n1 (
 outK [(Value.int .i64 0)]) (
 optK (nil2 a0) fun v6n2 =>
 optK (evFieldAddr Tryz.prog 73 v6n2 0) fun v7n3 =>
 optK (evFieldAddr Tryz.prog 71 v7n3 0) fun v8n4 =>
 (inside (evLoad Tryz.prog 26 v8n4)).bind fun v9n5 =>
 (inside (evCall2 Tryz.prog gt lf d 20 #[v9n5])).bind fun v10n6 =>
 outK [v10n6])
theorem sh_tester_Tester_Steps (lf d : Nat) (a0 : Value) : evCall2 Tryz.prog gt lf (d + 1) 32 #[a0] = inside (b_tester_Tester_Steps lf d a0) := by kernel_rfl

/- tester_Tester_Held -/
noncomputable def b_tester_Tester_Held (lf d : Nat) (a0 : Value) : M Value :=
 optK (bin2 Tryz.prog .eql 41 a0 (Value.pointer none)) fun v4n1 =>
 ifV v4n1 (
 outK [(Value.int .i64 0)]) (
 optK (nil2 a0) fun v6n2 =>
 optK (evFieldAddr Tryz.prog 73 v6n2 0) fun v7n3 =>
 optK (evFieldAddr Tryz.prog 71 v7n3 0) fun v8n4 =>
 (timed (
 (inside (evLoad Tryz.prog 26 v8n4)).bind fun v9n6 => M.ret v9n6)).bind fun vtn5 =>
 (timed (
 (inside (evCall2 Tryz.prog gt lf d 12 #[vtn5.1])).bind fun v10n8 => M.ret v10n8)).bind fun vtn7 =>
 optK (nil2 a0) fun v12n9 =>
 optK (evFieldAddr Tryz.prog 73 v12n9 1) fun v13n10 =>
 (timed (
 (inside (evLoad Tryz.prog 9 v13n10)).bind fun v14n12 => M.ret v14n12)).bind fun vtn11 =>
 optK (len2 Tryz.prog #[9] [vtn11.1]) fun v15n13 =>
 optK (bin2 Tryz.prog .add 3 vtn7.1 v15n13) fun v16n14 =>
 chkT ((!(Tk.clash vtn7.2 vtn11.2) && true) && true) (
 outK [v16n14]))
theorem sh_tester_Tester_Held (lf d : Nat) (a0 : Value) : evCall2 Tryz.prog gt lf (d + 1) 33 #[a0] = inside (b_tester_Tester_Held lf d a0) := by kernel_rfl

/- tester_New -/
noncomputable def b_tester_New (lf d : Nat) (a0 : Value) (a1 : Value) : M Value :=
 (inside (evCall2 Tryz.prog gt lf d 10 #[a0, a1, (Value.int .i64 4096)])).bind fun v11n1 =>
 optK (evExtract v11n1 0) fun v12n2 =>
 optK (evExtract v11n1 1) fun v13n3 =>
 optK (bin2 Tryz.prog .neq 27 v13n3 (Value.int .i64 0)) fun v15n4 =>
 ifV v15n4 (
 outK [(Value.pointer none), v13n3]) (
 (inside (evBuild Tryz.prog 71 [(0, v12n2)])).bind fun v18n5 =>
 (inside (evBuild Tryz.prog 73 [(0, v18n5)])).bind fun v19n6 =>
 (inside (evBox Tryz.prog 73 v19n6)).bind fun v20n7 =>
 outK [v20n7, (Value.int .i64 0)])
theorem sh_tester_New (lf d : Nat) (a0 : Value) (a1 : Value) : evCall2 Tryz.prog gt lf (d + 1) 35 #[a0, a1] = inside (b_tester_New lf d a0 a1) := by kernel_rfl

/- tester_Need -/
noncomputable def b_tester_Need (lf d : Nat) (a0 : Value) (a1 : Value) : M Value :=
 (inside (evCall2 Tryz.prog gt lf d 21 #[a0, a1, (Value.int .i64 4096)])).bind fun v11n1 =>
 optK (evExtract v11n1 0) fun v12n2 =>
 optK (evExtract v11n1 1) fun v13n3 =>
 optK (bin2 Tryz.prog .neq 27 v13n3 (Value.int .i64 0)) fun v15n4 =>
 ifV v15n4 (
 outK [(Value.int .i64 0), v13n3]) (
 optK (bin2 Tryz.prog .add 3 v12n2 (Value.int .i64 32)) fun v18n5 =>
 outK [v18n5, (Value.int .i64 0)])
theorem sh_tester_Need (lf d : Nat) (a0 : Value) (a1 : Value) : evCall2 Tryz.prog gt lf (d + 1) 36 #[a0, a1] = inside (b_tester_Need lf d a0 a1) := by kernel_rfl

/- tester_Digits -/
noncomputable def b_tester_Digits (lf d : Nat) (a0 : Value) : M Value :=
 optK (bin2 Tryz.prog .lss 3 a0 (Value.int .i64 10)) fun v4n1 =>
 ifV v4n1 (
 optK (max2 [a0, (Value.int .i64 0)]) fun v6n2 =>
 optK (bin2 Tryz.prog .add 3 (Value.int .i64 48) v6n2) fun v7n3 =>
 conv2 Tryz.prog 3 5 v7n3 fun v8n4 =>
 (inside (evBuildSlice Tryz.prog 58 1 [(0, v8n4)])).bind fun v9n5 =>
 conv2 Tryz.prog 58 9 v9n5 fun v10n6 =>
 outK [v10n6]) (
 optK (bin2 Tryz.prog .quo 3 a0 (Value.int .i64 10)) fun v12n7 =>
 (timed (
 (inside (evCall2 Tryz.prog gt lf d 37 #[v12n7])).bind fun v13n9 => M.ret v13n9)).bind fun vtn8 =>
 optK (bin2 Tryz.prog .rem 3 a0 (Value.int .i64 10)) fun v15n10 =>
 optK (bin2 Tryz.prog .add 3 (Value.int .i64 48) v15n10) fun v16n11 =>
 (timed (
 conv2 Tryz.prog 3 5 v16n11 fun v17n13 => M.ret v17n13)).bind fun vtn12 =>
 (timed (
 (inside (evBuildSlice Tryz.prog 58 1 [(0, vtn12.1)])).bind fun v18n15 => M.ret v18n15)).bind fun vtn14 =>
 (timed (
 conv2 Tryz.prog 58 9 vtn14.1 fun v19n17 => M.ret v19n17)).bind fun vtn16 =>
 optK (bin2 Tryz.prog .add 9 vtn8.1 vtn16.1) fun v20n18 =>
 chkT ((!(Tk.clash vtn8.2 vtn12.2) && (!(Tk.clash vtn8.2 vtn14.2) && (!(Tk.clash vtn8.2 vtn16.2) && true))) && true) (
 outK [v20n18]))
theorem sh_tester_Digits (lf d : Nat) (a0 : Value) : evCall2 Tryz.prog gt lf (d + 1) 37 #[a0] = inside (b_tester_Digits lf d a0) := by kernel_rfl

/- balerref25_Digits -/
noncomputable def lpA_balerref25_Digits (lf d fu : Nat) (k : Ex → Fr → M Value) (x0 : Value) (x2 : Value) (x3 : Value) (x5 : Value) : M Value := loopK (fun s1 k1 => codeK Tryz.prog (evCall2 Tryz.prog gt lf d) (gt 38) lf (codeAt (bodyOf Tryz.prog 38) [true, true, true, false, false, false]) s1 k1) [0, 2, 3, 5] fu [(0, x0), (2, x2), (3, x3), (5, x5)] k
noncomputable def kcA_balerref25_Digits (lf d : Nat) : Ex → Fr → M Value := contAt Tryz.prog (evCall2 Tryz.prog gt lf d) (gt 38) lf (bodyOf Tryz.prog 38) [true, true, true, false, false] (endK Tryz.prog (resOf Tryz.prog 38))
noncomputable def b_balerref25_Digits (lf d : Nat) (a0 : Value) : M Value :=
 optK (bin2 Tryz.prog .lss 3 a0 (Value.int .i64 0)) fun v5n1 =>
 ifV v5n1 (
 optK (bin2 Tryz.prog .rem 3 (Value.int .i64 0) (Value.int .i64 10)) fun v7n2 =>
 optK (bin2 Tryz.prog .rem 3 (Value.int .i64 0) (Value.int .i64 10)) fun v9n3 =>
 optK (bin2 Tryz.prog .add 3 v9n3 (Value.int .i64 1)) fun v10n4 =>
 slice2 Tryz.prog 9 (Value.string { data := #[48, 49, 50, 51, 52, 53, 54, 55, 56, 57] }) (some v7n2) (some v10n4) none fun v11n5 =>
 lpA_balerref25_Digits lf d lf (kcA_balerref25_Digits lf d) (Value.int .i64 0) (Value.string { data := #[] }) v11n5 v5n1) (
 optK (bin2 Tryz.prog .rem 3 a0 (Value.int .i64 10)) fun v7n6 =>
 optK (bin2 Tryz.prog .rem 3 a0 (Value.int .i64 10)) fun v9n7 =>
 optK (bin2 Tryz.prog .add 3 v9n7 (Value.int .i64 1)) fun v10n8 =>
 slice2 Tryz.prog 9 (Value.string { data := #[48, 49, 50, 51, 52, 53, 54, 55, 56, 57] }) (some v7n6) (some v10n8) none fun v11n9 =>
 lpA_balerref25_Digits lf d lf (kcA_balerref25_Digits lf d) a0 (Value.string { data := #[] }) v11n9 v5n1)
theorem sh_balerref25_Digits (lf d : Nat) (a0 : Value) : evCall2 Tryz.prog gt lf (d + 1) 38 #[a0] = inside (b_balerref25_Digits lf d a0) := by kernel_rfl
theorem zeroA_balerref25_Digits (lf d : Nat) (k : Ex → Fr → M Value) (x0 : Value) (x2 : Value) (x3 : Value) (x5 : Value) : lpA_balerref25_Digits lf d 0 k x0 x2 x3 x5 = M.fail := rfl
theorem succA_balerref25_Digits (lf d fu : Nat) (k : Ex → Fr → M Value) (x0 : Value) (x2 : Value) (x3 : Value) (x5 : Value) : lpA_balerref25_Digits lf d (fu + 1) k x0 x2 x3 x5 =
  optK (bin2 Tryz.prog .geq 3 x0 (Value.int .i64 10)) fun v13n10 =>
  ifV v13n10 (
    optK (bin2 Tryz.prog .quo 3 x0 (Value.int .i64 10)) fun v15n11 =>
    optK (bin2 Tryz.prog .rem 3 v15n11 (Value.int .i64 10)) fun v17n12 =>
    optK (bin2 Tryz.prog .rem 3 v15n11 (Value.int .i64 10)) fun v19n13 =>
    optK (bin2 Tryz.prog .add 3 v19n13 (Value.int .i64 1)) fun v20n14 =>
    slice2 Tryz.prog 9 (Value.string { data := #[48, 49, 50, 51, 52, 53, 54, 55, 56, 57] }) (some v17n12) (some v20n14) none fun v21n15 =>
    optK (bin2 Tryz.prog .add 9 v21n15 x3) fun v23n16 =>
    lpA_balerref25_Digits lf d fu k v15n11 x2 v23n16 x5) (
    k (Ex.exit 0) [(0, x0), (2, x2), (3, x3), (5, x5), (13, v13n10)]) := by kernel_rfl
theorem kcAa_balerref25_Digits (lf d : Nat) (y0 : Value) (y2 : Value) (y3 : Value) (y5 : Value) (y13 : Value) : kcA_balerref25_Digits lf d (Ex.exit 0) [(0, y0), (2, y2), (3, y3), (5, y5), (13, y13)] =
  outK [y3] := by kernel_rfl

/- balerlaw25_Setup_may -/
noncomputable def b_balerlaw25_Setup_may (lf d : Nat) (a0 : Value) : M Value :=
 (inside (evBox Tryz.prog 43 a0)).bind fun v1n1 =>
 optK (evFieldAddr Tryz.prog 43 v1n1 0) fun v3n2 =>
 (inside (evLoad Tryz.prog 3 v3n2)).bind fun v4n3 =>
 optK (evFieldAddr Tryz.prog 43 v1n1 1) fun v5n4 =>
 (inside (evLoad Tryz.prog 3 v5n4)).bind fun v6n5 =>
 (inside (evCall2 Tryz.prog gt lf d 54 #[v4n3, v6n5])).bind fun v7n6 =>
 outK [v7n6]
theorem sh_balerlaw25_Setup_may (lf d : Nat) (a0 : Value) : evCall2 Tryz.prog gt lf (d + 1) 39 #[a0] = inside (b_balerlaw25_Setup_may lf d a0) := by kernel_rfl

/- balerref25_Need -/
noncomputable def b_balerref25_Need (lf d : Nat) (a0 : Value) (a1 : Value) : M Value :=
 (inside (evCall2 Tryz.prog gt lf d 22 #[a0, a1, (Value.int .i64 4096)])).bind fun v7n1 =>
 optK (bin2 Tryz.prog .add 3 v7n1 (Value.int .i64 32)) fun v8n2 =>
 outK [v8n2]
theorem sh_balerref25_Need (lf d : Nat) (a0 : Value) (a1 : Value) : evCall2 Tryz.prog gt lf (d + 1) 40 #[a0, a1] = inside (b_balerref25_Need lf d a0 a1) := by kernel_rfl

/- balerref24_May -/
noncomputable def b_balerref24_May (lf d : Nat) (a0 : Value) (a1 : Value) (a2 : Value) : M Value :=
 (inside (evCall2 Tryz.prog gt lf d 55 #[a0])).bind fun v8n1 =>
 ifV v8n1 (
 optK (bin2 Tryz.prog .geq 3 a1 (Value.int .i64 64)) fun v11n2 =>
 ifV v11n2 (
 optK (bin2 Tryz.prog .leq 3 a1 (Value.int .i64 1048576)) fun v15n3 =>
 ifV v15n3 (
 optK (bin2 Tryz.prog .geq 3 a2 (Value.int .i64 1)) fun v19n4 =>
 ifV v19n4 (
 optK (bin2 Tryz.prog .leq 3 a2 (Value.int .i64 65536)) fun v23n5 =>
 outK [v23n5]) (
 outK [(Value.bool false)])) (
 outK [(Value.bool false)])) (
 outK [(Value.bool false)])) (
 outK [(Value.bool false)])
theorem sh_balerref24_May (lf d : Nat) (a0 : Value) (a1 : Value) (a2 : Value) : evCall2 Tryz.prog gt lf (d + 1) 41 #[a0, a1, a2] = inside (b_balerref24_May lf d a0 a1 a2) := by kernel_rfl

/- unstream_New -/
noncomputable def b_unstream_New (lf d : Nat) (a0 : Value) : M Value :=
 (inside (evCall2 Tryz.prog gt lf d 62 #[(Value.int .i64 1), a0])).bind fun v8n1 =>
 optK (evExtract v8n1 0) fun v9n2 =>
 optK (evExtract v8n1 1) fun v10n3 =>
 optK (bin2 Tryz.prog .neq 27 v10n3 (Value.int .i64 0)) fun v12n4 =>
 ifV v12n4 (
 outK [(Value.pointer none), v10n3]) (
 (inside (evBuild Tryz.prog 87 [(0, a0)])).bind fun v15n5 =>
 (inside (evBox Tryz.prog 87 v15n5)).bind fun v16n6 =>
 outK [v16n6, (Value.int .i64 0)])
theorem sh_unstream_New (lf d : Nat) (a0 : Value) : evCall2 Tryz.prog gt lf (d + 1) 43 #[a0] = inside (b_unstream_New lf d a0) := by kernel_rfl

/- unpress_may -/
noncomputable def b_unpress_may (lf d : Nat) (a0 : Value) (a1 : Value) : M Value :=
 optK (bin2 Tryz.prog .geq 3 a0 (Value.int .i64 64)) fun v6n1 =>
 ifV v6n1 (
 optK (bin2 Tryz.prog .leq 3 a0 (Value.int .i64 1048576)) fun v9n2 =>
 ifV v9n2 (
 optK (bin2 Tryz.prog .geq 3 a1 (Value.int .i64 1)) fun v13n3 =>
 ifV v13n3 (
 optK (bin2 Tryz.prog .leq 3 a1 (Value.int .i64 65536)) fun v17n4 =>
 outK [v17n4]) (
 outK [(Value.bool false)])) (
 outK [(Value.bool false)])) (
 outK [(Value.bool false)])
theorem sh_unpress_may (lf d : Nat) (a0 : Value) (a1 : Value) : evCall2 Tryz.prog gt lf (d + 1) 44 #[a0, a1] = inside (b_unpress_may lf d a0 a1) := by kernel_rfl

/- bits_NewReader -/
noncomputable def b_bits_NewReader (lf d : Nat) (a0 : Value) : M Value :=
 (inside (evBuild Tryz.prog 89 [(0, a0)])).bind fun v4n1 =>
 (inside (evBox Tryz.prog 89 v4n1)).bind fun v5n2 =>
 outK [v5n2]
theorem sh_bits_NewReader (lf d : Nat) (a0 : Value) : evCall2 Tryz.prog gt lf (d + 1) 45 #[a0] = inside (b_bits_NewReader lf d a0) := by kernel_rfl

/- bits_Reader_Held -/
noncomputable def b_bits_Reader_Held (lf d : Nat) (a0 : Value) : M Value :=
 optK (bin2 Tryz.prog .eql 55 a0 (Value.pointer none)) fun v4n1 =>
 ifV v4n1 (
 outK [(Value.int .i64 0)]) (
 optK (nil2 a0) fun v6n2 =>
 optK (evFieldAddr Tryz.prog 89 v6n2 0) fun v7n3 =>
 (inside (evLoad Tryz.prog 9 v7n3)).bind fun v8n4 =>
 optK (len2 Tryz.prog #[9] [v8n4]) fun v9n5 =>
 outK [v9n5])
theorem sh_bits_Reader_Held (lf d : Nat) (a0 : Value) : evCall2 Tryz.prog gt lf (d + 1) 46 #[a0] = inside (b_bits_Reader_Held lf d a0) := by kernel_rfl

/- bits_Reader_More -/
noncomputable def b_bits_Reader_More (lf d : Nat) (a0 : Value) (a1 : Value) : M Value :=
 optK (bin2 Tryz.prog .eql 55 a0 (Value.pointer none)) fun v6n1 =>
 ifV v6n1 (
 outK [(Value.int .i64 7)]) (
 optK (nil2 a0) fun v8n2 =>
 optK (evFieldAddr Tryz.prog 89 v8n2 0) fun v9n3 =>
 (inside (evLoad Tryz.prog 9 v9n3)).bind fun v10n4 =>
 optK (bin2 Tryz.prog .add 9 v10n4 a1) fun v12n5 =>
 optK (nil2 a0) fun v13n6 =>
 optK (evFieldAddr Tryz.prog 89 v13n6 0) fun v14n7 =>
 (inside (evStore Tryz.prog 9 v14n7 v12n5)).bind fun u8 =>
 outK [(Value.int .i64 0)])
theorem sh_bits_Reader_More (lf d : Nat) (a0 : Value) (a1 : Value) : evCall2 Tryz.prog gt lf (d + 1) 47 #[a0, a1] = inside (b_bits_Reader_More lf d a0 a1) := by kernel_rfl

/- unstream_Reader_Held -/
noncomputable def b_unstream_Reader_Held (lf d : Nat) (a0 : Value) : M Value :=
 optK (bin2 Tryz.prog .eql 51 a0 (Value.pointer none)) fun v4n1 =>
 ifV v4n1 (
 outK [(Value.int .i64 0)]) (
 optK (nil2 a0) fun v6n2 =>
 optK (evFieldAddr Tryz.prog 87 v6n2 4) fun v7n3 =>
 (inside (evLoad Tryz.prog 85 v7n3)).bind fun v8n4 =>
 (inside (evCall2 Tryz.prog gt lf d 63 #[v8n4])).bind fun v9n5 =>
 outK [v9n5])
theorem sh_unstream_Reader_Held (lf d : Nat) (a0 : Value) : evCall2 Tryz.prog gt lf (d + 1) 48 #[a0] = inside (b_unstream_Reader_Held lf d a0) := by kernel_rfl

/- unbwt_Inverter_Held -/
noncomputable def b_unbwt_Inverter_Held (lf d : Nat) (a0 : Value) : M Value :=
 optK (bin2 Tryz.prog .eql 65 a0 (Value.pointer none)) fun v4n1 =>
 ifV v4n1 (
 outK [(Value.int .i64 0)]) (
 optK (nil2 a0) fun v6n2 =>
 optK (evFieldAddr Tryz.prog 93 v6n2 0) fun v7n3 =>
 (inside (evLoad Tryz.prog 9 v7n3)).bind fun v8n4 =>
 optK (len2 Tryz.prog #[9] [v8n4]) fun v9n5 =>
 optK (bin2 Tryz.prog .mul 3 (Value.int .i64 2) v9n5) fun v10n6 =>
 optK (nil2 a0) fun v12n7 =>
 optK (evFieldAddr Tryz.prog 93 v12n7 4) fun v13n8 =>
 (inside (evLoad Tryz.prog 58 v13n8)).bind fun v14n9 =>
 optK (len2 Tryz.prog #[58] [v14n9]) fun v15n10 =>
 optK (bin2 Tryz.prog .add 3 v10n6 v15n10) fun v16n11 =>
 outK [v16n11])
theorem sh_unbwt_Inverter_Held (lf d : Nat) (a0 : Value) : evCall2 Tryz.prog gt lf (d + 1) 49 #[a0] = inside (b_unbwt_Inverter_Held lf d a0) := by kernel_rfl

/- unpress_Expander_open -/
noncomputable def b_unpress_Expander_open (lf d : Nat) (a0 : Value) : M Value :=
 optK (nil2 a0) fun v6n1 =>
 optK (evFieldAddr Tryz.prog 60 v6n1 5) fun v7n2 =>
 (inside (evLoad Tryz.prog 57 v7n2)).bind fun v8n3 =>
 (inside (evCall2 Tryz.prog gt lf d 64 #[v8n3])).bind fun v9n4 =>
 optK (evExtract v9n4 0) fun v10n5 =>
 optK (evExtract v9n4 1) fun v11n6 =>
 optK (nil2 a0) fun v14n7 =>
 optK (evFieldAddr Tryz.prog 60 v14n7 7) fun v15n8 =>
 (inside (evLoad Tryz.prog 58 v15n8)).bind fun v16n9 =>
 (inside (evAppend Tryz.prog 58 v16n9 v10n5)).bind fun v18n10 =>
 optK (nil2 a0) fun v19n11 =>
 optK (evFieldAddr Tryz.prog 60 v19n11 7) fun v20n12 =>
 (inside (evStore Tryz.prog 58 v20n12 v18n10)).bind fun u13 =>
 optK (bin2 Tryz.prog .neq 27 v11n6 (Value.int .i64 0)) fun v23n14 =>
 ifV v23n14 (
 (inside (evCall2 Tryz.prog gt lf d 65 #[a0, v11n6])).bind fun v26n15 =>
 outK []) (
 optK (nil2 a0) fun v29n16 =>
 optK (evFieldAddr Tryz.prog 60 v29n16 5) fun v30n17 =>
 (inside (evLoad Tryz.prog 57 v30n17)).bind fun v31n18 =>
 optK (nil2 v31n18) fun v32n19 =>
 optK (evFieldAddr Tryz.prog 69 v32n19 1) fun v33n20 =>
 (inside (evLoad Tryz.prog 65 v33n20)).bind fun v34n21 =>
 (inside (evCall2 Tryz.prog gt lf d 66 #[v34n21])).bind fun v35n22 =>
 ifV v35n22 (
 optK (nil2 a0) fun v37n23 =>
 optK (evFieldAddr Tryz.prog 60 v37n23 5) fun v38n24 =>
 (inside (evStore Tryz.prog 57 v38n24 (Value.pointer none))).bind fun u25 =>
 outK []) (
 outK []))
theorem sh_unpress_Expander_open (lf d : Nat) (a0 : Value) : evCall2 Tryz.prog gt lf (d + 1) 50 #[a0] = inside (b_unpress_Expander_open lf d a0) := by kernel_rfl

/- unpress_Expander_read -/
noncomputable def b_unpress_Expander_read (lf d : Nat) (a0 : Value) : M Value :=
 optK (nil2 a0) fun v6n1 =>
 optK (evFieldAddr Tryz.prog 60 v6n1 2) fun v7n2 =>
 (inside (evLoad Tryz.prog 4 v7n2)).bind fun v8n3 =>
 ifV v8n3 (
 optK (nil2 a0) fun v11n4 =>
 optK (evFieldAddr Tryz.prog 60 v11n4 4) fun v12n5 =>
 (inside (evLoad Tryz.prog 51 v12n5)).bind fun v13n6 =>
 (inside (evCall2 Tryz.prog gt lf d 67 #[v13n6])).bind fun v14n7 =>
 ifV v14n7 (
 optK (nil2 a0) fun v18n8 =>
 optK (evFieldAddr Tryz.prog 60 v18n8 3) fun v19n9 =>
 (inside (evLoad Tryz.prog 55 v19n9)).bind fun v20n10 =>
 (inside (evCall2 Tryz.prog gt lf d 68 #[v20n10])).bind fun v21n11 =>
 optK (bin2 Tryz.prog .eql 3 v21n11 (Value.int .i64 0)) fun v22n12 =>
 ifV v22n12 (
 (inside (evCall2 Tryz.prog gt lf d 65 #[a0, (Value.int .i64 0)])).bind fun v25n13 =>
 outK [(Value.bool true)]) (
 optK (nil2 a0) fun v28n14 =>
 optK (evFieldAddr Tryz.prog 60 v28n14 4) fun v29n15 =>
 (inside (evLoad Tryz.prog 51 v29n15)).bind fun v30n16 =>
 optK (nil2 a0) fun v32n17 =>
 optK (evFieldAddr Tryz.prog 60 v32n17 3) fun v33n18 =>
 (inside (evLoad Tryz.prog 55 v33n18)).bind fun v34n19 =>
 (inside (evCall2 Tryz.prog gt lf d 69 #[v30n16, v34n19])).bind fun v35n20 =>
 optK (evExtract v35n20 0) fun v36n21 =>
 optK (evExtract v35n20 1) fun v37n22 =>
 optK (nil2 a0) fun v39n23 =>
 optK (evFieldAddr Tryz.prog 60 v39n23 3) fun v40n24 =>
 (inside (evLoad Tryz.prog 55 v40n24)).bind fun v41n25 =>
 (inside (evCall2 Tryz.prog gt lf d 70 #[v41n25])).bind fun v42n26 =>
 optK (bin2 Tryz.prog .eql 27 v37n22 (Value.int .i64 3)) fun v45n27 =>
 ifV v45n27 (
 optK (nil2 a0) fun v48n28 =>
 optK (evFieldAddr Tryz.prog 60 v48n28 2) fun v49n29 =>
 (inside (evLoad Tryz.prog 4 v49n29)).bind fun v50n30 =>
 optK (un2 Tryz.prog .not v50n30) fun v51n31 =>
 ifV v51n31 (
 optK (nil2 a0) fun v54n32 =>
 optK (evFieldAddr Tryz.prog 60 v54n32 6) fun v55n33 =>
 (inside (evStore Tryz.prog 4 v55n33 (Value.bool true))).bind fun u34 =>
 outK [(Value.bool false)]) (
 optK (bin2 Tryz.prog .eql 27 v37n22 (Value.int .i64 3)) fun v58n35 =>
 ifV v58n35 (
 (inside (evCall2 Tryz.prog gt lf d 65 #[a0, (Value.int .i64 24)])).bind fun v60n36 =>
 outK [(Value.bool true)]) (
 optK (bin2 Tryz.prog .neq 27 v37n22 (Value.int .i64 0)) fun v63n37 =>
 ifV v63n37 (
 (inside (evCall2 Tryz.prog gt lf d 65 #[a0, v37n22])).bind fun v66n38 =>
 outK [(Value.bool true)]) (
 optK (bin2 Tryz.prog .eql 97 v36n21 (Value.int .i64 1)) fun v69n39 =>
 ifV v69n39 (
 optK (nil2 a0) fun v72n40 =>
 optK (evFieldAddr Tryz.prog 60 v72n40 4) fun v73n41 =>
 (inside (evLoad Tryz.prog 51 v73n41)).bind fun v74n42 =>
 (inside (evCall2 Tryz.prog gt lf d 72 #[v74n42])).bind fun v75n43 =>
 (inside (evCall2 Tryz.prog gt lf d 71 #[v75n43])).bind fun v76n44 =>
 optK (nil2 a0) fun v77n45 =>
 optK (evFieldAddr Tryz.prog 60 v77n45 5) fun v78n46 =>
 (inside (evStore Tryz.prog 57 v78n46 v76n44)).bind fun u47 =>
 outK [(Value.bool true)]) (
 outK [(Value.bool true)]))))) (
 optK (bin2 Tryz.prog .eql 27 v37n22 (Value.int .i64 3)) fun v58n48 =>
 ifV v58n48 (
 (inside (evCall2 Tryz.prog gt lf d 65 #[a0, (Value.int .i64 24)])).bind fun v60n49 =>
 outK [(Value.bool true)]) (
 optK (bin2 Tryz.prog .neq 27 v37n22 (Value.int .i64 0)) fun v63n50 =>
 ifV v63n50 (
 (inside (evCall2 Tryz.prog gt lf d 65 #[a0, v37n22])).bind fun v66n51 =>
 outK [(Value.bool true)]) (
 optK (bin2 Tryz.prog .eql 97 v36n21 (Value.int .i64 1)) fun v69n52 =>
 ifV v69n52 (
 optK (nil2 a0) fun v72n53 =>
 optK (evFieldAddr Tryz.prog 60 v72n53 4) fun v73n54 =>
 (inside (evLoad Tryz.prog 51 v73n54)).bind fun v74n55 =>
 (inside (evCall2 Tryz.prog gt lf d 72 #[v74n55])).bind fun v75n56 =>
 (inside (evCall2 Tryz.prog gt lf d 71 #[v75n56])).bind fun v76n57 =>
 optK (nil2 a0) fun v77n58 =>
 optK (evFieldAddr Tryz.prog 60 v77n58 5) fun v78n59 =>
 (inside (evStore Tryz.prog 57 v78n59 v76n57)).bind fun u60 =>
 outK [(Value.bool true)]) (
 outK [(Value.bool true)])))))) (
 optK (nil2 a0) fun v28n61 =>
 optK (evFieldAddr Tryz.prog 60 v28n61 4) fun v29n62 =>
 (inside (evLoad Tryz.prog 51 v29n62)).bind fun v30n63 =>
 optK (nil2 a0) fun v32n64 =>
 optK (evFieldAddr Tryz.prog 60 v32n64 3) fun v33n65 =>
 (inside (evLoad Tryz.prog 55 v33n65)).bind fun v34n66 =>
 (inside (evCall2 Tryz.prog gt lf d 69 #[v30n63, v34n66])).bind fun v35n67 =>
 optK (evExtract v35n67 0) fun v36n68 =>
 optK (evExtract v35n67 1) fun v37n69 =>
 optK (nil2 a0) fun v39n70 =>
 optK (evFieldAddr Tryz.prog 60 v39n70 3) fun v40n71 =>
 (inside (evLoad Tryz.prog 55 v40n71)).bind fun v41n72 =>
 (inside (evCall2 Tryz.prog gt lf d 70 #[v41n72])).bind fun v42n73 =>
 optK (bin2 Tryz.prog .eql 27 v37n69 (Value.int .i64 3)) fun v45n74 =>
 ifV v45n74 (
 optK (nil2 a0) fun v48n75 =>
 optK (evFieldAddr Tryz.prog 60 v48n75 2) fun v49n76 =>
 (inside (evLoad Tryz.prog 4 v49n76)).bind fun v50n77 =>
 optK (un2 Tryz.prog .not v50n77) fun v51n78 =>
 ifV v51n78 (
 optK (nil2 a0) fun v54n79 =>
 optK (evFieldAddr Tryz.prog 60 v54n79 6) fun v55n80 =>
 (inside (evStore Tryz.prog 4 v55n80 (Value.bool true))).bind fun u81 =>
 outK [(Value.bool false)]) (
 optK (bin2 Tryz.prog .eql 27 v37n69 (Value.int .i64 3)) fun v58n82 =>
 ifV v58n82 (
 (inside (evCall2 Tryz.prog gt lf d 65 #[a0, (Value.int .i64 24)])).bind fun v60n83 =>
 outK [(Value.bool true)]) (
 optK (bin2 Tryz.prog .neq 27 v37n69 (Value.int .i64 0)) fun v63n84 =>
 ifV v63n84 (
 (inside (evCall2 Tryz.prog gt lf d 65 #[a0, v37n69])).bind fun v66n85 =>
 outK [(Value.bool true)]) (
 optK (bin2 Tryz.prog .eql 97 v36n68 (Value.int .i64 1)) fun v69n86 =>
 ifV v69n86 (
 optK (nil2 a0) fun v72n87 =>
 optK (evFieldAddr Tryz.prog 60 v72n87 4) fun v73n88 =>
 (inside (evLoad Tryz.prog 51 v73n88)).bind fun v74n89 =>
 (inside (evCall2 Tryz.prog gt lf d 72 #[v74n89])).bind fun v75n90 =>
 (inside (evCall2 Tryz.prog gt lf d 71 #[v75n90])).bind fun v76n91 =>
 optK (nil2 a0) fun v77n92 =>
 optK (evFieldAddr Tryz.prog 60 v77n92 5) fun v78n93 =>
 (inside (evStore Tryz.prog 57 v78n93 v76n91)).bind fun u94 =>
 outK [(Value.bool true)]) (
 outK [(Value.bool true)]))))) (
 optK (bin2 Tryz.prog .eql 27 v37n69 (Value.int .i64 3)) fun v58n95 =>
 ifV v58n95 (
 (inside (evCall2 Tryz.prog gt lf d 65 #[a0, (Value.int .i64 24)])).bind fun v60n96 =>
 outK [(Value.bool true)]) (
 optK (bin2 Tryz.prog .neq 27 v37n69 (Value.int .i64 0)) fun v63n97 =>
 ifV v63n97 (
 (inside (evCall2 Tryz.prog gt lf d 65 #[a0, v37n69])).bind fun v66n98 =>
 outK [(Value.bool true)]) (
 optK (bin2 Tryz.prog .eql 97 v36n68 (Value.int .i64 1)) fun v69n99 =>
 ifV v69n99 (
 optK (nil2 a0) fun v72n100 =>
 optK (evFieldAddr Tryz.prog 60 v72n100 4) fun v73n101 =>
 (inside (evLoad Tryz.prog 51 v73n101)).bind fun v74n102 =>
 (inside (evCall2 Tryz.prog gt lf d 72 #[v74n102])).bind fun v75n103 =>
 (inside (evCall2 Tryz.prog gt lf d 71 #[v75n103])).bind fun v76n104 =>
 optK (nil2 a0) fun v77n105 =>
 optK (evFieldAddr Tryz.prog 60 v77n105 5) fun v78n106 =>
 (inside (evStore Tryz.prog 57 v78n106 v76n104)).bind fun u107 =>
 outK [(Value.bool true)]) (
 outK [(Value.bool true)])))))) (
 optK (nil2 a0) fun v28n108 =>
 optK (evFieldAddr Tryz.prog 60 v28n108 4) fun v29n109 =>
 (inside (evLoad Tryz.prog 51 v29n109)).bind fun v30n110 =>
 optK (nil2 a0) fun v32n111 =>
 optK (evFieldAddr Tryz.prog 60 v32n111 3) fun v33n112 =>
 (inside (evLoad Tryz.prog 55 v33n112)).bind fun v34n113 =>
 (inside (evCall2 Tryz.prog gt lf d 69 #[v30n110, v34n113])).bind fun v35n114 =>
 optK (evExtract v35n114 0) fun v36n115 =>
 optK (evExtract v35n114 1) fun v37n116 =>
 optK (nil2 a0) fun v39n117 =>
 optK (evFieldAddr Tryz.prog 60 v39n117 3) fun v40n118 =>
 (inside (evLoad Tryz.prog 55 v40n118)).bind fun v41n119 =>
 (inside (evCall2 Tryz.prog gt lf d 70 #[v41n119])).bind fun v42n120 =>
 optK (bin2 Tryz.prog .eql 27 v37n116 (Value.int .i64 3)) fun v45n121 =>
 ifV v45n121 (
 optK (nil2 a0) fun v48n122 =>
 optK (evFieldAddr Tryz.prog 60 v48n122 2) fun v49n123 =>
 (inside (evLoad Tryz.prog 4 v49n123)).bind fun v50n124 =>
 optK (un2 Tryz.prog .not v50n124) fun v51n125 =>
 ifV v51n125 (
 optK (nil2 a0) fun v54n126 =>
 optK (evFieldAddr Tryz.prog 60 v54n126 6) fun v55n127 =>
 (inside (evStore Tryz.prog 4 v55n127 (Value.bool true))).bind fun u128 =>
 outK [(Value.bool false)]) (
 optK (bin2 Tryz.prog .eql 27 v37n116 (Value.int .i64 3)) fun v58n129 =>
 ifV v58n129 (
 (inside (evCall2 Tryz.prog gt lf d 65 #[a0, (Value.int .i64 24)])).bind fun v60n130 =>
 outK [(Value.bool true)]) (
 optK (bin2 Tryz.prog .neq 27 v37n116 (Value.int .i64 0)) fun v63n131 =>
 ifV v63n131 (
 (inside (evCall2 Tryz.prog gt lf d 65 #[a0, v37n116])).bind fun v66n132 =>
 outK [(Value.bool true)]) (
 optK (bin2 Tryz.prog .eql 97 v36n115 (Value.int .i64 1)) fun v69n133 =>
 ifV v69n133 (
 optK (nil2 a0) fun v72n134 =>
 optK (evFieldAddr Tryz.prog 60 v72n134 4) fun v73n135 =>
 (inside (evLoad Tryz.prog 51 v73n135)).bind fun v74n136 =>
 (inside (evCall2 Tryz.prog gt lf d 72 #[v74n136])).bind fun v75n137 =>
 (inside (evCall2 Tryz.prog gt lf d 71 #[v75n137])).bind fun v76n138 =>
 optK (nil2 a0) fun v77n139 =>
 optK (evFieldAddr Tryz.prog 60 v77n139 5) fun v78n140 =>
 (inside (evStore Tryz.prog 57 v78n140 v76n138)).bind fun u141 =>
 outK [(Value.bool true)]) (
 outK [(Value.bool true)]))))) (
 optK (bin2 Tryz.prog .eql 27 v37n116 (Value.int .i64 3)) fun v58n142 =>
 ifV v58n142 (
 (inside (evCall2 Tryz.prog gt lf d 65 #[a0, (Value.int .i64 24)])).bind fun v60n143 =>
 outK [(Value.bool true)]) (
 optK (bin2 Tryz.prog .neq 27 v37n116 (Value.int .i64 0)) fun v63n144 =>
 ifV v63n144 (
 (inside (evCall2 Tryz.prog gt lf d 65 #[a0, v37n116])).bind fun v66n145 =>
 outK [(Value.bool true)]) (
 optK (bin2 Tryz.prog .eql 97 v36n115 (Value.int .i64 1)) fun v69n146 =>
 ifV v69n146 (
 optK (nil2 a0) fun v72n147 =>
 optK (evFieldAddr Tryz.prog 60 v72n147 4) fun v73n148 =>
 (inside (evLoad Tryz.prog 51 v73n148)).bind fun v74n149 =>
 (inside (evCall2 Tryz.prog gt lf d 72 #[v74n149])).bind fun v75n150 =>
 (inside (evCall2 Tryz.prog gt lf d 71 #[v75n150])).bind fun v76n151 =>
 optK (nil2 a0) fun v77n152 =>
 optK (evFieldAddr Tryz.prog 60 v77n152 5) fun v78n153 =>
 (inside (evStore Tryz.prog 57 v78n153 v76n151)).bind fun u154 =>
 outK [(Value.bool true)]) (
 outK [(Value.bool true)])))))
theorem sh_unpress_Expander_read (lf d : Nat) (a0 : Value) : evCall2 Tryz.prog gt lf (d + 1) 51 #[a0] = inside (b_unpress_Expander_read lf d a0) := by kernel_rfl

/- tester_counted_forget -/
noncomputable def b_tester_counted_forget (lf d : Nat) (a0 : Value) : M Value :=
 optK (nil2 a0) fun v3n1 =>
 optK (evFieldAddr Tryz.prog 71 v3n1 1) fun v4n2 =>
 (timed (
 (inside (evLoad Tryz.prog 3 v4n2)).bind fun v5n4 => M.ret v5n4)).bind fun vtn3 =>
 optK (nil2 a0) fun v7n5 =>
 optK (evFieldAddr Tryz.prog 71 v7n5 0) fun v8n6 =>
 (timed (
 (inside (evLoad Tryz.prog 26 v8n6)).bind fun v9n8 => M.ret v9n8)).bind fun vtn7 =>
 optK (nil2 a0) fun v11n9 =>
 optK (evFieldAddr Tryz.prog 71 v11n9 0) fun v12n10 =>
 (timed (
 (inside (evLoad Tryz.prog 26 v12n10)).bind fun v13n12 => M.ret v13n12)).bind fun vtn11 =>
 (timed (
 (inside (evCall2 Tryz.prog gt lf d 17 #[vtn11.1])).bind fun v14n14 => M.ret v14n14)).bind fun vtn13 =>
 (timed (
 (inside (evCall2 Tryz.prog gt lf d 16 #[vtn7.1, vtn13.1])).bind fun v15n16 => M.ret v15n16)).bind fun vtn15 =>
 optK (len2 Tryz.prog #[9] [vtn15.1]) fun v16n17 =>
 optK (bin2 Tryz.prog .add 3 vtn3.1 v16n17) fun v17n18 =>
 optK (nil2 a0) fun v18n19 =>
 optK (evFieldAddr Tryz.prog 71 v18n19 1) fun v19n20 =>
 (timed (
 (inside (evStore Tryz.prog 3 v19n20 v17n18)).bind fun u22 => M.ret u22)).bind fun vtn21 =>
 chkT ((!(Tk.clash vtn3.2 vtn13.2) && (!(Tk.clash vtn3.2 vtn15.2) && true)) && ((!(Tk.clash vtn7.2 vtn13.2) && true) && true)) (
 outK [])
theorem sh_tester_counted_forget (lf d : Nat) (a0 : Value) : evCall2 Tryz.prog gt lf (d + 1) 52 #[a0] = inside (b_tester_counted_forget lf d a0) := by kernel_rfl

/- tester_Tester_tell -/
noncomputable def b_tester_Tester_tell (lf d : Nat) (a0 : Value) : M Value :=
 optK (nil2 a0) fun v3n1 =>
 optK (evFieldAddr Tryz.prog 73 v3n1 0) fun v4n2 =>
 optK (evFieldAddr Tryz.prog 71 v4n2 0) fun v5n3 =>
 (inside (evLoad Tryz.prog 26 v5n3)).bind fun v6n4 =>
 (inside (evCall2 Tryz.prog gt lf d 18 #[v6n4])).bind fun v7n5 =>
 ifV v7n5 (
 optK (nil2 a0) fun v10n6 =>
 optK (evFieldAddr Tryz.prog 73 v10n6 0) fun v11n7 =>
 optK (evFieldAddr Tryz.prog 71 v11n7 0) fun v12n8 =>
 (inside (evLoad Tryz.prog 26 v12n8)).bind fun v13n9 =>
 (inside (evCall2 Tryz.prog gt lf d 19 #[v13n9])).bind fun v14n10 =>
 optK (bin2 Tryz.prog .eql 27 v14n10 (Value.int .i64 0)) fun v15n11 =>
 ifV v15n11 (
 optK (nil2 a0) fun v19n12 =>
 optK (evFieldAddr Tryz.prog 73 v19n12 2) fun v20n13 =>
 (inside (evLoad Tryz.prog 4 v20n13)).bind fun v21n14 =>
 optK (un2 Tryz.prog .not v21n14) fun v22n15 =>
 ifV v22n15 (
 optK (nil2 a0) fun v25n16 =>
 optK (evFieldAddr Tryz.prog 73 v25n16 2) fun v26n17 =>
 (inside (evStore Tryz.prog 4 v26n17 (Value.bool true))).bind fun u18 =>
 optK (nil2 a0) fun v29n19 =>
 optK (evFieldAddr Tryz.prog 73 v29n19 0) fun v30n20 =>
 optK (evFieldAddr Tryz.prog 71 v30n20 1) fun v31n21 =>
 (inside (evLoad Tryz.prog 3 v31n21)).bind fun v32n22 =>
 (inside (evCall2 Tryz.prog gt lf d 37 #[v32n22])).bind fun v33n23 =>
 optK (nil2 a0) fun v34n24 =>
 optK (evFieldAddr Tryz.prog 73 v34n24 1) fun v35n25 =>
 (inside (evStore Tryz.prog 9 v35n25 v33n23)).bind fun u26 =>
 outK []) (
 outK [])) (
 outK [])) (
 outK [])
theorem sh_tester_Tester_tell (lf d : Nat) (a0 : Value) : evCall2 Tryz.prog gt lf (d + 1) 53 #[a0] = inside (b_tester_Tester_tell lf d a0) := by kernel_rfl

/- balerref25_May -/
noncomputable def b_balerref25_May (lf d : Nat) (a0 : Value) (a1 : Value) : M Value :=
 (inside (evCall2 Tryz.prog gt lf d 41 #[a0, a1, (Value.int .i64 4096)])).bind fun v7n1 =>
 outK [v7n1]
theorem sh_balerref25_May (lf d : Nat) (a0 : Value) (a1 : Value) : evCall2 Tryz.prog gt lf (d + 1) 54 #[a0, a1] = inside (b_balerref25_May lf d a0 a1) := by kernel_rfl

/- balerref21_Unit -/
noncomputable def b_balerref21_Unit (lf d : Nat) (a0 : Value) : M Value :=
 optK (bin2 Tryz.prog .geq 3 a0 (Value.int .i64 24)) fun v4n1 =>
 ifV v4n1 (
 optK (bin2 Tryz.prog .leq 3 a0 (Value.int .i64 100000)) fun v7n2 =>
 outK [v7n2]) (
 outK [(Value.bool false)])
theorem sh_balerref21_Unit (lf d : Nat) (a0 : Value) : evCall2 Tryz.prog gt lf (d + 1) 55 #[a0] = inside (b_balerref21_Unit lf d a0) := by kernel_rfl

/- split_Room -/
noncomputable def b_split_Room (lf d : Nat) (a0 : Value) (a1 : Value) : M Value :=
 optK (bin2 Tryz.prog .lss 3 a0 (Value.int .i64 1)) fun v7n1 =>
 ifV v7n1 (
 outK [(Value.int .i64 0), (Value.int .i64 1)]) (
 optK (bin2 Tryz.prog .gtr 3 a0 (Value.int .i64 9)) fun v10n2 =>
 ifV v10n2 (
 outK [(Value.int .i64 0), (Value.int .i64 1)]) (
 optK (bin2 Tryz.prog .lss 3 a1 (Value.int .i64 24)) fun v14n3 =>
 ifV v14n3 (
 outK [(Value.int .i64 0), (Value.int .i64 1)]) (
 optK (bin2 Tryz.prog .gtr 3 a1 (Value.int .i64 100000)) fun v18n4 =>
 ifV v18n4 (
 outK [(Value.int .i64 0), (Value.int .i64 1)]) (
 optK (bin2 Tryz.prog .mul 3 a0 a1) fun v22n5 =>
 optK (bin2 Tryz.prog .sub 3 v22n5 (Value.int .i64 19)) fun v23n6 =>
 outK [v23n6, (Value.int .i64 0)]))))
theorem sh_split_Room (lf d : Nat) (a0 : Value) (a1 : Value) : evCall2 Tryz.prog gt lf (d + 1) 62 #[a0, a1] = inside (b_split_Room lf d a0 a1) := by kernel_rfl

/- block_Reader_Held -/
noncomputable def b_block_Reader_Held (lf d : Nat) (a0 : Value) : M Value :=
 optK (bin2 Tryz.prog .eql 85 a0 (Value.pointer none)) fun v5n1 =>
 ifV v5n1 (
 outK [(Value.int .i64 0)]) (
 optK (nil2 a0) fun v8n2 =>
 optK (evFieldAddr Tryz.prog 118 v8n2 0) fun v9n3 =>
 (inside (evLoad Tryz.prog 116 v9n3)).bind fun v10n4 =>
 optK (bin2 Tryz.prog .eql 116 v10n4 (Value.pointer none)) fun v11n5 =>
 ifV v11n5 (
 optK (nil2 a0) fun v13n6 =>
 optK (evFieldAddr Tryz.prog 118 v13n6 5) fun v14n7 =>
 (inside (evLoad Tryz.prog 58 v14n7)).bind fun v15n8 =>
 optK (len2 Tryz.prog #[58] [v15n8]) fun v16n9 =>
 outK [v16n9]) (
 optK (nil2 a0) fun v18n10 =>
 optK (evFieldAddr Tryz.prog 118 v18n10 0) fun v19n11 =>
 (timed (
 (inside (evLoad Tryz.prog 116 v19n11)).bind fun v20n13 => M.ret v20n13)).bind fun vtn12 =>
 optK (nil2 vtn12.1) fun v21n14 =>
 optK (evFieldAddr Tryz.prog 123 v21n14 0) fun v22n15 =>
 (timed (
 (inside (evLoad Tryz.prog 119 v22n15)).bind fun v23n17 => M.ret v23n17)).bind fun vtn16 =>
 (timed (
 (inside (evCall2 Tryz.prog gt lf d 83 #[vtn16.1])).bind fun v24n19 => M.ret v24n19)).bind fun vtn18 =>
 optK (nil2 a0) fun v26n20 =>
 optK (evFieldAddr Tryz.prog 118 v26n20 5) fun v27n21 =>
 (timed (
 (inside (evLoad Tryz.prog 58 v27n21)).bind fun v28n23 => M.ret v28n23)).bind fun vtn22 =>
 optK (len2 Tryz.prog #[58] [vtn22.1]) fun v29n24 =>
 optK (bin2 Tryz.prog .add 3 vtn18.1 v29n24) fun v30n25 =>
 chkT ((!(Tk.clash vtn18.2 vtn22.2) && true) && true) (
 outK [v30n25])))
theorem sh_block_Reader_Held (lf d : Nat) (a0 : Value) : evCall2 Tryz.prog gt lf (d + 1) 63 #[a0] = inside (b_block_Reader_Held lf d a0) := by kernel_rfl

/- unpress_opening_step -/
noncomputable def b_unpress_opening_step (lf d : Nat) (a0 : Value) : M Value :=
 optK (nil2 a0) fun v8n1 =>
 optK (evFieldAddr Tryz.prog 69 v8n1 1) fun v9n2 =>
 (inside (evLoad Tryz.prog 65 v9n2)).bind fun v10n3 =>
 (inside (evCall2 Tryz.prog gt lf d 84 #[v10n3, (Value.int .i64 1)])).bind fun v11n4 =>
 optK (nil2 a0) fun v13n5 =>
 optK (evFieldAddr Tryz.prog 69 v13n5 1) fun v14n6 =>
 (inside (evLoad Tryz.prog 65 v14n6)).bind fun v15n7 =>
 (inside (evCall2 Tryz.prog gt lf d 85 #[v15n7])).bind fun v16n8 =>
 optK (bin2 Tryz.prog .eql 9 v16n8 (Value.string { data := #[] })) fun v18n9 =>
 ifV v18n9 (
 outK [(Value.string { data := #[] }), (Value.int .i64 0)]) (
 optK (nil2 a0) fun v21n10 =>
 optK (evFieldAddr Tryz.prog 69 v21n10 2) fun v22n11 =>
 (inside (evLoad Tryz.prog 66 v22n11)).bind fun v23n12 =>
 optK (index2 Tryz.prog 9 v16n8 (Value.int .i64 0)) fun v25n13 =>
 (inside (evCall2 Tryz.prog gt lf d 86 #[v23n12, v25n13])).bind fun v26n14 =>
 optK (evExtract v26n14 0) fun v27n15 =>
 optK (evExtract v26n14 1) fun v28n16 =>
 optK (bin2 Tryz.prog .neq 27 v28n16 (Value.int .i64 0)) fun v30n17 =>
 ifV v30n17 (
 outK [(Value.string { data := #[] }), v28n16]) (
 optK (nil2 a0) fun v33n18 =>
 optK (evFieldAddr Tryz.prog 69 v33n18 3) fun v34n19 =>
 (inside (evLoad Tryz.prog 67 v34n19)).bind fun v35n20 =>
 (inside (evCall2 Tryz.prog gt lf d 87 #[v35n20, v27n15])).bind fun v37n21 =>
 (inside (evCall2 Tryz.prog gt lf d 88 #[a0])).bind fun v40n22 =>
 outK [v27n15, v40n22]))
theorem sh_unpress_opening_step (lf d : Nat) (a0 : Value) : evCall2 Tryz.prog gt lf (d + 1) 64 #[a0] = inside (b_unpress_opening_step lf d a0) := by kernel_rfl

/- unpress_Expander_fail -/
noncomputable def b_unpress_Expander_fail (lf d : Nat) (a0 : Value) (a1 : Value) : M Value :=
 optK (nil2 a0) fun v5n1 =>
 optK (evFieldAddr Tryz.prog 60 v5n1 8) fun v6n2 =>
 (inside (evStore Tryz.prog 4 v6n2 (Value.bool true))).bind fun u3 =>
 optK (nil2 a0) fun v9n4 =>
 optK (evFieldAddr Tryz.prog 60 v9n4 9) fun v10n5 =>
 (inside (evStore Tryz.prog 27 v10n5 a1)).bind fun u6 =>
 optK (nil2 a0) fun v12n7 =>
 optK (evFieldAddr Tryz.prog 60 v12n7 5) fun v13n8 =>
 (inside (evStore Tryz.prog 57 v13n8 (Value.pointer none))).bind fun u9 =>
 outK []
theorem sh_unpress_Expander_fail (lf d : Nat) (a0 : Value) (a1 : Value) : evCall2 Tryz.prog gt lf (d + 1) 65 #[a0, a1] = inside (b_unpress_Expander_fail lf d a0 a1) := by kernel_rfl

/- unbwt_Inverter_Done -/
noncomputable def b_unbwt_Inverter_Done (lf d : Nat) (a0 : Value) : M Value :=
 optK (bin2 Tryz.prog .neq 65 a0 (Value.pointer none)) fun v4n1 =>
 ifV v4n1 (
 optK (nil2 a0) fun v7n2 =>
 optK (evFieldAddr Tryz.prog 93 v7n2 5) fun v8n3 =>
 (inside (evLoad Tryz.prog 3 v8n3)).bind fun v9n4 =>
 optK (nil2 a0) fun v11n5 =>
 optK (evFieldAddr Tryz.prog 93 v11n5 0) fun v12n6 =>
 (inside (evLoad Tryz.prog 9 v12n6)).bind fun v13n7 =>
 optK (len2 Tryz.prog #[9] [v13n7]) fun v14n8 =>
 optK (bin2 Tryz.prog .mul 3 (Value.int .i64 3) v14n8) fun v15n9 =>
 optK (bin2 Tryz.prog .eql 3 v9n4 v15n9) fun v16n10 =>
 outK [v16n10]) (
 outK [(Value.bool false)])
theorem sh_unbwt_Inverter_Done (lf d : Nat) (a0 : Value) : evCall2 Tryz.prog gt lf (d + 1) 66 #[a0] = inside (b_unbwt_Inverter_Done lf d a0) := by kernel_rfl

/- unstream_Reader_MayEnd -/
noncomputable def b_unstream_Reader_MayEnd (lf d : Nat) (a0 : Value) : M Value :=
 optK (bin2 Tryz.prog .neq 51 a0 (Value.pointer none)) fun v4n1 =>
 ifV v4n1 (
 optK (nil2 a0) fun v7n2 =>
 optK (evFieldAddr Tryz.prog 87 v7n2 7) fun v8n3 =>
 (inside (evLoad Tryz.prog 4 v8n3)).bind fun v9n4 =>
 ifV v9n4 (
 optK (nil2 a0) fun v13n5 =>
 optK (evFieldAddr Tryz.prog 87 v13n5 1) fun v14n6 =>
 (inside (evLoad Tryz.prog 84 v14n6)).bind fun v15n7 =>
 optK (bin2 Tryz.prog .eql 84 v15n7 (Value.int .i64 0)) fun v16n8 =>
 ifV v16n8 (
 optK (nil2 a0) fun v20n9 =>
 optK (evFieldAddr Tryz.prog 87 v20n9 2) fun v21n10 =>
 (inside (evLoad Tryz.prog 3 v21n10)).bind fun v22n11 =>
 optK (bin2 Tryz.prog .eql 3 v22n11 (Value.int .i64 0)) fun v23n12 =>
 ifV v23n12 (
 optK (nil2 a0) fun v27n13 =>
 optK (evFieldAddr Tryz.prog 87 v27n13 8) fun v28n14 =>
 (inside (evLoad Tryz.prog 27 v28n14)).bind fun v29n15 =>
 optK (bin2 Tryz.prog .eql 27 v29n15 (Value.int .i64 0)) fun v30n16 =>
 outK [v30n16]) (
 outK [(Value.bool false)])) (
 outK [(Value.bool false)])) (
 outK [(Value.bool false)])) (
 outK [(Value.bool false)])
theorem sh_unstream_Reader_MayEnd (lf d : Nat) (a0 : Value) : evCall2 Tryz.prog gt lf (d + 1) 67 #[a0] = inside (b_unstream_Reader_MayEnd lf d a0) := by kernel_rfl

/- bits_Reader_Left -/
noncomputable def b_bits_Reader_Left (lf d : Nat) (a0 : Value) : M Value :=
 optK (bin2 Tryz.prog .eql 55 a0 (Value.pointer none)) fun v4n1 =>
 ifV v4n1 (
 outK [(Value.int .i64 0)]) (
 (timed (
 (inside (evCall2 Tryz.prog gt lf d 89 #[a0])).bind fun v6n3 => M.ret v6n3)).bind fun vtn2 =>
 optK (nil2 a0) fun v8n4 =>
 optK (evFieldAddr Tryz.prog 89 v8n4 2) fun v9n5 =>
 (timed (
 (inside (evLoad Tryz.prog 3 v9n5)).bind fun v10n7 => M.ret v10n7)).bind fun vtn6 =>
 optK (bin2 Tryz.prog .sub 3 vtn2.1 vtn6.1) fun v11n8 =>
 chkT ((!(Tk.clash vtn2.2 vtn6.2) && true) && true) (
 outK [v11n8]))
theorem sh_bits_Reader_Left (lf d : Nat) (a0 : Value) : evCall2 Tryz.prog gt lf (d + 1) 68 #[a0] = inside (b_bits_Reader_Left lf d a0) := by kernel_rfl

/- unstream_Reader_Step -/
noncomputable def b_unstream_Reader_Step (lf d : Nat) (a0 : Value) (a1 : Value) : M Value :=
 optK (bin2 Tryz.prog .eql 51 a0 (Value.pointer none)) fun v10n1 =>
 ifV v10n1 (
 outK [(Value.int .i64 0), (Value.int .i64 7)]) (
 optK (bin2 Tryz.prog .eql 55 a1 (Value.pointer none)) fun v13n2 =>
 ifV v13n2 (
 outK [(Value.int .i64 0), (Value.int .i64 7)]) (
 optK (nil2 a0) fun v17n3 =>
 optK (evFieldAddr Tryz.prog 87 v17n3 8) fun v18n4 =>
 (inside (evLoad Tryz.prog 27 v18n4)).bind fun v19n5 =>
 optK (bin2 Tryz.prog .neq 27 v19n5 (Value.int .i64 0)) fun v20n6 =>
 ifV v20n6 (
 optK (nil2 a0) fun v22n7 =>
 optK (evFieldAddr Tryz.prog 87 v22n7 8) fun v23n8 =>
 (inside (evLoad Tryz.prog 27 v23n8)).bind fun v24n9 =>
 outK [(Value.int .i64 0), v24n9]) (
 (inside (evCall2 Tryz.prog gt lf d 90 #[a0, a1])).bind fun v28n10 =>
 optK (evExtract v28n10 0) fun v29n11 =>
 optK (evExtract v28n10 1) fun v30n12 =>
 optK (bin2 Tryz.prog .neq 27 v30n12 (Value.int .i64 3)) fun v32n13 =>
 ifV v32n13 (
 optK (nil2 a0) fun v35n14 =>
 optK (evFieldAddr Tryz.prog 87 v35n14 8) fun v36n15 =>
 (inside (evStore Tryz.prog 27 v36n15 v30n12)).bind fun u16 =>
 outK [v29n11, v30n12]) (
 outK [v29n11, v30n12]))))
theorem sh_unstream_Reader_Step (lf d : Nat) (a0 : Value) (a1 : Value) : evCall2 Tryz.prog gt lf (d + 1) 69 #[a0, a1] = inside (b_unstream_Reader_Step lf d a0 a1) := by kernel_rfl

/- bits_Reader_Drop -/
noncomputable def b_bits_Reader_Drop (lf d : Nat) (a0 : Value) : M Value :=
 optK (bin2 Tryz.prog .eql 55 a0 (Value.pointer none)) fun v5n1 =>
 ifV v5n1 (
 outK [(Value.int .i64 0)]) (
 optK (nil2 a0) fun v7n2 =>
 optK (evFieldAddr Tryz.prog 89 v7n2 2) fun v8n3 =>
 (inside (evLoad Tryz.prog 3 v8n3)).bind fun v9n4 =>
 optK (bin2 Tryz.prog .quo 3 v9n4 (Value.int .i64 8)) fun v10n5 =>
 optK (nil2 a0) fun v12n6 =>
 optK (evFieldAddr Tryz.prog 89 v12n6 1) fun v13n7 =>
 (inside (evLoad Tryz.prog 3 v13n7)).bind fun v14n8 =>
 optK (bin2 Tryz.prog .sub 3 v10n5 v14n8) fun v15n9 =>
 optK (nil2 a0) fun v18n10 =>
 optK (evFieldAddr Tryz.prog 89 v18n10 0) fun v19n11 =>
 (inside (evLoad Tryz.prog 9 v19n11)).bind fun v20n12 =>
 slice2 Tryz.prog 9 v20n12 (some v15n9) none none fun v22n13 =>
 optK (nil2 a0) fun v23n14 =>
 optK (evFieldAddr Tryz.prog 89 v23n14 0) fun v24n15 =>
 (inside (evStore Tryz.prog 9 v24n15 v22n13)).bind fun u16 =>
 optK (nil2 a0) fun v26n17 =>
 optK (evFieldAddr Tryz.prog 89 v26n17 1) fun v27n18 =>
 (inside (evLoad Tryz.prog 3 v27n18)).bind fun v28n19 =>
 optK (bin2 Tryz.prog .add 3 v28n19 v15n9) fun v30n20 =>
 optK (nil2 a0) fun v31n21 =>
 optK (evFieldAddr Tryz.prog 89 v31n21 1) fun v32n22 =>
 (inside (evStore Tryz.prog 3 v32n22 v30n20)).bind fun u23 =>
 outK [v15n9])
theorem sh_bits_Reader_Drop (lf d : Nat) (a0 : Value) : evCall2 Tryz.prog gt lf (d + 1) 70 #[a0] = inside (b_bits_Reader_Drop lf d a0) := by kernel_rfl

/- unpress_openingOf -/
noncomputable def b_unpress_openingOf (lf d : Nat) (a0 : Value) : M Value :=
 (inside (evBox Tryz.prog 64 a0)).bind fun v1n1 =>
 optK (evFieldAddr Tryz.prog 64 v1n1 0) fun v6n2 =>
 (inside (evLoad Tryz.prog 9 v6n2)).bind fun v7n3 =>
 optK (evFieldAddr Tryz.prog 64 v1n1 1) fun v8n4 =>
 (inside (evLoad Tryz.prog 3 v8n4)).bind fun v9n5 =>
 (inside (evCall2 Tryz.prog gt lf d 91 #[v7n3, v9n5])).bind fun v10n6 =>
 optK (evExtract v10n6 0) fun v11n7 =>
 optK (evExtract v10n6 1) fun v12n8 =>
 (timed (
 (inside (evLoad Tryz.prog 64 v1n1)).bind fun v13n10 => M.ret v13n10)).bind fun vtn9 =>
 (timed (
 (inside (evCall2 Tryz.prog gt lf d 92 #[])).bind fun v15n12 => M.ret v15n12)).bind fun vtn11 =>
 (timed (
 (inside (evCall2 Tryz.prog gt lf d 93 #[])).bind fun v16n14 => M.ret v16n14)).bind fun vtn13 =>
 (inside (evBuild Tryz.prog 69 [(0, vtn9.1), (1, v11n7), (2, vtn11.1), (3, vtn13.1)])).bind fun v17n15 =>
 (timed (
 (inside (evBox Tryz.prog 69 v17n15)).bind fun v18n17 => M.ret v18n17)).bind fun vtn16 =>
 chkT ((!(Tk.clash vtn9.2 vtn11.2) && (!(Tk.clash vtn9.2 vtn13.2) && true)) && true) (
 outK [vtn16.1])
theorem sh_unpress_openingOf (lf d : Nat) (a0 : Value) : evCall2 Tryz.prog gt lf (d + 1) 71 #[a0] = inside (b_unpress_openingOf lf d a0) := by kernel_rfl

/- unstream_Reader_Got -/
noncomputable def b_unstream_Reader_Got (lf d : Nat) (a0 : Value) : M Value :=
 (inside (evAlloc Tryz.prog 64)).bind fun v2n1 =>
 optK (bin2 Tryz.prog .eql 51 a0 (Value.pointer none)) fun v4n2 =>
 ifV v4n2 (
 (inside (evBuild Tryz.prog 64 [])).bind fun v5n3 =>
 (inside (evStore Tryz.prog 64 v2n1 v5n3)).bind fun u4 =>
 (evLoad Tryz.prog 64 v2n1).bind fun vrn5 =>
 outK [vrn5]) (
 optK (nil2 a0) fun v7n6 =>
 optK (evFieldAddr Tryz.prog 87 v7n6 5) fun v8n7 =>
 (inside (evLoad Tryz.prog 64 v8n7)).bind fun v9n8 =>
 (inside (evStore Tryz.prog 64 v2n1 v9n8)).bind fun u9 =>
 (evLoad Tryz.prog 64 v2n1).bind fun vrn10 =>
 outK [vrn10])
theorem sh_unstream_Reader_Got (lf d : Nat) (a0 : Value) : evCall2 Tryz.prog gt lf (d + 1) 72 #[a0] = inside (b_unstream_Reader_Got lf d a0) := by kernel_rfl

/- code_Reader_Held -/
noncomputable def b_code_Reader_Held (lf d : Nat) (a0 : Value) : M Value :=
 optK (bin2 Tryz.prog .eql 119 a0 (Value.pointer none)) fun v4n1 =>
 ifV v4n1 (
 outK [(Value.int .i64 0)]) (
 optK (nil2 a0) fun v6n2 =>
 optK (evFieldAddr Tryz.prog 143 v6n2 1) fun v7n3 =>
 (timed (
 (inside (evLoad Tryz.prog 139 v7n3)).bind fun v8n5 => M.ret v8n5)).bind fun vtn4 =>
 (timed (
 (inside (evCall2 Tryz.prog gt lf d 105 #[vtn4.1])).bind fun v9n7 => M.ret v9n7)).bind fun vtn6 =>
 optK (len2 Tryz.prog #[91] [vtn6.1]) fun v10n8 =>
 optK (nil2 a0) fun v12n9 =>
 optK (evFieldAddr Tryz.prog 143 v12n9 0) fun v13n10 =>
 (timed (
 (inside (evLoad Tryz.prog 3 v13n10)).bind fun v14n12 => M.ret v14n12)).bind fun vtn11 =>
 optK (nil2 a0) fun v16n13 =>
 optK (evFieldAddr Tryz.prog 143 v16n13 4) fun v17n14 =>
 (timed (
 (inside (evLoad Tryz.prog 141 v17n14)).bind fun v18n16 => M.ret v18n16)).bind fun vtn15 =>
 optK (len2 Tryz.prog #[141] [vtn15.1]) fun v19n17 =>
 optK (bin2 Tryz.prog .mul 3 vtn11.1 v19n17) fun v20n18 =>
 optK (bin2 Tryz.prog .add 3 v10n8 v20n18) fun v21n19 =>
 chkT ((!(Tk.clash vtn6.2 vtn11.2) && (!(Tk.clash vtn6.2 vtn15.2) && true)) && true) (
 outK [v21n19]))
theorem sh_code_Reader_Held (lf d : Nat) (a0 : Value) : evCall2 Tryz.prog gt lf (d + 1) 83 #[a0] = inside (b_code_Reader_Held lf d a0) := by kernel_rfl

/- unpress_opening_end -/
noncomputable def b_unpress_opening_end (lf d : Nat) (a0 : Value) : M Value :=
 optK (nil2 a0) fun v5n1 =>
 optK (evFieldAddr Tryz.prog 69 v5n1 1) fun v6n2 =>
 (inside (evLoad Tryz.prog 65 v6n2)).bind fun v7n3 =>
 (inside (evCall2 Tryz.prog gt lf d 66 #[v7n3])).bind fun v8n4 =>
 optK (un2 Tryz.prog .not v8n4) fun v9n5 =>
 ifV v9n5 (
 outK [(Value.int .i64 0)]) (
 optK (nil2 a0) fun v12n6 =>
 optK (evFieldAddr Tryz.prog 69 v12n6 2) fun v13n7 =>
 (inside (evLoad Tryz.prog 66 v13n7)).bind fun v14n8 =>
 (inside (evCall2 Tryz.prog gt lf d 110 #[v14n8])).bind fun v15n9 =>
 optK (bin2 Tryz.prog .neq 27 v15n9 (Value.int .i64 0)) fun v16n10 =>
 ifV v16n10 (
 outK [(Value.int .i64 25)]) (
 optK (nil2 a0) fun v19n11 =>
 optK (evFieldAddr Tryz.prog 69 v19n11 3) fun v20n12 =>
 (timed (
 (inside (evLoad Tryz.prog 67 v20n12)).bind fun v21n14 => M.ret v21n14)).bind fun vtn13 =>
 (timed (
 (inside (evCall2 Tryz.prog gt lf d 111 #[vtn13.1])).bind fun v22n16 => M.ret v22n16)).bind fun vtn15 =>
 optK (nil2 a0) fun v24n17 =>
 optK (evFieldAddr Tryz.prog 69 v24n17 0) fun v25n18 =>
 optK (evFieldAddr Tryz.prog 64 v25n18 2) fun v26n19 =>
 (timed (
 (inside (evLoad Tryz.prog 62 v26n19)).bind fun v27n21 => M.ret v27n21)).bind fun vtn20 =>
 optK (bin2 Tryz.prog .neq 62 vtn15.1 vtn20.1) fun v28n22 =>
 chkT ((!(Tk.clash vtn15.2 vtn20.2) && true) && true) (
 ifV v28n22 (
 outK [(Value.int .i64 21)]) (
 outK [(Value.int .i64 0)]))))
theorem sh_unpress_opening_end (lf d : Nat) (a0 : Value) : evCall2 Tryz.prog gt lf (d + 1) 88 #[a0] = inside (b_unpress_opening_end lf d a0) := by kernel_rfl

/- bits_Reader_end -/
noncomputable def b_bits_Reader_end (lf d : Nat) (a0 : Value) : M Value :=
 optK (nil2 a0) fun v4n1 =>
 optK (evFieldAddr Tryz.prog 89 v4n1 1) fun v5n2 =>
 (inside (evLoad Tryz.prog 3 v5n2)).bind fun v6n3 =>
 optK (nil2 a0) fun v8n4 =>
 optK (evFieldAddr Tryz.prog 89 v8n4 0) fun v9n5 =>
 (inside (evLoad Tryz.prog 9 v9n5)).bind fun v10n6 =>
 optK (len2 Tryz.prog #[9] [v10n6]) fun v11n7 =>
 optK (bin2 Tryz.prog .add 3 v6n3 v11n7) fun v12n8 =>
 optK (bin2 Tryz.prog .mul 3 (Value.int .i64 8) v12n8) fun v13n9 =>
 outK [v13n9]
theorem sh_bits_Reader_end (lf d : Nat) (a0 : Value) : evCall2 Tryz.prog gt lf (d + 1) 89 #[a0] = inside (b_bits_Reader_end lf d a0) := by kernel_rfl

/- unstream_Reader_step -/
noncomputable def b_unstream_Reader_step (lf d : Nat) (a0 : Value) (a1 : Value) : M Value :=
 optK (nil2 a0) fun v7n1 =>
 optK (evFieldAddr Tryz.prog 87 v7n1 1) fun v8n2 =>
 (inside (evLoad Tryz.prog 84 v8n2)).bind fun v9n3 =>
 optK (bin2 Tryz.prog .eql 84 v9n3 (Value.int .i64 0)) fun v11n4 =>
 ifV v11n4 (
 (inside (evCall2 Tryz.prog gt lf d 112 #[a0, a1])).bind fun v14n5 =>
 outK [(Value.int .i64 0), v14n5]) (
 optK (bin2 Tryz.prog .eql 84 v9n3 (Value.int .i64 1)) fun v16n6 =>
 ifV v16n6 (
 (inside (evCall2 Tryz.prog gt lf d 113 #[a0, a1])).bind fun v19n7 =>
 outK [(Value.int .i64 0), v19n7]) (
 optK (bin2 Tryz.prog .eql 84 v9n3 (Value.int .i64 2)) fun v21n8 =>
 ifV v21n8 (
 (inside (evCall2 Tryz.prog gt lf d 114 #[a0, a1])).bind fun v24n9 =>
 optK (evExtract v24n9 0) fun v25n10 =>
 optK (evExtract v24n9 1) fun v26n11 =>
 outK [v25n10, v26n11]) (
 (inside (evCall2 Tryz.prog gt lf d 115 #[a0, a1])).bind fun v29n12 =>
 optK (evExtract v29n12 0) fun v30n13 =>
 optK (evExtract v29n12 1) fun v31n14 =>
 outK [v30n13, v31n14])))
theorem sh_unstream_Reader_step (lf d : Nat) (a0 : Value) (a1 : Value) : evCall2 Tryz.prog gt lf (d + 1) 90 #[a0, a1] = inside (b_unstream_Reader_step lf d a0 a1) := by kernel_rfl

/- unstream_Reader_letter -/
noncomputable def b_unstream_Reader_letter (lf d : Nat) (a0 : Value) (a1 : Value) : M Value :=
 (inside (evCall2 Tryz.prog gt lf d 138 #[a1, (Value.int .i64 8)])).bind fun v9n1 =>
 optK (evExtract v9n1 0) fun v10n2 =>
 optK (evExtract v9n1 1) fun v11n3 =>
 optK (bin2 Tryz.prog .neq 27 v11n3 (Value.int .i64 0)) fun v14n4 =>
 ifV v14n4 (
 outK [v11n3]) (
 optK (nil2 a0) fun v18n5 =>
 optK (evFieldAddr Tryz.prog 87 v18n5 2) fun v19n6 =>
 (inside (evLoad Tryz.prog 3 v19n6)).bind fun v20n7 =>
 optK (bin2 Tryz.prog .lss 3 v20n7 (Value.int .i64 3)) fun v21n8 =>
 ifV v21n8 (
 optK (nil2 a0) fun v24n9 =>
 optK (evFieldAddr Tryz.prog 87 v24n9 2) fun v25n10 =>
 (inside (evLoad Tryz.prog 3 v25n10)).bind fun v26n11 =>
 optK (index2 Tryz.prog 9 (Value.string { data := #[66, 90, 104] }) v26n11) fun v27n12 =>
 conv2 Tryz.prog 5 62 v27n12 fun v28n13 =>
 optK (bin2 Tryz.prog .neq 62 v10n2 v28n13) fun v29n14 =>
 ifV v29n14 (
 outK [(Value.int .i64 20)]) (
 optK (nil2 a0) fun v31n15 =>
 optK (evFieldAddr Tryz.prog 87 v31n15 2) fun v32n16 =>
 (inside (evLoad Tryz.prog 3 v32n16)).bind fun v33n17 =>
 optK (bin2 Tryz.prog .add 3 v33n17 (Value.int .i64 1)) fun v34n18 =>
 optK (nil2 a0) fun v35n19 =>
 optK (evFieldAddr Tryz.prog 87 v35n19 2) fun v36n20 =>
 (inside (evStore Tryz.prog 3 v36n20 v34n18)).bind fun u21 =>
 outK [(Value.int .i64 0)])) (
 optK (bin2 Tryz.prog .lss 62 v10n2 (Value.int .u32 49)) fun v39n22 =>
 ifV v39n22 (
 outK [(Value.int .i64 20)]) (
 optK (bin2 Tryz.prog .gtr 62 v10n2 (Value.int .u32 57)) fun v42n23 =>
 ifV v42n23 (
 outK [(Value.int .i64 20)]) (
 optK (bin2 Tryz.prog .sub 62 v10n2 (Value.int .u32 48)) fun v46n24 =>
 conv2 Tryz.prog 62 3 v46n24 fun v47n25 =>
 optK (nil2 a0) fun v48n26 =>
 optK (evFieldAddr Tryz.prog 87 v48n26 3) fun v49n27 =>
 (inside (evStore Tryz.prog 3 v49n27 v47n25)).bind fun u28 =>
 optK (nil2 a0) fun v51n29 =>
 optK (evFieldAddr Tryz.prog 87 v51n29 2) fun v52n30 =>
 (inside (evStore Tryz.prog 3 v52n30 (Value.int .i64 0))).bind fun u31 =>
 optK (nil2 a0) fun v54n32 =>
 optK (evFieldAddr Tryz.prog 87 v54n32 6) fun v55n33 =>
 (inside (evStore Tryz.prog 62 v55n33 (Value.int .u32 0))).bind fun u34 =>
 optK (nil2 a0) fun v57n35 =>
 optK (evFieldAddr Tryz.prog 87 v57n35 1) fun v58n36 =>
 (inside (evStore Tryz.prog 84 v58n36 (Value.int .i64 1))).bind fun u37 =>
 outK [(Value.int .i64 0)]))))
theorem sh_unstream_Reader_letter (lf d : Nat) (a0 : Value) (a1 : Value) : evCall2 Tryz.prog gt lf (d + 1) 112 #[a0, a1] = inside (b_unstream_Reader_letter lf d a0 a1) := by kernel_rfl

/- unstream_Reader_magic -/
noncomputable def b_unstream_Reader_magic (lf d : Nat) (a0 : Value) (a1 : Value) : M Value :=
 (inside (evCall2 Tryz.prog gt lf d 68 #[a1])).bind fun v12n1 =>
 optK (bin2 Tryz.prog .lss 3 v12n1 (Value.int .i64 48)) fun v13n2 =>
 ifV v13n2 (
 outK [(Value.int .i64 3)]) (
 (inside (evCall2 Tryz.prog gt lf d 138 #[a1, (Value.int .i64 24)])).bind fun v16n3 =>
 optK (evExtract v16n3 0) fun v17n4 =>
 optK (evExtract v16n3 1) fun v18n5 =>
 (inside (evCall2 Tryz.prog gt lf d 138 #[a1, (Value.int .i64 24)])).bind fun v21n6 =>
 optK (evExtract v21n6 0) fun v22n7 =>
 optK (evExtract v21n6 1) fun v23n8 =>
 conv2 Tryz.prog 62 187 v17n4 fun v25n9 =>
 optK (bin2 Tryz.prog .shl 187 v25n9 (Value.int .u64 24)) fun v26n10 =>
 conv2 Tryz.prog 62 187 v22n7 fun v28n11 =>
 optK (bin2 Tryz.prog .or 187 v26n10 v28n11) fun v29n12 =>
 optK (bin2 Tryz.prog .eql 187 v29n12 (Value.int .u64 54156738319193)) fun v31n13 =>
 ifV v31n13 (
 optK (nil2 a0) fun v34n14 =>
 optK (evFieldAddr Tryz.prog 87 v34n14 3) fun v35n15 =>
 (inside (evLoad Tryz.prog 3 v35n15)).bind fun v36n16 =>
 optK (nil2 a0) fun v38n17 =>
 optK (evFieldAddr Tryz.prog 87 v38n17 0) fun v39n18 =>
 (inside (evLoad Tryz.prog 3 v39n18)).bind fun v40n19 =>
 optK (bin2 Tryz.prog .mul 3 v36n16 v40n19) fun v41n20 =>
 (inside (evCall2 Tryz.prog gt lf d 139 #[v41n20])).bind fun v42n21 =>
 optK (evExtract v42n21 0) fun v43n22 =>
 optK (evExtract v42n21 1) fun v44n23 =>
 optK (nil2 a0) fun v47n24 =>
 optK (evFieldAddr Tryz.prog 87 v47n24 4) fun v48n25 =>
 (inside (evStore Tryz.prog 85 v48n25 v43n22)).bind fun u26 =>
 optK (nil2 a0) fun v50n27 =>
 optK (evFieldAddr Tryz.prog 87 v50n27 1) fun v51n28 =>
 (inside (evStore Tryz.prog 84 v51n28 (Value.int .i64 2))).bind fun u29 =>
 outK [v44n23]) (
 optK (bin2 Tryz.prog .eql 187 v29n12 (Value.int .u64 25779555029136)) fun v54n30 =>
 ifV v54n30 (
 optK (nil2 a0) fun v56n31 =>
 optK (evFieldAddr Tryz.prog 87 v56n31 1) fun v57n32 =>
 (inside (evStore Tryz.prog 84 v57n32 (Value.int .i64 3))).bind fun u33 =>
 outK [(Value.int .i64 0)]) (
 outK [(Value.int .i64 20)])))
theorem sh_unstream_Reader_magic (lf d : Nat) (a0 : Value) (a1 : Value) : evCall2 Tryz.prog gt lf (d + 1) 113 #[a0, a1] = inside (b_unstream_Reader_magic lf d a0 a1) := by kernel_rfl

/- unstream_Reader_body -/
noncomputable def b_unstream_Reader_body (lf d : Nat) (a0 : Value) (a1 : Value) : M Value :=
 optK (nil2 a0) fun v8n1 =>
 optK (evFieldAddr Tryz.prog 87 v8n1 4) fun v9n2 =>
 (inside (evLoad Tryz.prog 85 v9n2)).bind fun v10n3 =>
 (inside (evCall2 Tryz.prog gt lf d 140 #[v10n3, a1])).bind fun v12n4 =>
 optK (bin2 Tryz.prog .neq 27 v12n4 (Value.int .i64 0)) fun v14n5 =>
 ifV v14n5 (
 outK [(Value.int .i64 0), v12n4]) (
 optK (nil2 a0) fun v17n6 =>
 optK (evFieldAddr Tryz.prog 87 v17n6 4) fun v18n7 =>
 (inside (evLoad Tryz.prog 85 v18n7)).bind fun v19n8 =>
 (inside (evCall2 Tryz.prog gt lf d 141 #[v19n8])).bind fun v20n9 =>
 optK (un2 Tryz.prog .not v20n9) fun v21n10 =>
 ifV v21n10 (
 outK [(Value.int .i64 0), v12n4]) (
 optK (nil2 a0) fun v26n11 =>
 optK (evFieldAddr Tryz.prog 87 v26n11 4) fun v27n12 =>
 (inside (evLoad Tryz.prog 85 v27n12)).bind fun v28n13 =>
 (inside (evCall2 Tryz.prog gt lf d 142 #[v28n13])).bind fun v29n14 =>
 optK (nil2 a0) fun v30n15 =>
 optK (evFieldAddr Tryz.prog 87 v30n15 5) fun v31n16 =>
 (inside (evStore Tryz.prog 64 v31n16 v29n14)).bind fun u17 =>
 optK (nil2 a0) fun v33n18 =>
 optK (evFieldAddr Tryz.prog 87 v33n18 4) fun v34n19 =>
 (inside (evStore Tryz.prog 85 v34n19 (Value.pointer none))).bind fun u20 =>
 optK (nil2 a0) fun v37n21 =>
 optK (evFieldAddr Tryz.prog 87 v37n21 6) fun v38n22 =>
 (inside (evLoad Tryz.prog 62 v38n22)).bind fun v39n23 =>
 optK (nil2 a0) fun v41n24 =>
 optK (evFieldAddr Tryz.prog 87 v41n24 5) fun v42n25 =>
 optK (evFieldAddr Tryz.prog 64 v42n25 2) fun v43n26 =>
 (inside (evLoad Tryz.prog 62 v43n26)).bind fun v44n27 =>
 (inside (evCall2 Tryz.prog gt lf d 143 #[v39n23, v44n27])).bind fun v45n28 =>
 optK (nil2 a0) fun v46n29 =>
 optK (evFieldAddr Tryz.prog 87 v46n29 6) fun v47n30 =>
 (inside (evStore Tryz.prog 62 v47n30 v45n28)).bind fun u31 =>
 optK (nil2 a0) fun v49n32 =>
 optK (evFieldAddr Tryz.prog 87 v49n32 1) fun v50n33 =>
 (inside (evStore Tryz.prog 84 v50n33 (Value.int .i64 1))).bind fun u34 =>
 outK [(Value.int .i64 1), (Value.int .i64 0)]))
theorem sh_unstream_Reader_body (lf d : Nat) (a0 : Value) (a1 : Value) : evCall2 Tryz.prog gt lf (d + 1) 114 #[a0, a1] = inside (b_unstream_Reader_body lf d a0 a1) := by kernel_rfl

/- unstream_Reader_sum -/
noncomputable def b_unstream_Reader_sum (lf d : Nat) (a0 : Value) (a1 : Value) : M Value :=
 (inside (evCall2 Tryz.prog gt lf d 138 #[a1, (Value.int .i64 32)])).bind fun v10n1 =>
 optK (evExtract v10n1 0) fun v11n2 =>
 optK (evExtract v10n1 1) fun v12n3 =>
 optK (bin2 Tryz.prog .neq 27 v12n3 (Value.int .i64 0)) fun v15n4 =>
 ifV v15n4 (
 outK [(Value.int .i64 0), v12n3]) (
 optK (nil2 a0) fun v20n5 =>
 optK (evFieldAddr Tryz.prog 87 v20n5 6) fun v21n6 =>
 (inside (evLoad Tryz.prog 62 v21n6)).bind fun v22n7 =>
 optK (bin2 Tryz.prog .neq 62 v11n2 v22n7) fun v23n8 =>
 ifV v23n8 (
 outK [(Value.int .i64 0), (Value.int .i64 21)]) (
 (inside (evCall2 Tryz.prog gt lf d 144 #[a1])).bind fun v25n9 =>
 optK (nil2 a0) fun v27n10 =>
 optK (evFieldAddr Tryz.prog 87 v27n10 1) fun v28n11 =>
 (inside (evStore Tryz.prog 84 v28n11 (Value.int .i64 0))).bind fun u12 =>
 optK (nil2 a0) fun v30n13 =>
 optK (evFieldAddr Tryz.prog 87 v30n13 7) fun v31n14 =>
 (inside (evStore Tryz.prog 4 v31n14 (Value.bool true))).bind fun u15 =>
 outK [(Value.int .i64 2), (Value.int .i64 0)]))
theorem sh_unstream_Reader_sum (lf d : Nat) (a0 : Value) (a1 : Value) : evCall2 Tryz.prog gt lf (d + 1) 115 #[a0, a1] = inside (b_unstream_Reader_sum lf d a0 a1) := by kernel_rfl

/- bits_Reader_Get -/
noncomputable def lpA_bits_Reader_Get (lf d fu : Nat) (k : Ex → Fr → M Value) (x0 : Value) (x1 : Value) (x4 : Value) (x5 : Value) (x6 : Value) (x7 : Value) (x10 : Value) (x17 : Value) (x22 : Value) (x23 : Value) : M Value := loopK (fun s1 k1 => codeK Tryz.prog (evCall2 Tryz.prog gt lf d) (gt 138) lf (codeAt (bodyOf Tryz.prog 138) [true, true, true, false, true, false, false]) s1 k1) [0, 1, 4, 5, 6, 7, 10, 17, 22, 23] fu [(0, x0), (1, x1), (4, x4), (5, x5), (6, x6), (7, x7), (10, x10), (17, x17), (22, x22), (23, x23)] k
noncomputable def kcA_bits_Reader_Get (lf d : Nat) : Ex → Fr → M Value := contAt Tryz.prog (evCall2 Tryz.prog gt lf d) (gt 138) lf (bodyOf Tryz.prog 138) [true, true, true, false, true, false] (endK Tryz.prog (resOf Tryz.prog 138))
noncomputable def b_bits_Reader_Get (lf d : Nat) (a0 : Value) (a1 : Value) : M Value :=
 optK (bin2 Tryz.prog .eql 55 a0 (Value.pointer none)) fun v9n1 =>
 ifV v9n1 (
 outK [(Value.int .u32 0), (Value.int .i64 7)]) (
 optK (bin2 Tryz.prog .lss 3 a1 (Value.int .i64 0)) fun v12n2 =>
 ifV v12n2 (
 outK [(Value.int .u32 0), (Value.int .i64 1)]) (
 optK (bin2 Tryz.prog .gtr 3 a1 (Value.int .i64 32)) fun v15n3 =>
 ifV v15n3 (
 outK [(Value.int .u32 0), (Value.int .i64 1)]) (
 (inside (evCall2 Tryz.prog gt lf d 68 #[a0])).bind fun v19n4 =>
 optK (bin2 Tryz.prog .lss 3 v19n4 a1) fun v21n5 =>
 ifV v21n5 (
 outK [(Value.int .u32 0), (Value.int .i64 3)]) (
 lpA_bits_Reader_Get lf d lf (kcA_bits_Reader_Get lf d) a0 a1 (Value.int .u32 0) (Value.int .i64 0) (Value.int .u32 0) v9n1 v15n3 v21n5 a1 (Value.int .i64 0)))))
theorem sh_bits_Reader_Get (lf d : Nat) (a0 : Value) (a1 : Value) : evCall2 Tryz.prog gt lf (d + 1) 138 #[a0, a1] = inside (b_bits_Reader_Get lf d a0 a1) := by kernel_rfl
theorem zeroA_bits_Reader_Get (lf d : Nat) (k : Ex → Fr → M Value) (x0 : Value) (x1 : Value) (x4 : Value) (x5 : Value) (x6 : Value) (x7 : Value) (x10 : Value) (x17 : Value) (x22 : Value) (x23 : Value) : lpA_bits_Reader_Get lf d 0 k x0 x1 x4 x5 x6 x7 x10 x17 x22 x23 = M.fail := rfl
theorem succA_bits_Reader_Get (lf d fu : Nat) (k : Ex → Fr → M Value) (x0 : Value) (x1 : Value) (x4 : Value) (x5 : Value) (x6 : Value) (x7 : Value) (x10 : Value) (x17 : Value) (x22 : Value) (x23 : Value) : lpA_bits_Reader_Get lf d (fu + 1) k x0 x1 x4 x5 x6 x7 x10 x17 x22 x23 =
  optK (bin2 Tryz.prog .lss 3 x23 x22) fun v24n6 =>
  ifV v24n6 (
    optK (bin2 Tryz.prog .shl 62 x6 (Value.int .u64 1)) fun v26n7 =>
    optK (nil2 x0) fun v29n8 =>
    optK (evFieldAddr Tryz.prog 89 v29n8 2) fun v30n9 =>
    (inside (evLoad Tryz.prog 3 v30n9)).bind fun v31n10 =>
    (inside (evCall2 Tryz.prog gt lf d 156 #[x0, v31n10])).bind fun v32n11 =>
    optK (bin2 Tryz.prog .or 62 v26n7 v32n11) fun v33n12 =>
    optK (nil2 x0) fun v35n13 =>
    optK (evFieldAddr Tryz.prog 89 v35n13 2) fun v36n14 =>
    (inside (evLoad Tryz.prog 3 v36n14)).bind fun v37n15 =>
    optK (bin2 Tryz.prog .add 3 v37n15 (Value.int .i64 1)) fun v38n16 =>
    optK (nil2 x0) fun v39n17 =>
    optK (evFieldAddr Tryz.prog 89 v39n17 2) fun v40n18 =>
    (inside (evStore Tryz.prog 3 v40n18 v38n16)).bind fun u19 =>
    optK (bin2 Tryz.prog .add 3 x23 (Value.int .i64 1)) fun v41n20 =>
    lpA_bits_Reader_Get lf d fu k x0 x1 x4 x5 v33n12 x7 x10 x17 x22 v41n20) (
    k (Ex.exit 1) [(0, x0), (1, x1), (4, x4), (5, x5), (6, x6), (7, x7), (10, x10), (17, x17), (22, x22), (23, x23), (24, v24n6)]) := by kernel_rfl
theorem kcAa_bits_Reader_Get (lf d : Nat) (y0 : Value) (y1 : Value) (y4 : Value) (y5 : Value) (y6 : Value) (y7 : Value) (y10 : Value) (y17 : Value) (y22 : Value) (y23 : Value) (y24 : Value) : kcA_bits_Reader_Get lf d (Ex.exit 1) [(0, y0), (1, y1), (4, y4), (5, y5), (6, y6), (7, y7), (10, y10), (17, y17), (22, y22), (23, y23), (24, y24)] =
  outK [y6, (Value.int .i64 0)] := by kernel_rfl

/- bits_Reader_Align -/
noncomputable def lpA_bits_Reader_Align (lf d fu : Nat) (k : Ex → Fr → M Value) (x0 : Value) : M Value := loopK (fun s1 k1 => codeK Tryz.prog (evCall2 Tryz.prog gt lf d) (gt 144) lf (codeAt (bodyOf Tryz.prog 144) [false, false]) s1 k1) [0] fu [(0, x0)] k
noncomputable def kcA_bits_Reader_Align (lf d : Nat) : Ex → Fr → M Value := contAt Tryz.prog (evCall2 Tryz.prog gt lf d) (gt 144) lf (bodyOf Tryz.prog 144) [false] (endK Tryz.prog (resOf Tryz.prog 144))
noncomputable def b_bits_Reader_Align (lf d : Nat) (a0 : Value) : M Value :=
 lpA_bits_Reader_Align lf d lf (kcA_bits_Reader_Align lf d) a0
theorem sh_bits_Reader_Align (lf d : Nat) (a0 : Value) : evCall2 Tryz.prog gt lf (d + 1) 144 #[a0] = inside (b_bits_Reader_Align lf d a0) := by kernel_rfl
theorem zeroA_bits_Reader_Align (lf d : Nat) (k : Ex → Fr → M Value) (x0 : Value) : lpA_bits_Reader_Align lf d 0 k x0 = M.fail := rfl
theorem succA_bits_Reader_Align (lf d fu : Nat) (k : Ex → Fr → M Value) (x0 : Value) : lpA_bits_Reader_Align lf d (fu + 1) k x0 =
  optK (bin2 Tryz.prog .neq 55 x0 (Value.pointer none)) fun v3n1 =>
  ifV v3n1 (
    optK (nil2 x0) fun v6n2 =>
    optK (evFieldAddr Tryz.prog 89 v6n2 2) fun v7n3 =>
    (inside (evLoad Tryz.prog 3 v7n3)).bind fun v8n4 =>
    optK (bin2 Tryz.prog .rem 3 v8n4 (Value.int .i64 8)) fun v9n5 =>
    optK (bin2 Tryz.prog .neq 3 v9n5 (Value.int .i64 0)) fun v10n6 =>
    ifV v10n6 (
      optK (nil2 x0) fun v13n7 =>
      optK (evFieldAddr Tryz.prog 89 v13n7 2) fun v14n8 =>
      (inside (evLoad Tryz.prog 3 v14n8)).bind fun v15n9 =>
      optK (bin2 Tryz.prog .add 3 v15n9 (Value.int .i64 1)) fun v16n10 =>
      optK (nil2 x0) fun v17n11 =>
      optK (evFieldAddr Tryz.prog 89 v17n11 2) fun v18n12 =>
      (inside (evStore Tryz.prog 3 v18n12 v16n10)).bind fun u13 =>
      lpA_bits_Reader_Align lf d fu k x0) (
      k (Ex.exit 0) [(0, x0), (11, v10n6)])) (
    k (Ex.exit 0) [(0, x0), (11, (Value.bool false))]) := by kernel_rfl
theorem kcAa_bits_Reader_Align (lf d : Nat) (y0 : Value) (y11 : Value) : kcA_bits_Reader_Align lf d (Ex.exit 0) [(0, y0), (11, y11)] =
  outK [] := by kernel_rfl

/- bits_Reader_bit -/
noncomputable def b_bits_Reader_bit (lf d : Nat) (a0 : Value) (a1 : Value) : M Value :=
 optK (nil2 a0) fun v7n1 =>
 optK (evFieldAddr Tryz.prog 89 v7n1 0) fun v8n2 =>
 (inside (evLoad Tryz.prog 9 v8n2)).bind fun v9n3 =>
 optK (bin2 Tryz.prog .quo 3 a1 (Value.int .i64 8)) fun v11n4 =>
 optK (nil2 a0) fun v13n5 =>
 optK (evFieldAddr Tryz.prog 89 v13n5 1) fun v14n6 =>
 (inside (evLoad Tryz.prog 3 v14n6)).bind fun v15n7 =>
 optK (bin2 Tryz.prog .sub 3 v11n4 v15n7) fun v16n8 =>
 optK (index2 Tryz.prog 9 v9n3 v16n8) fun v17n9 =>
 optK (bin2 Tryz.prog .rem 3 a1 (Value.int .i64 8)) fun v20n10 =>
 optK (bin2 Tryz.prog .sub 3 (Value.int .i64 7) v20n10) fun v21n11 =>
 optK (bin2 Tryz.prog .shr 5 v17n9 v21n11) fun v22n12 =>
 optK (bin2 Tryz.prog .and 5 v22n12 (Value.int .u8 1)) fun v23n13 =>
 conv2 Tryz.prog 5 62 v23n13 fun v24n14 =>
 outK [v24n14]
theorem sh_bits_Reader_bit (lf d : Nat) (a0 : Value) (a1 : Value) : evCall2 Tryz.prog gt lf (d + 1) 156 #[a0, a1] = inside (b_bits_Reader_bit lf d a0 a1) := by kernel_rfl

/- bits_Reader_At -/
noncomputable def b_bits_Reader_At (lf d : Nat) (a0 : Value) : M Value :=
 optK (bin2 Tryz.prog .eql 55 a0 (Value.pointer none)) fun v4n1 =>
 ifV v4n1 (
 outK [(Value.int .i64 0)]) (
 optK (nil2 a0) fun v6n2 =>
 optK (evFieldAddr Tryz.prog 89 v6n2 2) fun v7n3 =>
 (inside (evLoad Tryz.prog 3 v7n3)).bind fun v8n4 =>
 outK [v8n4])
theorem sh_bits_Reader_At (lf d : Nat) (a0 : Value) : evCall2 Tryz.prog gt lf (d + 1) 182 #[a0] = inside (b_bits_Reader_At lf d a0) := by kernel_rfl

/- bits_Reader_Seek -/
noncomputable def b_bits_Reader_Seek (lf d : Nat) (a0 : Value) (a1 : Value) : M Value :=
 optK (bin2 Tryz.prog .eql 55 a0 (Value.pointer none)) fun v7n1 =>
 ifV v7n1 (
 outK [(Value.int .i64 7)]) (
 optK (nil2 a0) fun v11n2 =>
 optK (evFieldAddr Tryz.prog 89 v11n2 1) fun v12n3 =>
 (inside (evLoad Tryz.prog 3 v12n3)).bind fun v13n4 =>
 optK (bin2 Tryz.prog .mul 3 (Value.int .i64 8) v13n4) fun v14n5 =>
 optK (bin2 Tryz.prog .lss 3 a1 v14n5) fun v15n6 =>
 ifV v15n6 (
 outK [(Value.int .i64 1)]) (
 (inside (evCall2 Tryz.prog gt lf d 89 #[a0])).bind fun v19n7 =>
 optK (bin2 Tryz.prog .gtr 3 a1 v19n7) fun v20n8 =>
 ifV v20n8 (
 outK [(Value.int .i64 1)]) (
 optK (nil2 a0) fun v24n9 =>
 optK (evFieldAddr Tryz.prog 89 v24n9 2) fun v25n10 =>
 (inside (evStore Tryz.prog 3 v25n10 a1)).bind fun u11 =>
 outK [(Value.int .i64 0)])))
theorem sh_bits_Reader_Seek (lf d : Nat) (a0 : Value) (a1 : Value) : evCall2 Tryz.prog gt lf (d + 1) 184 #[a0, a1] = inside (b_bits_Reader_Seek lf d a0 a1) := by kernel_rfl

end Go.Proofs.YthhhkplbjcknkaaGreat

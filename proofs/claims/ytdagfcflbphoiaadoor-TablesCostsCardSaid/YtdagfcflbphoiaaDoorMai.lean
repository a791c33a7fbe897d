/- Layers 8, 9 and 12: what the second form makes of the functions. -/
import Derived.Test.YtdagfcflbphoiaaDoorRows
import Derived.Test.YtdagfcflbphoiaaDoorMae
import Derived.WideShapes
import Derived.WalkLawsBesides
namespace Go.Proofs.YtdagfcflbphoiaaDoor
set_option linter.unusedVariables false
set_option linter.unusedSimpArgs false
open Go.RowKit Ev
def gtL : List (List Nat) := [[], [], [], [0, 1, 3, 4, 6, 7, 8, 9, 10, 11, 12, 13, 28, 31, 32, 33, 34, 39, 57, 58, 59, 60, 76, 96, 111, 122], [0, 1, 4, 5, 6, 8, 10, 29, 57, 59, 60, 61, 62, 73, 76, 77, 78, 79, 90], [0, 1, 4, 5, 6, 14, 26, 49, 61], [0, 1, 4, 5, 6, 17, 38], [0, 1, 2, 3, 4, 26], [], [0, 1, 3, 4, 5, 6, 7, 8, 9, 11, 12, 19, 21, 22, 23, 24, 36, 54], [0, 2, 3, 4, 5, 6, 7, 8, 9, 10, 27], [0, 1, 4, 6, 7, 8, 9, 10, 19], [0, 2, 4, 5, 6, 7, 8, 16], [0, 1, 4, 5, 6, 7, 8, 9, 10, 11, 17, 18, 19], [0, 2], [0, 1, 4, 5, 6, 7, 8, 9, 10, 11, 18, 27, 40, 41], [0, 2, 4, 6, 8, 10], [0, 2], [0, 1, 4, 5, 7, 24], [0, 2, 3, 5, 6, 7, 8, 12], [0, 1, 2, 6, 8, 9, 10, 11, 12, 22], [0, 2, 3, 5, 6, 7, 8, 9, 13], [0, 1, 4, 5, 10, 12, 13, 14, 25], [0, 1, 4, 5, 6, 7, 8, 9, 11, 14, 15, 16, 18, 19, 20, 21, 27, 36], [0, 1, 2, 3, 4], [0, 1, 2, 3, 4], [0, 1, 2], [0, 1, 4, 5, 6, 7, 9, 10, 11, 12, 13, 14, 24, 25, 26, 27, 28, 29, 42, 43, 44, 46, 47, 48, 49, 58], [0, 1, 4, 5, 10, 12, 13, 14, 24], [0, 2, 4], [0, 1, 4, 5, 14], [0, 1, 4, 5, 6, 8, 11, 12, 13, 14, 15, 25], [0, 1, 4, 5, 7, 8, 9, 10, 11, 16], [0, 2, 4], [0, 1, 4, 5, 6, 8, 14, 17, 18, 19, 20, 29], [0, 2, 3, 4, 5, 9, 10, 11], [0, 1, 4, 5, 6, 7, 8, 9, 10, 11, 12, 18, 19, 20, 29, 30, 31, 32, 42, 43, 44, 48], [0, 1, 2, 6, 7, 8, 9, 10, 12, 13, 14, 16, 18, 20, 21, 27, 28, 29, 37, 38, 39, 40, 70, 71, 72, 73], [0, 2, 3, 5, 6, 7, 8, 9, 10, 14, 15, 16], [0, 2, 3, 4, 5, 6, 7, 20, 24, 25, 26, 27, 41], [0, 2, 3, 5, 6, 7, 8, 9], [0, 1, 4, 5, 10, 12, 13, 14, 24], [0, 1, 2, 6, 7, 8, 9, 14, 15, 16, 17, 18, 30], [0, 1, 4], [0, 1, 4, 5, 6, 7, 8, 9], [0, 1, 4, 5, 6, 7, 8, 9, 10, 11, 24], [0, 2, 3, 5, 6, 7, 8, 9, 10, 14, 20, 21, 25], [0, 1, 2, 6], [0, 2], [0, 1, 4], [0, 1, 4, 5, 6, 7, 8, 9, 11, 12, 13, 14, 26], [0, 1, 4, 5, 6, 7, 22, 27, 28, 29], [0, 1, 2, 4, 5, 6], [0, 2, 3, 4, 5, 6, 11, 12, 13, 32], [0, 2, 3, 5, 6, 7, 8, 9], [0, 2, 4], [0, 2, 3, 4, 5, 9, 10, 11, 12], [0, 2, 3, 4, 5, 6, 7, 8, 9, 10, 11, 12, 13, 15, 18, 19, 20, 21, 39, 66, 67, 68, 69], [0, 2, 3, 5, 6, 7, 8, 9, 13], [0, 1, 4], [0, 2], [0, 2], [0, 1, 2, 4], [0, 1, 2, 3, 4, 12, 13, 14], [0, 2, 3, 46], [0, 1, 2], [0, 2, 3, 4, 5, 6, 7, 8, 9, 18], [0, 1, 4, 5, 6, 7, 8, 9, 10, 11, 17], [0, 1, 4, 5, 7, 8, 9, 16], [0, 1], [0, 1, 2, 5], [0, 1, 4, 5, 6, 11, 12, 13, 16, 19], [0, 1, 2, 3, 4], [0, 1, 2, 6, 7, 8, 9, 13, 30, 35, 54], [0, 2], [0, 1, 2, 3, 8, 9, 14, 34], [0, 1, 2, 3, 4, 10, 11, 12, 13, 14, 15, 16, 17, 18, 19, 20, 21, 22, 23, 24, 28, 33, 50, 58, 80, 85, 103, 110, 140, 151, 171, 185, 199, 213], [0, 1, 2, 3, 4, 10, 11, 20, 23], [0, 1, 2, 3, 10, 13], [], [], [], [], [], [], [], [], [], [], [], [], [], [], [], [], [], [], [], [], []]
def gt (f : Nat) : List Nat := gtL.getD f []
theorem okd : okDsts Tryd.prog = true := by kernel_rfl
theorem sz25 : size? Tryd.prog 25 = some 2 := by kernel_rfl
theorem len22 (a : Option Addr) (n c : Nat) : len2 Tryd.prog #[22] [.slice a n c] = some (.int .i64 n) := len_slice Tryd.underlying22 a n c
theorem nt3 : isNilT Tryd.prog 3 = false := by kernel_rfl
theorem bgtr3 (a b : Int) : bin2 Tryd.prog .gtr 3 (.int .i64 a) (.int .i64 b) = some (.bool (decide (b < a))) := b_gtr nt3 a b
theorem fa25f0 (b off : Nat) : evFieldAddr Tryd.prog 25 (.pointer (some ⟨b, off, none⟩)) 0 = some (.pointer (some ⟨b, off + 0, none⟩)) := by kernel_rfl
theorem ag23 : agg? Tryd.prog 23 = some false := by kernel_rfl
theorem ldr23 {β : Type} {W : Nat → Prop} {n0 : Nat} {h : H} {n : Nat} {Q : β → H → Nat → Prop} (b off : Nat) (k : Value → M β) (hb : b < n) : Run W n0 ((inside (evLoad Tryd.prog 23 (.pointer (some ⟨b, off, none⟩)))).bind k) h n Q ↔ optG (h.get b) fun B => Run W n0 (optK (B.cells[off]?) k) h n Q := ld_iff ag23 b off k hb
theorem len23 (a : Option Addr) (n c : Nat) : len2 Tryd.prog #[23] [.slice a n c] = some (.int .i64 n) := len_slice Tryd.underlying23 a n c
theorem fa25f1 (b off : Nat) : evFieldAddr Tryd.prog 25 (.pointer (some ⟨b, off, none⟩)) 1 = some (.pointer (some ⟨b, off + 1, none⟩)) := by kernel_rfl
theorem ag22 : agg? Tryd.prog 22 = some false := by kernel_rfl
theorem ldr22 {β : Type} {W : Nat → Prop} {n0 : Nat} {h : H} {n : Nat} {Q : β → H → Nat → Prop} (b off : Nat) (k : Value → M β) (hb : b < n) : Run W n0 ((inside (evLoad Tryd.prog 22 (.pointer (some ⟨b, off, none⟩)))).bind k) h n Q ↔ optG (h.get b) fun B => Run W n0 (optK (B.cells[off]?) k) h n Q := ld_iff ag22 b off k hb
theorem blss3 (a b : Int) : bin2 Tryd.prog .lss 3 (.int .i64 a) (.int .i64 b) = some (.bool (decide (a < b))) := b_lss nt3 a b
theorem sz22 : size? Tryd.prog 22 = some 1 := by kernel_rfl
theorem ix23 (b off n c : Nat) (k : IntKind) (i : Int) (h0 : 0 ≤ i) (h1 : i < n) : evIndexAddr Tryd.prog 23 (.slice (some ⟨b, off, none⟩) n c) (.int k i) = some (.pointer (some ⟨b, off + i.toNat, none⟩)) := (ix_slice Tryd.underlying23 sz22 b off n c k i h0 h1).trans (by rw [Nat.mul_one])
theorem badd3 (a b : Int) : bin2 Tryd.prog .add 3 (.int .i64 a) (.int .i64 b) = some (.int .i64 (IntKind.i64.wrap (a + b))) := b_add nt3 a b
theorem aga25 : agg? Tryd.prog 25 = some true := by kernel_rfl
theorem beql3 (a b : Int) : bin2 Tryd.prog .eql 3 (.int .i64 a) (.int .i64 b) = some (.bool (a == b)) := b_eql nt3 a b
theorem sz3 : size? Tryd.prog 3 = some 1 := by kernel_rfl
theorem ix22 (b off n c : Nat) (k : IntKind) (i : Int) (h0 : 0 ≤ i) (h1 : i < n) : evIndexAddr Tryd.prog 22 (.slice (some ⟨b, off, none⟩) n c) (.int k i) = some (.pointer (some ⟨b, off + i.toNat, none⟩)) := (ix_slice Tryd.underlying22 sz3 b off n c k i h0 h1).trans (by rw [Nat.mul_one])
theorem ag3 : agg? Tryd.prog 3 = some false := by kernel_rfl
theorem ldr3 {β : Type} {W : Nat → Prop} {n0 : Nat} {h : H} {n : Nat} {Q : β → H → Nat → Prop} (b off : Nat) (k : Value → M β) (hb : b < n) : Run W n0 ((inside (evLoad Tryd.prog 3 (.pointer (some ⟨b, off, none⟩)))).bind k) h n Q ↔ optG (h.get b) fun B => Run W n0 (optK (B.cells[off]?) k) h n Q := ld_iff ag3 b off k hb
theorem bgeq3 (a b : Int) : bin2 Tryd.prog .geq 3 (.int .i64 a) (.int .i64 b) = some (.bool (decide (b ≤ a))) := b_geq nt3 a b
theorem nt27 : isNilT Tryd.prog 27 = false := by kernel_rfl
theorem beql27 (a b : Int) : bin2 Tryd.prog .eql 27 (.int .i64 a) (.int .i64 b) = some (.bool (a == b)) := b_eql nt27 a b
theorem bneq27 (a b : Int) : bin2 Tryd.prog .neq 27 (.int .i64 a) (.int .i64 b) = some (.bool (a != b)) := b_neq nt27 a b
theorem bneq3 (a b : Int) : bin2 Tryd.prog .neq 3 (.int .i64 a) (.int .i64 b) = some (.bool (a != b)) := b_neq nt3 a b
theorem bquo3 (a b : Int) (h0 : b ≠ 0) : bin2 Tryd.prog .quo 3 (.int .i64 a) (.int .i64 b) = some (.int .i64 (IntKind.i64.wrap (a.tdiv b))) := b_quo nt3 a b h0
theorem bleq3 (a b : Int) : bin2 Tryd.prog .leq 3 (.int .i64 a) (.int .i64 b) = some (.bool (decide (a ≤ b))) := b_leq nt3 a b
theorem bd25x  : evBuild Tryd.prog 25 [] = M.ret (.agg #[(Go.Value.slice none 0 0), (Go.Value.slice none 0 0)]) := by kernel_rfl
theorem c1x22 : Cell1 Tryd.prog 22 3 (Go.Value.int Go.IntKind.i64 0) := ⟨Tryd.underlying22, ⟨Tryd.t3, by kernel_rfl, by kernel_rfl, by decide⟩, by kernel_rfl, by kernel_rfl⟩
theorem c1x23 : Cell1 Tryd.prog 23 22 (Go.Value.slice none 0 0) := ⟨Tryd.underlying23, ⟨Tryd.t22, by kernel_rfl, by kernel_rfl, by decide⟩, by kernel_rfl, by kernel_rfl⟩
theorem bd25x0 (v0a : Option Addr) (v0n v0c : Nat) : evBuild Tryd.prog 25 [(0, (Value.slice v0a v0n v0c))] = M.ret (.agg #[(Value.slice v0a v0n v0c), (Go.Value.slice none 0 0)]) := by kernel_rfl
theorem bd25x0x1 (v0a : Option Addr) (v0n v0c : Nat) (v1a : Option Addr) (v1n v1c : Nat) : evBuild Tryd.prog 25 [(0, (Value.slice v0a v0n v0c)), (1, (Value.slice v1a v1n v1c))] = M.ret (.agg #[(Value.slice v0a v0n v0c), (Value.slice v1a v1n v1c)]) := by kernel_rfl
theorem bsub3 (a b : Int) : bin2 Tryd.prog .sub 3 (.int .i64 a) (.int .i64 b) = some (.int .i64 (IntKind.i64.wrap (a - b))) := b_sub nt3 a b
theorem bmul3 (a b : Int) : bin2 Tryd.prog .mul 3 (.int .i64 a) (.int .i64 b) = some (.int .i64 (IntKind.i64.wrap (a * b))) := b_mul nt3 a b
theorem fa47f1 (b off : Nat) : evFieldAddr Tryd.prog 47 (.pointer (some ⟨b, off, none⟩)) 1 = some (.pointer (some ⟨b, off + 1, none⟩)) := by kernel_rfl
theorem fa47f0 (b off : Nat) : evFieldAddr Tryd.prog 47 (.pointer (some ⟨b, off, none⟩)) 0 = some (.pointer (some ⟨b, off + 0, none⟩)) := by kernel_rfl
theorem bd47x0x1 (v0a : Option Addr) (v0n v0c : Nat) (v1a : Option Addr) (v1n v1c : Nat) : evBuild Tryd.prog 47 [(0, (Value.slice v0a v0n v0c)), (1, (Value.slice v1a v1n v1c))] = M.ret (.agg #[(Value.slice v0a v0n v0c), (Value.slice v1a v1n v1c)]) := by kernel_rfl
theorem bd47x0 (v0a : Option Addr) (v0n v0c : Nat) : evBuild Tryd.prog 47 [(0, (Value.slice v0a v0n v0c))] = M.ret (.agg #[(Value.slice v0a v0n v0c), (Go.Value.slice none 0 0)]) := by kernel_rfl
theorem str3 {β : Type} {W : Nat → Prop} {n0 : Nat} {h : H} {n : Nat} {Q : β → H → Nat → Prop} (b off : Nat) (v : Value) (k : Value → M β) (hb : b < n) (h1 : one v = true) : Run W n0 ((inside (evStore Tryd.prog 3 (.pointer (some ⟨b, off, none⟩)) v)).bind k) h n Q ↔ optG (h.get b) fun B => B.own = true ∧ off < B.cells.length ∧ (n0 ≤ b ∨ W b) ∧ Run W n0 (k undef) (h.set b (some ⟨B.elem, B.own, B.cells.set off v⟩)) n Q := st_iff sz3 b off v k hb h1
theorem str22 {β : Type} {W : Nat → Prop} {n0 : Nat} {h : H} {n : Nat} {Q : β → H → Nat → Prop} (b off : Nat) (v : Value) (k : Value → M β) (hb : b < n) (h1 : one v = true) : Run W n0 ((inside (evStore Tryd.prog 22 (.pointer (some ⟨b, off, none⟩)) v)).bind k) h n Q ↔ optG (h.get b) fun B => B.own = true ∧ off < B.cells.length ∧ (n0 ≤ b ∨ W b) ∧ Run W n0 (k undef) (h.set b (some ⟨B.elem, B.own, B.cells.set off v⟩)) n Q := st_iff sz22 b off v k hb h1
theorem fa72f0 (b off : Nat) : evFieldAddr Tryd.prog 72 (.pointer (some ⟨b, off, none⟩)) 0 = some (.pointer (some ⟨b, off + 0, none⟩)) := by kernel_rfl
theorem fa72f1 (b off : Nat) : evFieldAddr Tryd.prog 72 (.pointer (some ⟨b, off, none⟩)) 1 = some (.pointer (some ⟨b, off + 1, none⟩)) := by kernel_rfl
theorem beql22s (a : Addr) (n c : Nat) : bin2 Tryd.prog .eql 22 (.slice (some a) n c) (.slice none 0 0) = some (.bool false) := by kernel_rfl
theorem beql22n (n c : Nat) : bin2 Tryd.prog .eql 22 (.slice none n c) (.slice none 0 0) = some (.bool true) := by kernel_rfl
theorem bd75x0x1x2 (v0 : Int) (v1 : Int) (v2a : Option Addr) (v2n v2c : Nat) : evBuild Tryd.prog 75 [(0, (Value.int .i64 v0)), (1, (Value.int .i64 v1)), (2, (Value.slice v2a v2n v2c))] = M.ret (.agg #[(Value.int .i64 v0), (Value.int .i64 v1), (Value.slice v2a v2n v2c)]) := by kernel_rfl
theorem len73 (a : Option Addr) (n c : Nat) : len2 Tryd.prog #[73] [.slice a n c] = some (.int .i64 n) := len_slice Tryd.underlying73 a n c
theorem sz75 : size? Tryd.prog 75 = some 3 := by kernel_rfl
theorem ix73 (b off n c : Nat) (k : IntKind) (i : Int) (h0 : 0 ≤ i) (h1 : i < n) : evIndexAddr Tryd.prog 73 (.slice (some ⟨b, off, none⟩) n c) (.int k i) = some (.pointer (some ⟨b, off + i.toNat * 3, none⟩)) := ix_slice Tryd.underlying73 sz75 b off n c k i h0 h1
theorem fa75f2 (b off : Nat) : evFieldAddr Tryd.prog 75 (.pointer (some ⟨b, off, none⟩)) 2 = some (.pointer (some ⟨b, off + 2, none⟩)) := by kernel_rfl
theorem fa75f0 (b off : Nat) : evFieldAddr Tryd.prog 75 (.pointer (some ⟨b, off, none⟩)) 0 = some (.pointer (some ⟨b, off + 0, none⟩)) := by kernel_rfl
theorem bd72x0x3 (v0a : Option Addr) (v0n v0c : Nat) (v3 : Int) : evBuild Tryd.prog 72 [(0, (Value.slice v0a v0n v0c)), (3, (Value.int .i64 v3))] = M.ret (.agg #[(Value.slice v0a v0n v0c), (Go.Value.slice none 0 0), (Go.Value.slice none 0 0), (Value.int .i64 v3)]) := by kernel_rfl
theorem fa72f2 (b off : Nat) : evFieldAddr Tryd.prog 72 (.pointer (some ⟨b, off, none⟩)) 2 = some (.pointer (some ⟨b, off + 2, none⟩)) := by kernel_rfl
theorem fa72f3 (b off : Nat) : evFieldAddr Tryd.prog 72 (.pointer (some ⟨b, off, none⟩)) 3 = some (.pointer (some ⟨b, off + 3, none⟩)) := by kernel_rfl
theorem fa75f1 (b off : Nat) : evFieldAddr Tryd.prog 75 (.pointer (some ⟨b, off, none⟩)) 1 = some (.pointer (some ⟨b, off + 1, none⟩)) := by kernel_rfl
theorem cv3x84 {β : Type} (x : Int) (k : Value → M β) : conv2 Tryd.prog 3 84 (.int .i64 x) k = k (.int .u64 (IntKind.u64.wrap x)) := by kernel_rfl
theorem nt84 : isNilT Tryd.prog 84 = false := by kernel_rfl
theorem bshr84 {k' : IntKind} (a b : Int) (h0 : 0 ≤ b) : bin2 Tryd.prog .shr 84 (.int .u64 a) (.int k' b) = some (.int .u64 (a.fdiv (2 ^ (min b.toNat (IntKind.u64).bits)))) := b_shr nt84 a b h0
theorem cv84x3 {β : Type} (x : Int) (k : Value → M β) : conv2 Tryd.prog 84 3 (.int .u64 x) k = k (.int .i64 (IntKind.i64.wrap x)) := by kernel_rfl
theorem FX1 : (∀ (a : Option Addr) (n c : Nat), len2 Tryd.prog #[22] [.slice a n c] = some (.int .i64 n)) ∧ (∀ (a b : Int), bin2 Tryd.prog .gtr 3 (.int .i64 a) (.int .i64 b) = some (.bool (decide (b < a)))) ∧ (∀ (b off : Nat), evFieldAddr Tryd.prog 25 (.pointer (some ⟨b, off, none⟩)) 0 = some (.pointer (some ⟨b, off + 0, none⟩))) ∧ (∀ {β : Type} {W : Nat → Prop} {n0 : Nat} {h : H} {n : Nat} {Q : β → H → Nat → Prop} (b off : Nat) (k : Value → M β) (hb : b < n), Run W n0 ((inside (evLoad Tryd.prog 23 (.pointer (some ⟨b, off, none⟩)))).bind k) h n Q ↔ optG (h.get b) fun B => Run W n0 (optK (B.cells[off]?) k) h n Q) ∧ (∀ (a : Option Addr) (n c : Nat), len2 Tryd.prog #[23] [.slice a n c] = some (.int .i64 n)) ∧ (∀ (b off : Nat), evFieldAddr Tryd.prog 25 (.pointer (some ⟨b, off, none⟩)) 1 = some (.pointer (some ⟨b, off + 1, none⟩))) ∧ (∀ {β : Type} {W : Nat → Prop} {n0 : Nat} {h : H} {n : Nat} {Q : β → H → Nat → Prop} (b off : Nat) (k : Value → M β) (hb : b < n), Run W n0 ((inside (evLoad Tryd.prog 22 (.pointer (some ⟨b, off, none⟩)))).bind k) h n Q ↔ optG (h.get b) fun B => Run W n0 (optK (B.cells[off]?) k) h n Q) ∧ (∀ (a b : Int), bin2 Tryd.prog .lss 3 (.int .i64 a) (.int .i64 b) = some (.bool (decide (a < b)))) ∧ (∀ (b off n c : Nat) (k : IntKind) (i : Int) (h0 : 0 ≤ i) (h1 : i < n), evIndexAddr Tryd.prog 23 (.slice (some ⟨b, off, none⟩) n c) (.int k i) = some (.pointer (some ⟨b, off + i.toNat, none⟩))) ∧ (∀ (a b : Int), bin2 Tryd.prog .add 3 (.int .i64 a) (.int .i64 b) = some (.int .i64 (IntKind.i64.wrap (a + b)))) ∧ (∀ (a b : Int), bin2 Tryd.prog .eql 3 (.int .i64 a) (.int .i64 b) = some (.bool (a == b))) ∧ (∀ (b off n c : Nat) (k : IntKind) (i : Int) (h0 : 0 ≤ i) (h1 : i < n), evIndexAddr Tryd.prog 22 (.slice (some ⟨b, off, none⟩) n c) (.int k i) = some (.pointer (some ⟨b, off + i.toNat, none⟩))) ∧ (∀ {β : Type} {W : Nat → Prop} {n0 : Nat} {h : H} {n : Nat} {Q : β → H → Nat → Prop} (b off : Nat) (k : Value → M β) (hb : b < n), Run W n0 ((inside (evLoad Tryd.prog 3 (.pointer (some ⟨b, off, none⟩)))).bind k) h n Q ↔ optG (h.get b) fun B => Run W n0 (optK (B.cells[off]?) k) h n Q) ∧ (∀ (a b : Int), bin2 Tryd.prog .geq 3 (.int .i64 a) (.int .i64 b) = some (.bool (decide (b ≤ a)))) ∧ (∀ (a b : Int), bin2 Tryd.prog .eql 27 (.int .i64 a) (.int .i64 b) = some (.bool (a == b))) ∧ (∀ (a b : Int), bin2 Tryd.prog .neq 27 (.int .i64 a) (.int .i64 b) = some (.bool (a != b))) ∧ (∀ (a b : Int), bin2 Tryd.prog .neq 3 (.int .i64 a) (.int .i64 b) = some (.bool (a != b))) ∧ (∀ (a b : Int) (h0 : b ≠ 0), bin2 Tryd.prog .quo 3 (.int .i64 a) (.int .i64 b) = some (.int .i64 (IntKind.i64.wrap (a.tdiv b)))) ∧ (∀ (a b : Int), bin2 Tryd.prog .leq 3 (.int .i64 a) (.int .i64 b) = some (.bool (decide (a ≤ b)))) ∧ (evBuild Tryd.prog 25 [] = M.ret (.agg #[(Go.Value.slice none 0 0), (Go.Value.slice none 0 0)])) ∧ (∀ (v0a : Option Addr) (v0n v0c : Nat), evBuild Tryd.prog 25 [(0, (Value.slice v0a v0n v0c))] = M.ret (.agg #[(Value.slice v0a v0n v0c), (Go.Value.slice none 0 0)])) ∧ (∀ (v0a : Option Addr) (v0n v0c : Nat) (v1a : Option Addr) (v1n v1c : Nat), evBuild Tryd.prog 25 [(0, (Value.slice v0a v0n v0c)), (1, (Value.slice v1a v1n v1c))] = M.ret (.agg #[(Value.slice v0a v0n v0c), (Value.slice v1a v1n v1c)])) ∧ (∀ (a b : Int), bin2 Tryd.prog .sub 3 (.int .i64 a) (.int .i64 b) = some (.int .i64 (IntKind.i64.wrap (a - b)))) ∧ (∀ (a b : Int), bin2 Tryd.prog .mul 3 (.int .i64 a) (.int .i64 b) = some (.int .i64 (IntKind.i64.wrap (a * b)))) ∧ (∀ (b off : Nat), evFieldAddr Tryd.prog 47 (.pointer (some ⟨b, off, none⟩)) 1 = some (.pointer (some ⟨b, off + 1, none⟩))) ∧ (∀ (b off : Nat), evFieldAddr Tryd.prog 47 (.pointer (some ⟨b, off, none⟩)) 0 = some (.pointer (some ⟨b, off + 0, none⟩))) ∧ (∀ (v0a : Option Addr) (v0n v0c : Nat) (v1a : Option Addr) (v1n v1c : Nat), evBuild Tryd.prog 47 [(0, (Value.slice v0a v0n v0c)), (1, (Value.slice v1a v1n v1c))] = M.ret (.agg #[(Value.slice v0a v0n v0c), (Value.slice v1a v1n v1c)])) ∧ (∀ (v0a : Option Addr) (v0n v0c : Nat), evBuild Tryd.prog 47 [(0, (Value.slice v0a v0n v0c))] = M.ret (.agg #[(Value.slice v0a v0n v0c), (Go.Value.slice none 0 0)])) ∧ (∀ {β : Type} {W : Nat → Prop} {n0 : Nat} {h : H} {n : Nat} {Q : β → H → Nat → Prop} (b off : Nat) (v : Value) (k : Value → M β) (hb : b < n) (h1 : one v = true), Run W n0 ((inside (evStore Tryd.prog 3 (.pointer (some ⟨b, off, none⟩)) v)).bind k) h n Q ↔ optG (h.get b) fun B => B.own = true ∧ off < B.cells.length ∧ (n0 ≤ b ∨ W b) ∧ Run W n0 (k undef) (h.set b (some ⟨B.elem, B.own, B.cells.set off v⟩)) n Q) ∧ (∀ {β : Type} {W : Nat → Prop} {n0 : Nat} {h : H} {n : Nat} {Q : β → H → Nat → Prop} (b off : Nat) (v : Value) (k : Value → M β) (hb : b < n) (h1 : one v = true), Run W n0 ((inside (evStore Tryd.prog 22 (.pointer (some ⟨b, off, none⟩)) v)).bind k) h n Q ↔ optG (h.get b) fun B => B.own = true ∧ off < B.cells.length ∧ (n0 ≤ b ∨ W b) ∧ Run W n0 (k undef) (h.set b (some ⟨B.elem, B.own, B.cells.set off v⟩)) n Q) ∧ (∀ (b off : Nat), evFieldAddr Tryd.prog 72 (.pointer (some ⟨b, off, none⟩)) 0 = some (.pointer (some ⟨b, off + 0, none⟩))) ∧ (∀ (b off : Nat), evFieldAddr Tryd.prog 72 (.pointer (some ⟨b, off, none⟩)) 1 = some (.pointer (some ⟨b, off + 1, none⟩))) ∧ (∀ (a : Addr) (n c : Nat), bin2 Tryd.prog .eql 22 (.slice (some a) n c) (.slice none 0 0) = some (.bool false)) ∧ (∀ (n c : Nat), bin2 Tryd.prog .eql 22 (.slice none n c) (.slice none 0 0) = some (.bool true)) ∧ (∀ (v0 : Int) (v1 : Int) (v2a : Option Addr) (v2n v2c : Nat), evBuild Tryd.prog 75 [(0, (Value.int .i64 v0)), (1, (Value.int .i64 v1)), (2, (Value.slice v2a v2n v2c))] = M.ret (.agg #[(Value.int .i64 v0), (Value.int .i64 v1), (Value.slice v2a v2n v2c)])) ∧ (∀ (a : Option Addr) (n c : Nat), len2 Tryd.prog #[73] [.slice a n c] = some (.int .i64 n)) ∧ (∀ (b off n c : Nat) (k : IntKind) (i : Int) (h0 : 0 ≤ i) (h1 : i < n), evIndexAddr Tryd.prog 73 (.slice (some ⟨b, off, none⟩) n c) (.int k i) = some (.pointer (some ⟨b, off + i.toNat * 3, none⟩))) ∧ (∀ (b off : Nat), evFieldAddr Tryd.prog 75 (.pointer (some ⟨b, off, none⟩)) 2 = some (.pointer (some ⟨b, off + 2, none⟩))) ∧ (∀ (b off : Nat), evFieldAddr Tryd.prog 75 (.pointer (some ⟨b, off, none⟩)) 0 = some (.pointer (some ⟨b, off + 0, none⟩))) ∧ (∀ (v0a : Option Addr) (v0n v0c : Nat) (v3 : Int), evBuild Tryd.prog 72 [(0, (Value.slice v0a v0n v0c)), (3, (Value.int .i64 v3))] = M.ret (.agg #[(Value.slice v0a v0n v0c), (Go.Value.slice none 0 0), (Go.Value.slice none 0 0), (Value.int .i64 v3)])) ∧ (∀ (b off : Nat), evFieldAddr Tryd.prog 72 (.pointer (some ⟨b, off, none⟩)) 2 = some (.pointer (some ⟨b, off + 2, none⟩))) ∧ (∀ (b off : Nat), evFieldAddr Tryd.prog 72 (.pointer (some ⟨b, off, none⟩)) 3 = some (.pointer (some ⟨b, off + 3, none⟩))) ∧ (∀ (b off : Nat), evFieldAddr Tryd.prog 75 (.pointer (some ⟨b, off, none⟩)) 1 = some (.pointer (some ⟨b, off + 1, none⟩))) ∧ (∀ {β : Type} (x : Int) (k : Value → M β), conv2 Tryd.prog 3 84 (.int .i64 x) k = k (.int .u64 (IntKind.u64.wrap x))) ∧ (∀ {k' : IntKind} (a b : Int) (h0 : 0 ≤ b), bin2 Tryd.prog .shr 84 (.int .u64 a) (.int k' b) = some (.int .u64 (a.fdiv (2 ^ (min b.toNat (IntKind.u64).bits))))) ∧ (∀ {β : Type} (x : Int) (k : Value → M β), conv2 Tryd.prog 84 3 (.int .u64 x) k = k (.int .i64 (IntKind.i64.wrap x))) := ⟨@len22, @bgtr3, @fa25f0, @ldr23, @len23, @fa25f1, @ldr22, @blss3, @ix23, @badd3, @beql3, @ix22, @ldr3, @bgeq3, @beql27, @bneq27, @bneq3, @bquo3, @bleq3, @bd25x, @bd25x0, @bd25x0x1, @bsub3, @bmul3, @fa47f1, @fa47f0, @bd47x0x1, @bd47x0, @str3, @str22, @fa72f0, @fa72f1, @beql22s, @beql22n, @bd75x0x1x2, @len73, @ix73, @fa75f2, @fa75f0, @bd72x0x3, @fa72f2, @fa72f3, @fa75f1, @cv3x84, @bshr84, @cv84x3⟩

noncomputable def lpA_balerlaw12_TablesCosts (lf d fu : Nat) (k : Ex → Fr → M Value) (x0 x1 x3 x4 x28 x31 x32 x33 : Value) : M Value := loopK (fun s1 k1 => codeK Tryd.prog (evCall2 Tryd.prog gt lf d) (gt 3) lf (codeAt (bodyOf Tryd.prog 3) [true, true, false, true, false, false]) s1 k1) [0, 1, 3, 4, 28, 31, 32, 33] fu [(0, x0), (1, x1), (3, x3), (4, x4), (28, x28), (31, x31), (32, x32), (33, x33)] k
noncomputable def kcA_balerlaw12_TablesCosts (lf d : Nat) : Ex → Fr → M Value := contAt Tryd.prog (evCall2 Tryd.prog gt lf d) (gt 3) lf (bodyOf Tryd.prog 3) [true, true, false, true, false] (endK Tryd.prog (resOf Tryd.prog 3))
noncomputable def lpB_balerlaw12_TablesCosts (lf d fu : Nat) (k : Ex → Fr → M Value) (x0 x1 x3 x4 x7 x8 x9 x10 x11 x28 x31 x32 x33 x34 x57 x58 x59 : Value) : M Value := loopK (fun s1 k1 => codeK Tryd.prog (evCall2 Tryd.prog gt lf d) (gt 3) lf (codeAt (bodyOf Tryd.prog 3) [true, true, true, true, true, true, true, false, true, false, false]) s1 k1) [0, 1, 3, 4, 7, 8, 9, 10, 11, 28, 31, 32, 33, 34, 57, 58, 59] fu [(0, x0), (1, x1), (3, x3), (4, x4), (7, x7), (8, x8), (9, x9), (10, x10), (11, x11), (28, x28), (31, x31), (32, x32), (33, x33), (34, x34), (57, x57), (58, x58), (59, x59)] k
noncomputable def kcB_balerlaw12_TablesCosts (lf d : Nat) : Ex → Fr → M Value := contAt Tryd.prog (evCall2 Tryd.prog gt lf d) (gt 3) lf (bodyOf Tryd.prog 3) [true, true, true, true, true, true, true, false, true, false] (endK Tryd.prog (resOf Tryd.prog 3))
noncomputable def b_balerlaw12_TablesCosts (lf d : Nat) (a0 a1 : Value) : M Value :=
 (inside (evBox Tryd.prog 25 a1)).bind fun v3n1 =>
 optK (len2 Tryd.prog #[22] [a0]) fun v15n2 =>
 optK (bin2 Tryd.prog .gtr 3 v15n2 (Value.int .i64 160)) fun v16n3 =>
 ifV v16n3 (
  (inside (evCall2 Tryd.prog gt lf d 8 #[])).bind fun v29n4 =>
  outK [v29n4]) (
  optK (evFieldAddr Tryd.prog 25 v3n1 0) fun v18n5 =>
  (inside (evLoad Tryd.prog 23 v18n5)).bind fun v19n6 =>
  optK (len2 Tryd.prog #[23] [v19n6]) fun v20n7 =>
  optK (bin2 Tryd.prog .gtr 3 v20n7 (Value.int .i64 8)) fun v21n8 =>
  ifV v21n8 (
   (inside (evCall2 Tryd.prog gt lf d 8 #[])).bind fun v29n9 =>
   outK [v29n9]) (
   optK (evFieldAddr Tryd.prog 25 v3n1 1) fun v24n10 =>
   (inside (evLoad Tryd.prog 22 v24n10)).bind fun v25n11 =>
   optK (len2 Tryd.prog #[22] [v25n11]) fun v26n12 =>
   optK (bin2 Tryd.prog .gtr 3 v26n12 (Value.int .i64 20)) fun v27n13 =>
   ifV v27n13 (
    (inside (evCall2 Tryd.prog gt lf d 8 #[])).bind fun v29n14 =>
    outK [v29n14]) (
    optK (evFieldAddr Tryd.prog 25 v3n1 0) fun v30n15 =>
    (inside (evLoad Tryd.prog 23 v30n15)).bind fun v31n16 =>
    optK (len2 Tryd.prog #[23] [v31n16]) fun v32n17 =>
    lpA_balerlaw12_TablesCosts lf d lf (kcA_balerlaw12_TablesCosts lf d) a0 a1 v3n1 (Value.bool false) v27n13 v31n16 v32n17 (Value.int .i64 0))))
theorem sh_balerlaw12_TablesCosts (lf d : Nat) (a0 a1 : Value) : evCall2 Tryd.prog gt lf (d + 1) 3 #[a0, a1] = inside (b_balerlaw12_TablesCosts lf d a0 a1) := by kernel_rfl
theorem succA_balerlaw12_TablesCosts (lf d fu : Nat) (k : Ex → Fr → M Value) (x0 x1 x3 x4 x28 x31 x32 x33 : Value) : lpA_balerlaw12_TablesCosts lf d (fu + 1) k x0 x1 x3 x4 x28 x31 x32 x33 =
 optK (bin2 Tryd.prog .lss 3 x33 x32) fun v34n18 =>
 ifV v34n18 (
  optK (evIndexAddr Tryd.prog 23 x31 x33) fun v35n19 =>
  (inside (evLoad Tryd.prog 22 v35n19)).bind fun v36n20 =>
  optK (len2 Tryd.prog #[22] [v36n20]) fun v38n21 =>
  optK (bin2 Tryd.prog .gtr 3 v38n21 (Value.int .i64 40)) fun v39n22 =>
  ifV v39n22 (
   (inside (evCall2 Tryd.prog gt lf d 8 #[])).bind fun v40n23 =>
   k Ex.ret [(0, x0), (1, x1), (3, x3), (4, v40n23), (6, v36n20), (28, x28), (31, x31), (32, x32), (33, x33), (34, v34n18), (39, v39n22)]) (
   optK (bin2 Tryd.prog .add 3 x33 (Value.int .i64 1)) fun v41n24 =>
   lpA_balerlaw12_TablesCosts lf d fu k x0 x1 x3 x4 x28 x31 x32 v41n24)) (
  k (Ex.exit 0) [(0, x0), (1, x1), (3, x3), (4, x4), (28, x28), (31, x31), (32, x32), (33, x33), (34, v34n18)]) := by kernel_rfl
theorem kcAa_balerlaw12_TablesCosts (lf d : Nat) (y0 y1 y3 y4 y6 y28 y31 y32 y33 y34 y39 : Value) : kcA_balerlaw12_TablesCosts lf d Ex.ret [(0, y0), (1, y1), (3, y3), (4, y4), (6, y6), (28, y28), (31, y31), (32, y32), (33, y33), (34, y34), (39, y39)] =
 outK [y4] := by kernel_rfl
theorem kcAb_balerlaw12_TablesCosts (lf d : Nat) (y0 y1 y3 y4 y28 y31 y32 y33 y34 : Value) : kcA_balerlaw12_TablesCosts lf d (Ex.exit 0) [(0, y0), (1, y1), (3, y3), (4, y4), (28, y28), (31, y31), (32, y32), (33, y33), (34, y34)] =
 (inside (evLoad Tryd.prog 25 y3)).bind fun v44n25 =>
 (inside (evCall2 Tryd.prog gt lf d 9 #[y0, v44n25])).bind fun v45n26 =>
 optK (evExtract v45n26 0) fun v46n27 =>
 optK (evExtract v45n26 1) fun v47n28 =>
 (inside (evCall2 Tryd.prog gt lf d 10 #[y0])).bind fun v49n29 =>
 optK (len2 Tryd.prog #[23] [v49n29]) fun v51n30 =>
 optK (evFieldAddr Tryd.prog 25 y3 1) fun v52n31 =>
 (inside (evLoad Tryd.prog 22 v52n31)).bind fun v53n32 =>
 optK (len2 Tryd.prog #[22] [v53n32]) fun v54n33 =>
 optK (bin2 Tryd.prog .eql 3 v51n30 v54n33) fun v55n34 =>
 optK (evFieldAddr Tryd.prog 25 y3 1) fun v56n35 =>
 (inside (evLoad Tryd.prog 22 v56n35)).bind fun v57n36 =>
 optK (len2 Tryd.prog #[22] [v57n36]) fun v58n37 =>
 lpB_balerlaw12_TablesCosts lf d lf (kcB_balerlaw12_TablesCosts lf d) y0 y1 y3 y4 v46n27 v47n28 v49n29 v55n34 (Value.int .i64 0) y28 y31 y32 y33 y34 v57n36 v58n37 (Value.int .i64 0) := by kernel_rfl
theorem succB_balerlaw12_TablesCosts (lf d fu : Nat) (k : Ex → Fr → M Value) (x0 x1 x3 x4 x7 x8 x9 x10 x11 x28 x31 x32 x33 x34 x57 x58 x59 : Value) : lpB_balerlaw12_TablesCosts lf d (fu + 1) k x0 x1 x3 x4 x7 x8 x9 x10 x11 x28 x31 x32 x33 x34 x57 x58 x59 =
 optK (bin2 Tryd.prog .lss 3 x59 x58) fun v60n38 =>
 ifV v60n38 (
  optK (evIndexAddr Tryd.prog 22 x57 x59) fun v62n39 =>
  (inside (evLoad Tryd.prog 3 v62n39)).bind fun v63n40 =>
  ifV x10 (
   optK (bin2 Tryd.prog .geq 3 v63n40 (Value.int .i64 0)) fun v67n41 =>
   ifV v67n41 (
    optK (evFieldAddr Tryd.prog 25 x3 0) fun v71n42 =>
    (inside (evLoad Tryd.prog 23 v71n42)).bind fun v72n43 =>
    optK (len2 Tryd.prog #[23] [v72n43]) fun v73n44 =>
    optK (bin2 Tryd.prog .lss 3 v63n40 v73n44) fun v74n45 =>
    ifV v74n45 (
     optK (evIndexAddr Tryd.prog 23 x9 x59) fun v79n46 =>
     (inside (evLoad Tryd.prog 22 v79n46)).bind fun v80n47 =>
     optK (evFieldAddr Tryd.prog 25 x3 0) fun v81n48 =>
     (inside (evLoad Tryd.prog 23 v81n48)).bind fun v82n49 =>
     optK (evIndexAddr Tryd.prog 23 v82n49 v63n40) fun v84n50 =>
     (inside (evLoad Tryd.prog 22 v84n50)).bind fun v85n51 =>
     optK (len2 Tryd.prog #[22] [v85n51]) fun v86n52 =>
     (inside (evCall2 Tryd.prog gt lf d 11 #[v80n47, v86n52])).bind fun v87n53 =>
     ifV v87n53 (
      optK (evFieldAddr Tryd.prog 25 x3 0) fun v89n54 =>
      (inside (evLoad Tryd.prog 23 v89n54)).bind fun v90n55 =>
      optK (evIndexAddr Tryd.prog 23 v90n55 v63n40) fun v92n56 =>
      (inside (evLoad Tryd.prog 22 v92n56)).bind fun v93n57 =>
      (inside (evCall2 Tryd.prog gt lf d 12 #[v93n57])).bind fun v94n58 =>
      ifV v94n58 (
       optK (evIndexAddr Tryd.prog 23 x9 x59) fun v100n59 =>
       (inside (evLoad Tryd.prog 22 v100n59)).bind fun v101n60 =>
       optK (evFieldAddr Tryd.prog 25 x3 0) fun v102n61 =>
       (inside (evLoad Tryd.prog 23 v102n61)).bind fun v103n62 =>
       optK (evIndexAddr Tryd.prog 23 v103n62 v63n40) fun v105n63 =>
       (inside (evLoad Tryd.prog 22 v105n63)).bind fun v106n64 =>
       (inside (evCall2 Tryd.prog gt lf d 13 #[v101n60, v106n64])).bind fun v107n65 =>
       optK (bin2 Tryd.prog .add 3 x11 v107n65) fun v108n66 =>
       optK (bin2 Tryd.prog .add 3 x59 (Value.int .i64 1)) fun v109n67 =>
       lpB_balerlaw12_TablesCosts lf d fu k x0 x1 x3 x4 x7 x8 x9 v94n58 v108n66 x28 x31 x32 x33 x34 x57 x58 v109n67) (
       optK (bin2 Tryd.prog .add 3 x59 (Value.int .i64 1)) fun v109n68 =>
       lpB_balerlaw12_TablesCosts lf d fu k x0 x1 x3 x4 x7 x8 x9 v94n58 x11 x28 x31 x32 x33 x34 x57 x58 v109n68)) (
      optK (bin2 Tryd.prog .add 3 x59 (Value.int .i64 1)) fun v109n69 =>
      lpB_balerlaw12_TablesCosts lf d fu k x0 x1 x3 x4 x7 x8 x9 (Value.bool false) x11 x28 x31 x32 x33 x34 x57 x58 v109n69)) (
     ifV v74n45 (
      optK (evIndexAddr Tryd.prog 23 x9 x59) fun v100n70 =>
      (inside (evLoad Tryd.prog 22 v100n70)).bind fun v101n71 =>
      optK (evFieldAddr Tryd.prog 25 x3 0) fun v102n72 =>
      (inside (evLoad Tryd.prog 23 v102n72)).bind fun v103n73 =>
      optK (evIndexAddr Tryd.prog 23 v103n73 v63n40) fun v105n74 =>
      (inside (evLoad Tryd.prog 22 v105n74)).bind fun v106n75 =>
      (inside (evCall2 Tryd.prog gt lf d 13 #[v101n71, v106n75])).bind fun v107n76 =>
      optK (bin2 Tryd.prog .add 3 x11 v107n76) fun v108n77 =>
      optK (bin2 Tryd.prog .add 3 x59 (Value.int .i64 1)) fun v109n78 =>
      lpB_balerlaw12_TablesCosts lf d fu k x0 x1 x3 x4 x7 x8 x9 v74n45 v108n77 x28 x31 x32 x33 x34 x57 x58 v109n78) (
      optK (bin2 Tryd.prog .add 3 x59 (Value.int .i64 1)) fun v109n79 =>
      lpB_balerlaw12_TablesCosts lf d fu k x0 x1 x3 x4 x7 x8 x9 v74n45 x11 x28 x31 x32 x33 x34 x57 x58 v109n79))) (
    optK (bin2 Tryd.prog .add 3 x59 (Value.int .i64 1)) fun v109n80 =>
    lpB_balerlaw12_TablesCosts lf d fu k x0 x1 x3 x4 x7 x8 x9 (Value.bool false) x11 x28 x31 x32 x33 x34 x57 x58 v109n80)) (
   optK (bin2 Tryd.prog .add 3 x59 (Value.int .i64 1)) fun v109n81 =>
   lpB_balerlaw12_TablesCosts lf d fu k x0 x1 x3 x4 x7 x8 x9 (Value.bool false) x11 x28 x31 x32 x33 x34 x57 x58 v109n81)) (
  k (Ex.exit 2) [(0, x0), (1, x1), (3, x3), (4, x4), (7, x7), (8, x8), (9, x9), (10, x10), (11, x11), (28, x28), (31, x31), (32, x32), (33, x33), (34, x34), (57, x57), (58, x58), (59, x59), (60, v60n38)]) := by kernel_rfl
theorem kcBa_balerlaw12_TablesCosts (lf d : Nat) (y0 y1 y3 y4 y7 y8 y9 y10 y11 y28 y31 y32 y33 y34 y57 y58 y59 y60 : Value) : kcB_balerlaw12_TablesCosts lf d (Ex.exit 2) [(0, y0), (1, y1), (3, y3), (4, y4), (7, y7), (8, y8), (9, y9), (10, y10), (11, y11), (28, y28), (31, y31), (32, y32), (33, y33), (34, y34), (57, y57), (58, y58), (59, y59), (60, y60)] =
 optK (un2 Tryd.prog .not y10) fun v111n82 =>
 ifV v111n82 (
  optK (bin2 Tryd.prog .eql 27 y8 (Value.int .i64 1)) fun v113n83 =>
  ifV v113n83 (
   optK (bin2 Tryd.prog .eql 3 y7 (Value.int .i64 0)) fun v116n84 =>
   ifV v116n84 (
    (inside (evCall2 Tryd.prog gt lf d 8 #[])).bind fun v119n85 =>
    outK [v119n85]) (
    outK [(Value.bool false)])) (
   outK [(Value.bool false)])) (
  optK (bin2 Tryd.prog .gtr 3 y11 (Value.int .i64 1099511627776)) fun v122n86 =>
  ifV v122n86 (
   optK (bin2 Tryd.prog .eql 27 y8 (Value.int .i64 0)) fun v124n87 =>
   ifV v124n87 (
    optK (bin2 Tryd.prog .eql 3 y7 (Value.int .i64 1099511627776)) fun v128n88 =>
    ifV v128n88 (
     (inside (evCall2 Tryd.prog gt lf d 8 #[])).bind fun v131n89 =>
     outK [v131n89]) (
     outK [(Value.bool false)])) (
    outK [(Value.bool false)])) (
   optK (bin2 Tryd.prog .eql 27 y8 (Value.int .i64 0)) fun v124n90 =>
   ifV v124n90 (
    optK (bin2 Tryd.prog .eql 3 y7 y11) fun v128n91 =>
    ifV v128n91 (
     (inside (evCall2 Tryd.prog gt lf d 8 #[])).bind fun v131n92 =>
     outK [v131n92]) (
     outK [(Value.bool false)])) (
    outK [(Value.bool false)]))) := by kernel_rfl

noncomputable def lpA_tables_Cost (lf d fu : Nat) (k : Ex → Fr → M Value) (x0 x1 x3 x4 x5 x6 x19 x21 x22 x23 : Value) : M Value := loopK (fun s1 k1 => codeK Tryd.prog (evCall2 Tryd.prog gt lf d) (gt 9) lf (codeAt (bodyOf Tryd.prog 9) [true, true, true, false, true, false, false]) s1 k1) [0, 1, 3, 4, 5, 6, 19, 21, 22, 23] fu [(0, x0), (1, x1), (3, x3), (4, x4), (5, x5), (6, x6), (19, x19), (21, x21), (22, x22), (23, x23)] k
noncomputable def kcA_tables_Cost (lf d : Nat) : Ex → Fr → M Value := contAt Tryd.prog (evCall2 Tryd.prog gt lf d) (gt 9) lf (bodyOf Tryd.prog 9) [true, true, true, false, true, false] (endK Tryd.prog (resOf Tryd.prog 9))
noncomputable def b_tables_Cost (lf d : Nat) (a0 a1 : Value) : M Value :=
 (inside (evBox Tryd.prog 25 a1)).bind fun v3n1 =>
 optK (evFieldAddr Tryd.prog 25 v3n1 1) fun v13n2 =>
 (timed (
  (inside (evLoad Tryd.prog 22 v13n2)).bind fun v14n4 => M.ret v14n4)).bind fun vtn3 =>
 optK (len2 Tryd.prog #[22] [vtn3.1]) fun v15n5 =>
 optK (len2 Tryd.prog #[22] [a0]) fun v17n6 =>
 (timed (
  (inside (evCall2 Tryd.prog gt lf d 29 #[v17n6])).bind fun v18n8 => M.ret v18n8)).bind fun vtn7 =>
 optK (bin2 Tryd.prog .neq 3 v15n5 vtn7.1) fun v19n9 =>
 chkT ((!(Tk.clash vtn3.2 vtn7.2) && true) && true) (
  ifV v19n9 (
   outK [(Value.int .i64 0), (Value.int .i64 1)]) (
   optK (evFieldAddr Tryd.prog 25 v3n1 1) fun v20n10 =>
   (inside (evLoad Tryd.prog 22 v20n10)).bind fun v21n11 =>
   optK (len2 Tryd.prog #[22] [v21n11]) fun v22n12 =>
   lpA_tables_Cost lf d lf (kcA_tables_Cost lf d) a0 a1 v3n1 (Value.int .i64 0) (Value.int .i64 0) (Value.int .i64 0) v19n9 v21n11 v22n12 (Value.int .i64 0)))
theorem sh_tables_Cost (lf d : Nat) (a0 a1 : Value) : evCall2 Tryd.prog gt lf (d + 1) 9 #[a0, a1] = inside (b_tables_Cost lf d a0 a1) := by kernel_rfl
theorem succA_tables_Cost (lf d fu : Nat) (k : Ex → Fr → M Value) (x0 x1 x3 x4 x5 x6 x19 x21 x22 x23 : Value) : lpA_tables_Cost lf d (fu + 1) k x0 x1 x3 x4 x5 x6 x19 x21 x22 x23 =
 optK (bin2 Tryd.prog .lss 3 x23 x22) fun v24n13 =>
 ifV v24n13 (
  optK (evIndexAddr Tryd.prog 22 x21 x23) fun v26n14 =>
  (inside (evLoad Tryd.prog 3 v26n14)).bind fun v27n15 =>
  optK (bin2 Tryd.prog .lss 3 v27n15 (Value.int .i64 0)) fun v29n16 =>
  ifV v29n16 (
   k Ex.ret [(0, x0), (1, x1), (3, x3), (4, (Value.int .i64 0)), (5, (Value.int .i64 1)), (6, x6), (7, x23), (8, v27n15), (19, x19), (21, x21), (22, x22), (23, x23), (24, v24n13), (36, (Value.bool true))]) (
   optK (evFieldAddr Tryd.prog 25 x3 0) fun v32n17 =>
   (inside (evLoad Tryd.prog 23 v32n17)).bind fun v33n18 =>
   optK (len2 Tryd.prog #[23] [v33n18]) fun v34n19 =>
   optK (bin2 Tryd.prog .geq 3 v27n15 v34n19) fun v35n20 =>
   ifV v35n20 (
    k Ex.ret [(0, x0), (1, x1), (3, x3), (4, (Value.int .i64 0)), (5, (Value.int .i64 1)), (6, x6), (7, x23), (8, v27n15), (19, x19), (21, x21), (22, x22), (23, x23), (24, v24n13), (36, v35n20)]) (
    (inside (evCall2 Tryd.prog gt lf d 30 #[x0, x23])).bind fun v40n21 =>
    optK (evExtract v40n21 0) fun v41n22 =>
    optK (evExtract v40n21 1) fun v42n23 =>
    optK (evFieldAddr Tryd.prog 25 x3 0) fun v45n24 =>
    (inside (evLoad Tryd.prog 23 v45n24)).bind fun v46n25 =>
    optK (evIndexAddr Tryd.prog 23 v46n25 v27n15) fun v48n26 =>
    (inside (evLoad Tryd.prog 22 v48n26)).bind fun v49n27 =>
    (inside (evCall2 Tryd.prog gt lf d 31 #[v41n22, v49n27])).bind fun v50n28 =>
    optK (evExtract v50n28 0) fun v51n29 =>
    optK (evExtract v50n28 1) fun v52n30 =>
    optK (bin2 Tryd.prog .neq 27 v52n30 (Value.int .i64 0)) fun v54n31 =>
    ifV v54n31 (
     k Ex.ret [(0, x0), (1, x1), (3, x3), (4, (Value.int .i64 0)), (5, v52n30), (6, x6), (7, x23), (8, v27n15), (9, v41n22), (11, v51n29), (12, v52n30), (19, x19), (21, x21), (22, x22), (23, x23), (24, v24n13), (36, v35n20), (54, v54n31)]) (
     optK (bin2 Tryd.prog .add 3 x6 v51n29) fun v58n32 =>
     optK (min2 [v58n32, (Value.int .i64 1099511627776)]) fun v59n33 =>
     optK (bin2 Tryd.prog .add 3 x23 (Value.int .i64 1)) fun v60n34 =>
     lpA_tables_Cost lf d fu k x0 x1 x3 x4 x5 v59n33 x19 x21 x22 v60n34)))) (
  k (Ex.exit 0) [(0, x0), (1, x1), (3, x3), (4, x4), (5, x5), (6, x6), (19, x19), (21, x21), (22, x22), (23, x23), (24, v24n13)]) := by kernel_rfl
theorem kcAa_tables_Cost (lf d : Nat) (y0 y1 y3 y4 y5 y6 y7 y8 y19 y21 y22 y23 y24 y36 : Value) : kcA_tables_Cost lf d Ex.ret [(0, y0), (1, y1), (3, y3), (4, y4), (5, y5), (6, y6), (7, y7), (8, y8), (19, y19), (21, y21), (22, y22), (23, y23), (24, y24), (36, y36)] =
 outK [y4, y5] := by kernel_rfl
theorem kcAb_tables_Cost (lf d : Nat) (y0 y1 y3 y4 y5 y6 y7 y8 y9 y11 y12 y19 y21 y22 y23 y24 y36 y54 : Value) : kcA_tables_Cost lf d Ex.ret [(0, y0), (1, y1), (3, y3), (4, y4), (5, y5), (6, y6), (7, y7), (8, y8), (9, y9), (11, y11), (12, y12), (19, y19), (21, y21), (22, y22), (23, y23), (24, y24), (36, y36), (54, y54)] =
 outK [y4, y5] := by kernel_rfl
theorem kcAc_tables_Cost (lf d : Nat) (y0 y1 y3 y4 y5 y6 y19 y21 y22 y23 y24 : Value) : kcA_tables_Cost lf d (Ex.exit 0) [(0, y0), (1, y1), (3, y3), (4, y4), (5, y5), (6, y6), (19, y19), (21, y21), (22, y22), (23, y23), (24, y24)] =
 outK [y6, (Value.int .i64 0)] := by kernel_rfl

noncomputable def lpA_balerref08_Groups (lf d fu : Nat) (k : Ex → Fr → M Value) (x0 x2 x3 x4 x7 x8 x9 : Value) : M Value := loopK (fun s1 k1 => codeK Tryd.prog (evCall2 Tryd.prog gt lf d) (gt 10) lf (codeAt (bodyOf Tryd.prog 10) [true, true, true, false, true, false, false]) s1 k1) [0, 2, 3, 4, 7, 8, 9] fu [(0, x0), (2, x2), (3, x3), (4, x4), (7, x7), (8, x8), (9, x9)] k
noncomputable def kcA_balerref08_Groups (lf d : Nat) : Ex → Fr → M Value := contAt Tryd.prog (evCall2 Tryd.prog gt lf d) (gt 10) lf (bodyOf Tryd.prog 10) [true, true, true, false, true, false] (endK Tryd.prog (resOf Tryd.prog 10))
noncomputable def b_balerref08_Groups (lf d : Nat) (a0 : Value) : M Value :=
 optK (len2 Tryd.prog #[22] [a0]) fun v8n1 =>
 lpA_balerref08_Groups lf d lf (kcA_balerref08_Groups lf d) a0 (Value.slice none 0 0) (Value.slice none 0 0) (Value.slice none 0 0) a0 v8n1 (Value.int .i64 0)
theorem sh_balerref08_Groups (lf d : Nat) (a0 : Value) : evCall2 Tryd.prog gt lf (d + 1) 10 #[a0] = inside (b_balerref08_Groups lf d a0) := by kernel_rfl
theorem succA_balerref08_Groups (lf d fu : Nat) (k : Ex → Fr → M Value) (x0 x2 x3 x4 x7 x8 x9 : Value) : lpA_balerref08_Groups lf d (fu + 1) k x0 x2 x3 x4 x7 x8 x9 =
 optK (bin2 Tryd.prog .lss 3 x9 x8) fun v10n2 =>
 ifV v10n2 (
  optK (evIndexAddr Tryd.prog 22 x7 x9) fun v12n3 =>
  (inside (evLoad Tryd.prog 3 v12n3)).bind fun v13n4 =>
  (inside (evBuildSlice Tryd.prog 22 1 [(0, v13n4)])).bind fun v16n5 =>
  (inside (evAppend Tryd.prog 22 x4 v16n5)).bind fun v17n6 =>
  optK (len2 Tryd.prog #[22] [v17n6]) fun v19n7 =>
  optK (bin2 Tryd.prog .eql 3 v19n7 (Value.int .i64 50)) fun v20n8 =>
  ifV v20n8 (
   (inside (evBuildSlice Tryd.prog 23 1 [(0, v17n6)])).bind fun v30n9 =>
   (inside (evAppend Tryd.prog 23 x3 v30n9)).bind fun v31n10 =>
   optK (bin2 Tryd.prog .add 3 x9 (Value.int .i64 1)) fun v32n11 =>
   lpA_balerref08_Groups lf d fu k x0 x2 v31n10 (Value.slice none 0 0) x7 x8 v32n11) (
   optK (bin2 Tryd.prog .add 3 x9 (Value.int .i64 1)) fun v23n12 =>
   optK (len2 Tryd.prog #[22] [x0]) fun v25n13 =>
   optK (bin2 Tryd.prog .eql 3 v23n12 v25n13) fun v26n14 =>
   ifV v26n14 (
    (inside (evBuildSlice Tryd.prog 23 1 [(0, v17n6)])).bind fun v30n15 =>
    (inside (evAppend Tryd.prog 23 x3 v30n15)).bind fun v31n16 =>
    optK (bin2 Tryd.prog .add 3 x9 (Value.int .i64 1)) fun v32n17 =>
    lpA_balerref08_Groups lf d fu k x0 x2 v31n16 (Value.slice none 0 0) x7 x8 v32n17) (
    optK (bin2 Tryd.prog .add 3 x9 (Value.int .i64 1)) fun v32n18 =>
    lpA_balerref08_Groups lf d fu k x0 x2 x3 v17n6 x7 x8 v32n18))) (
  k (Ex.exit 0) [(0, x0), (2, x2), (3, x3), (4, x4), (7, x7), (8, x8), (9, x9), (10, v10n2)]) := by kernel_rfl
theorem kcAa_balerref08_Groups (lf d : Nat) (y0 y2 y3 y4 y7 y8 y9 y10 : Value) : kcA_balerref08_Groups lf d (Ex.exit 0) [(0, y0), (2, y2), (3, y3), (4, y4), (7, y7), (8, y8), (9, y9), (10, y10)] =
 outK [y3] := by kernel_rfl

noncomputable def lpA_balerref08_Of (lf d fu : Nat) (k : Ex → Fr → M Value) (x0 x1 x4 x7 x8 x9 : Value) : M Value := loopK (fun s1 k1 => codeK Tryd.prog (evCall2 Tryd.prog gt lf d) (gt 11) lf (codeAt (bodyOf Tryd.prog 11) [true, false, true, false, false]) s1 k1) [0, 1, 4, 7, 8, 9] fu [(0, x0), (1, x1), (4, x4), (7, x7), (8, x8), (9, x9)] k
noncomputable def kcA_balerref08_Of (lf d : Nat) : Ex → Fr → M Value := contAt Tryd.prog (evCall2 Tryd.prog gt lf d) (gt 11) lf (bodyOf Tryd.prog 11) [true, false, true, false] (endK Tryd.prog (resOf Tryd.prog 11))
noncomputable def b_balerref08_Of (lf d : Nat) (a0 a1 : Value) : M Value :=
 optK (len2 Tryd.prog #[22] [a0]) fun v8n1 =>
 lpA_balerref08_Of lf d lf (kcA_balerref08_Of lf d) a0 a1 (Value.bool false) a0 v8n1 (Value.int .i64 0)
theorem sh_balerref08_Of (lf d : Nat) (a0 a1 : Value) : evCall2 Tryd.prog gt lf (d + 1) 11 #[a0, a1] = inside (b_balerref08_Of lf d a0 a1) := by kernel_rfl
theorem succA_balerref08_Of (lf d fu : Nat) (k : Ex → Fr → M Value) (x0 x1 x4 x7 x8 x9 : Value) : lpA_balerref08_Of lf d (fu + 1) k x0 x1 x4 x7 x8 x9 =
 optK (bin2 Tryd.prog .lss 3 x9 x8) fun v10n2 =>
 ifV v10n2 (
  optK (evIndexAddr Tryd.prog 22 x7 x9) fun v11n3 =>
  (inside (evLoad Tryd.prog 3 v11n3)).bind fun v12n4 =>
  optK (bin2 Tryd.prog .lss 3 v12n4 (Value.int .i64 0)) fun v14n5 =>
  ifV v14n5 (
   k Ex.ret [(0, x0), (1, x1), (4, (Value.bool false)), (6, v12n4), (7, x7), (8, x8), (9, x9), (10, v10n2), (19, (Value.bool true))]) (
   optK (bin2 Tryd.prog .geq 3 v12n4 x1) fun v18n6 =>
   ifV v18n6 (
    k Ex.ret [(0, x0), (1, x1), (4, (Value.bool false)), (6, v12n4), (7, x7), (8, x8), (9, x9), (10, v10n2), (19, v18n6)]) (
    optK (bin2 Tryd.prog .add 3 x9 (Value.int .i64 1)) fun v20n7 =>
    lpA_balerref08_Of lf d fu k x0 x1 x4 x7 x8 v20n7))) (
  k (Ex.exit 0) [(0, x0), (1, x1), (4, x4), (7, x7), (8, x8), (9, x9), (10, v10n2)]) := by kernel_rfl
theorem kcAa_balerref08_Of (lf d : Nat) (y0 y1 y4 y6 y7 y8 y9 y10 y19 : Value) : kcA_balerref08_Of lf d Ex.ret [(0, y0), (1, y1), (4, y4), (6, y6), (7, y7), (8, y8), (9, y9), (10, y10), (19, y19)] =
 outK [y4] := by kernel_rfl
theorem kcAb_balerref08_Of (lf d : Nat) (y0 y1 y4 y7 y8 y9 y10 : Value) : kcA_balerref08_Of lf d (Ex.exit 0) [(0, y0), (1, y1), (4, y4), (7, y7), (8, y8), (9, y9), (10, y10)] =
 outK [(Value.bool true)] := by kernel_rfl

noncomputable def lpA_balerref08_May (lf d fu : Nat) (k : Ex → Fr → M Value) (x0 x2 x5 x6 x7 : Value) : M Value := loopK (fun s1 k1 => codeK Tryd.prog (evCall2 Tryd.prog gt lf d) (gt 12) lf (codeAt (bodyOf Tryd.prog 12) [true, false, true, false, false]) s1 k1) [0, 2, 5, 6, 7] fu [(0, x0), (2, x2), (5, x5), (6, x6), (7, x7)] k
noncomputable def kcA_balerref08_May (lf d : Nat) : Ex → Fr → M Value := contAt Tryd.prog (evCall2 Tryd.prog gt lf d) (gt 12) lf (bodyOf Tryd.prog 12) [true, false, true, false] (endK Tryd.prog (resOf Tryd.prog 12))
noncomputable def b_balerref08_May (lf d : Nat) (a0 : Value) : M Value :=
 optK (len2 Tryd.prog #[22] [a0]) fun v6n1 =>
 lpA_balerref08_May lf d lf (kcA_balerref08_May lf d) a0 (Value.bool false) a0 v6n1 (Value.int .i64 0)
theorem sh_balerref08_May (lf d : Nat) (a0 : Value) : evCall2 Tryd.prog gt lf (d + 1) 12 #[a0] = inside (b_balerref08_May lf d a0) := by kernel_rfl
theorem succA_balerref08_May (lf d fu : Nat) (k : Ex → Fr → M Value) (x0 x2 x5 x6 x7 : Value) : lpA_balerref08_May lf d (fu + 1) k x0 x2 x5 x6 x7 =
 optK (bin2 Tryd.prog .lss 3 x7 x6) fun v8n2 =>
 ifV v8n2 (
  optK (evIndexAddr Tryd.prog 22 x5 x7) fun v9n3 =>
  (inside (evLoad Tryd.prog 3 v9n3)).bind fun v10n4 =>
  optK (bin2 Tryd.prog .lss 3 v10n4 (Value.int .i64 0)) fun v12n5 =>
  ifV v12n5 (
   k Ex.ret [(0, x0), (2, (Value.bool false)), (4, v10n4), (5, x5), (6, x6), (7, x7), (8, v8n2), (16, (Value.bool true))]) (
   optK (bin2 Tryd.prog .gtr 3 v10n4 (Value.int .i64 1099511627776)) fun v15n6 =>
   ifV v15n6 (
    k Ex.ret [(0, x0), (2, (Value.bool false)), (4, v10n4), (5, x5), (6, x6), (7, x7), (8, v8n2), (16, v15n6)]) (
    optK (bin2 Tryd.prog .add 3 x7 (Value.int .i64 1)) fun v17n7 =>
    lpA_balerref08_May lf d fu k x0 x2 x5 x6 v17n7))) (
  k (Ex.exit 0) [(0, x0), (2, x2), (5, x5), (6, x6), (7, x7), (8, v8n2)]) := by kernel_rfl
theorem kcAa_balerref08_May (lf d : Nat) (y0 y2 y4 y5 y6 y7 y8 y16 : Value) : kcA_balerref08_May lf d Ex.ret [(0, y0), (2, y2), (4, y4), (5, y5), (6, y6), (7, y7), (8, y8), (16, y16)] =
 outK [y2] := by kernel_rfl
theorem kcAb_balerref08_May (lf d : Nat) (y0 y2 y5 y6 y7 y8 : Value) : kcA_balerref08_May lf d (Ex.exit 0) [(0, y0), (2, y2), (5, y5), (6, y6), (7, y7), (8, y8)] =
 outK [(Value.bool true)] := by kernel_rfl

noncomputable def lpA_balerref08_Cost (lf d fu : Nat) (k : Ex → Fr → M Value) (x0 x1 x4 x5 x8 x9 x10 : Value) : M Value := loopK (fun s1 k1 => codeK Tryd.prog (evCall2 Tryd.prog gt lf d) (gt 13) lf (codeAt (bodyOf Tryd.prog 13) [true, true, false, true, false, false]) s1 k1) [0, 1, 4, 5, 8, 9, 10] fu [(0, x0), (1, x1), (4, x4), (5, x5), (8, x8), (9, x9), (10, x10)] k
noncomputable def kcA_balerref08_Cost (lf d : Nat) : Ex → Fr → M Value := contAt Tryd.prog (evCall2 Tryd.prog gt lf d) (gt 13) lf (bodyOf Tryd.prog 13) [true, true, false, true, false] (endK Tryd.prog (resOf Tryd.prog 13))
noncomputable def lpB_balerref08_Cost (lf d fu : Nat) (k : Ex → Fr → M Value) (x0 x1 x4 x5 x6 x7 x8 x9 x10 x11 x17 x18 : Value) : M Value := loopK (fun s1 k1 => codeK Tryd.prog (evCall2 Tryd.prog gt lf d) (gt 13) lf (codeAt (bodyOf Tryd.prog 13) [true, true, false, true, false, false, true, true, false, false, true, true, false, false]) s1 k1) [0, 1, 4, 5, 6, 7, 8, 9, 10, 11, 17, 18] fu [(0, x0), (1, x1), (4, x4), (5, x5), (6, x6), (7, x7), (8, x8), (9, x9), (10, x10), (11, x11), (17, x17), (18, x18)] k
noncomputable def kcB_balerref08_Cost (lf d fu : Nat) (k : Ex → Fr → M Value) : Ex → Fr → M Value := contAt Tryd.prog (evCall2 Tryd.prog gt lf d) (gt 13) lf (codeAt (bodyOf Tryd.prog 13) [true, true, false, true, false, false]) [true, true, false, false, true, true, false] (againK (fun s1 => loopK (fun s1 k1 => codeK Tryd.prog (evCall2 Tryd.prog gt lf d) (gt 13) lf (codeAt (bodyOf Tryd.prog 13) [true, true, false, true, false, false]) s1 k1) [0, 1, 4, 5, 8, 9, 10] fu (s1.keep [0, 1, 4, 5, 8, 9, 10]) k) k)
noncomputable def b_balerref08_Cost (lf d : Nat) (a0 a1 : Value) : M Value :=
 optK (len2 Tryd.prog #[22] [a1]) fun v9n1 =>
 lpA_balerref08_Cost lf d lf (kcA_balerref08_Cost lf d) a0 a1 (Value.int .i64 0) (Value.int .i64 0) a1 v9n1 (Value.int .i64 0)
theorem sh_balerref08_Cost (lf d : Nat) (a0 a1 : Value) : evCall2 Tryd.prog gt lf (d + 1) 13 #[a0, a1] = inside (b_balerref08_Cost lf d a0 a1) := by kernel_rfl
theorem succA_balerref08_Cost (lf d fu : Nat) (k : Ex → Fr → M Value) (x0 x1 x4 x5 x8 x9 x10 : Value) : lpA_balerref08_Cost lf d (fu + 1) k x0 x1 x4 x5 x8 x9 x10 =
 optK (bin2 Tryd.prog .lss 3 x10 x9) fun v11n2 =>
 ifV v11n2 (
  optK (evIndexAddr Tryd.prog 22 x8 x10) fun v13n3 =>
  (inside (evLoad Tryd.prog 3 v13n3)).bind fun v14n4 =>
  (inside (evCall2 Tryd.prog gt lf d 32 #[x0, x10])).bind fun v17n5 =>
  lpB_balerref08_Cost lf d lf (kcB_balerref08_Cost lf d fu k) x0 x1 x4 x5 x10 v14n4 x8 x9 x10 v11n2 v17n5 (Value.int .i64 0)) (
  k (Ex.exit 0) [(0, x0), (1, x1), (4, x4), (5, x5), (8, x8), (9, x9), (10, x10), (11, v11n2)]) := by kernel_rfl
theorem kcAa_balerref08_Cost (lf d : Nat) (y0 y1 y4 y5 y8 y9 y10 y11 : Value) : kcA_balerref08_Cost lf d (Ex.exit 0) [(0, y0), (1, y1), (4, y4), (5, y5), (8, y8), (9, y9), (10, y10), (11, y11)] =
 outK [y5] := by kernel_rfl
theorem succB_balerref08_Cost (lf d fu : Nat) (k : Ex → Fr → M Value) (x0 x1 x4 x5 x6 x7 x8 x9 x10 x11 x17 x18 : Value) : lpB_balerref08_Cost lf d (fu + 1) k x0 x1 x4 x5 x6 x7 x8 x9 x10 x11 x17 x18 =
 optK (bin2 Tryd.prog .lss 3 x18 x17) fun v19n6 =>
 ifV v19n6 (
  optK (bin2 Tryd.prog .add 3 x5 x7) fun v22n7 =>
  (inside (evCall2 Tryd.prog gt lf d 33 #[v22n7])).bind fun v23n8 =>
  optK (bin2 Tryd.prog .add 3 x18 (Value.int .i64 1)) fun v24n9 =>
  lpB_balerref08_Cost lf d fu k x0 x1 x4 v23n8 x6 x7 x8 x9 x10 x11 x17 v24n9) (
  k (Ex.exit 2) [(0, x0), (1, x1), (4, x4), (5, x5), (6, x6), (7, x7), (8, x8), (9, x9), (10, x10), (11, x11), (17, x17), (18, x18), (19, v19n6)]) := by kernel_rfl
theorem kcBa_balerref08_Cost (lf d fu : Nat) (k : Ex → Fr → M Value) (y0 y1 y4 y5 y6 y7 y8 y9 y10 y11 y17 y18 y19 : Value) : kcB_balerref08_Cost lf d fu k (Ex.exit 2) [(0, y0), (1, y1), (4, y4), (5, y5), (6, y6), (7, y7), (8, y8), (9, y9), (10, y10), (11, y11), (17, y17), (18, y18), (19, y19)] =
 optK (bin2 Tryd.prog .add 3 y10 (Value.int .i64 1)) fun v25n10 =>
 lpA_balerref08_Cost lf d fu k y0 y1 y4 y5 y8 y9 v25n10 := by kernel_rfl

noncomputable def lpA_tables_Of (lf d fu : Nat) (k : Ex → Fr → M Value) (x0 x1 x4 x5 x6 x7 x8 x9 x18 x27 x40 : Value) : M Value := loopK (fun s1 k1 => codeK Tryd.prog (evCall2 Tryd.prog gt lf d) (gt 15) lf (codeAt (bodyOf Tryd.prog 15) [true, true, true, true, true, false, true, false, false]) s1 k1) [0, 1, 4, 5, 6, 7, 8, 9, 18, 27, 40] fu [(0, x0), (1, x1), (4, x4), (5, x5), (6, x6), (7, x7), (8, x8), (9, x9), (18, x18), (27, x27), (40, x40)] k
noncomputable def kcA_tables_Of (lf d : Nat) : Ex → Fr → M Value := contAt Tryd.prog (evCall2 Tryd.prog gt lf d) (gt 15) lf (bodyOf Tryd.prog 15) [true, true, true, true, true, false, true, false] (endK Tryd.prog (resOf Tryd.prog 15))
noncomputable def lpA_tables_Number (lf d fu : Nat) (k : Ex → Fr → M Value) (x0 x2 x3 x6 x7 : Value) : M Value := loopK (fun s1 k1 => codeK Tryd.prog (evCall2 Tryd.prog gt lf d) (gt 19) lf (codeAt (bodyOf Tryd.prog 19) [true, true, false, true, false, false]) s1 k1) [0, 2, 3, 6, 7] fu [(0, x0), (2, x2), (3, x3), (6, x6), (7, x7)] k
noncomputable def kcA_tables_Number (lf d : Nat) : Ex → Fr → M Value := contAt Tryd.prog (evCall2 Tryd.prog gt lf d) (gt 19) lf (bodyOf Tryd.prog 19) [true, true, false, true, false] (endK Tryd.prog (resOf Tryd.prog 19))
noncomputable def lpA_balerplain_Ints (lf d fu : Nat) (k : Ex → Fr → M Value) (x0 x1 x4 x10 x12 x13 : Value) : M Value := loopK (fun s1 k1 => codeK Tryd.prog (evCall2 Tryd.prog gt lf d) (gt 28) lf (codeAt (bodyOf Tryd.prog 28) [true, true, false, true, false, false]) s1 k1) [0, 1, 4, 10, 12, 13] fu [(0, x0), (1, x1), (4, x4), (10, x10), (12, x12), (13, x13)] k
noncomputable def kcA_balerplain_Ints (lf d : Nat) : Ex → Fr → M Value := contAt Tryd.prog (evCall2 Tryd.prog gt lf d) (gt 28) lf (bodyOf Tryd.prog 28) [true, true, false, true, false] (endK Tryd.prog (resOf Tryd.prog 28))
noncomputable def b_freq_Groups (lf d : Nat) (a0 : Value) : M Value :=
 optK (bin2 Tryd.prog .leq 3 a0 (Value.int .i64 0)) fun v4n1 =>
 ifV v4n1 (
  outK [(Value.int .i64 0)]) (
  optK (bin2 Tryd.prog .sub 3 a0 (Value.int .i64 1)) fun v6n2 =>
  optK (bin2 Tryd.prog .quo 3 v6n2 (Value.int .i64 50)) fun v7n3 =>
  optK (bin2 Tryd.prog .add 3 v7n3 (Value.int .i64 1)) fun v8n4 =>
  outK [v8n4])
theorem sh_freq_Groups (lf d : Nat) (a0 : Value) : evCall2 Tryd.prog gt lf (d + 1) 29 #[a0] = inside (b_freq_Groups lf d a0) := by kernel_rfl

noncomputable def b_freq_Group (lf d : Nat) (a0 a1 : Value) : M Value :=
 optK (bin2 Tryd.prog .lss 3 a1 (Value.int .i64 0)) fun v7n1 =>
 ifV v7n1 (
  outK [(Value.slice none 0 0), (Value.int .i64 1)]) (
  optK (len2 Tryd.prog #[22] [a0]) fun v11n2 =>
  (inside (evCall2 Tryd.prog gt lf d 29 #[v11n2])).bind fun v12n3 =>
  optK (bin2 Tryd.prog .geq 3 a1 v12n3) fun v13n4 =>
  ifV v13n4 (
   outK [(Value.slice none 0 0), (Value.int .i64 1)]) (
   (inside (evCall2 Tryd.prog gt lf d 47 #[a0, a1, (Value.int .i64 50)])).bind fun v17n5 =>
   outK [v17n5, (Value.int .i64 0)]))
theorem sh_freq_Group (lf d : Nat) (a0 a1 : Value) : evCall2 Tryd.prog gt lf (d + 1) 30 #[a0, a1] = inside (b_freq_Group lf d a0 a1) := by kernel_rfl

noncomputable def lpA_freq_Cost (lf d fu : Nat) (k : Ex → Fr → M Value) (x0 x1 x4 x5 x6 x11 x12 x13 x14 : Value) : M Value := loopK (fun s1 k1 => codeK Tryd.prog (evCall2 Tryd.prog gt lf d) (gt 31) lf (codeAt (bodyOf Tryd.prog 31) [true, true, true, false, true, false, false]) s1 k1) [0, 1, 4, 5, 6, 11, 12, 13, 14] fu [(0, x0), (1, x1), (4, x4), (5, x5), (6, x6), (11, x11), (12, x12), (13, x13), (14, x14)] k
noncomputable def kcA_freq_Cost (lf d : Nat) : Ex → Fr → M Value := contAt Tryd.prog (evCall2 Tryd.prog gt lf d) (gt 31) lf (bodyOf Tryd.prog 31) [true, true, true, false, true, false] (endK Tryd.prog (resOf Tryd.prog 31))
noncomputable def b_freq_Cost (lf d : Nat) (a0 a1 : Value) : M Value :=
 (inside (evCall2 Tryd.prog gt lf d 48 #[a1])).bind fun v10n1 =>
 optK (un2 Tryd.prog .not v10n1) fun v11n2 =>
 ifV v11n2 (
  outK [(Value.int .i64 0), (Value.int .i64 1)]) (
  optK (len2 Tryd.prog #[22] [a0]) fun v13n3 =>
  lpA_freq_Cost lf d lf (kcA_freq_Cost lf d) a0 a1 (Value.int .i64 0) (Value.int .i64 0) (Value.int .i64 0) v11n2 a0 v13n3 (Value.int .i64 0))
theorem sh_freq_Cost (lf d : Nat) (a0 a1 : Value) : evCall2 Tryd.prog gt lf (d + 1) 31 #[a0, a1] = inside (b_freq_Cost lf d a0 a1) := by kernel_rfl
theorem succA_freq_Cost (lf d fu : Nat) (k : Ex → Fr → M Value) (x0 x1 x4 x5 x6 x11 x12 x13 x14 : Value) : lpA_freq_Cost lf d (fu + 1) k x0 x1 x4 x5 x6 x11 x12 x13 x14 =
 optK (bin2 Tryd.prog .lss 3 x14 x13) fun v15n4 =>
 ifV v15n4 (
  optK (evIndexAddr Tryd.prog 22 x12 x14) fun v16n5 =>
  (inside (evLoad Tryd.prog 3 v16n5)).bind fun v17n6 =>
  optK (bin2 Tryd.prog .lss 3 v17n6 (Value.int .i64 0)) fun v19n7 =>
  ifV v19n7 (
   k Ex.ret [(0, x0), (1, x1), (4, (Value.int .i64 0)), (5, (Value.int .i64 1)), (6, x6), (8, v17n6), (11, x11), (12, x12), (13, x13), (14, x14), (15, v15n4), (25, (Value.bool true))]) (
   optK (len2 Tryd.prog #[22] [x1]) fun v23n8 =>
   optK (bin2 Tryd.prog .geq 3 v17n6 v23n8) fun v24n9 =>
   ifV v24n9 (
    k Ex.ret [(0, x0), (1, x1), (4, (Value.int .i64 0)), (5, (Value.int .i64 1)), (6, x6), (8, v17n6), (11, x11), (12, x12), (13, x13), (14, x14), (15, v15n4), (25, v24n9)]) (
    optK (evIndexAddr Tryd.prog 22 x1 v17n6) fun v29n10 =>
    (inside (evLoad Tryd.prog 3 v29n10)).bind fun v30n11 =>
    (inside (evCall2 Tryd.prog gt lf d 49 #[x6, v30n11])).bind fun v31n12 =>
    optK (bin2 Tryd.prog .add 3 x14 (Value.int .i64 1)) fun v32n13 =>
    lpA_freq_Cost lf d fu k x0 x1 x4 x5 v31n12 x11 x12 x13 v32n13))) (
  k (Ex.exit 0) [(0, x0), (1, x1), (4, x4), (5, x5), (6, x6), (11, x11), (12, x12), (13, x13), (14, x14), (15, v15n4)]) := by kernel_rfl
theorem kcAa_freq_Cost (lf d : Nat) (y0 y1 y4 y5 y6 y8 y11 y12 y13 y14 y15 y25 : Value) : kcA_freq_Cost lf d Ex.ret [(0, y0), (1, y1), (4, y4), (5, y5), (6, y6), (8, y8), (11, y11), (12, y12), (13, y13), (14, y14), (15, y15), (25, y25)] =
 outK [y4, y5] := by kernel_rfl
theorem kcAb_freq_Cost (lf d : Nat) (y0 y1 y4 y5 y6 y11 y12 y13 y14 y15 : Value) : kcA_freq_Cost lf d (Ex.exit 0) [(0, y0), (1, y1), (4, y4), (5, y5), (6, y6), (11, y11), (12, y12), (13, y13), (14, y14), (15, y15)] =
 outK [y6, (Value.int .i64 0)] := by kernel_rfl

noncomputable def lpA_balerref08_count (lf d fu : Nat) (k : Ex → Fr → M Value) (x0 x1 x4 x5 x8 x9 x10 : Value) : M Value := loopK (fun s1 k1 => codeK Tryd.prog (evCall2 Tryd.prog gt lf d) (gt 32) lf (codeAt (bodyOf Tryd.prog 32) [true, true, false, true, false, false]) s1 k1) [0, 1, 4, 5, 8, 9, 10] fu [(0, x0), (1, x1), (4, x4), (5, x5), (8, x8), (9, x9), (10, x10)] k
noncomputable def kcA_balerref08_count (lf d : Nat) : Ex → Fr → M Value := contAt Tryd.prog (evCall2 Tryd.prog gt lf d) (gt 32) lf (bodyOf Tryd.prog 32) [true, true, false, true, false] (endK Tryd.prog (resOf Tryd.prog 32))
noncomputable def b_balerref08_count (lf d : Nat) (a0 a1 : Value) : M Value :=
 optK (len2 Tryd.prog #[22] [a0]) fun v9n1 =>
 lpA_balerref08_count lf d lf (kcA_balerref08_count lf d) a0 a1 (Value.int .i64 0) (Value.int .i64 0) a0 v9n1 (Value.int .i64 0)
theorem sh_balerref08_count (lf d : Nat) (a0 a1 : Value) : evCall2 Tryd.prog gt lf (d + 1) 32 #[a0, a1] = inside (b_balerref08_count lf d a0 a1) := by kernel_rfl
theorem succA_balerref08_count (lf d fu : Nat) (k : Ex → Fr → M Value) (x0 x1 x4 x5 x8 x9 x10 : Value) : lpA_balerref08_count lf d (fu + 1) k x0 x1 x4 x5 x8 x9 x10 =
 optK (bin2 Tryd.prog .lss 3 x10 x9) fun v11n2 =>
 ifV v11n2 (
  optK (evIndexAddr Tryd.prog 22 x8 x10) fun v12n3 =>
  (inside (evLoad Tryd.prog 3 v12n3)).bind fun v13n4 =>
  optK (bin2 Tryd.prog .eql 3 x1 v13n4) fun v16n5 =>
  ifV v16n5 (
   optK (bin2 Tryd.prog .add 3 x5 (Value.int .i64 1)) fun v18n6 =>
   optK (bin2 Tryd.prog .add 3 x10 (Value.int .i64 1)) fun v19n7 =>
   lpA_balerref08_count lf d fu k x0 x1 x4 v18n6 x8 x9 v19n7) (
   optK (bin2 Tryd.prog .add 3 x10 (Value.int .i64 1)) fun v19n8 =>
   lpA_balerref08_count lf d fu k x0 x1 x4 x5 x8 x9 v19n8)) (
  k (Ex.exit 0) [(0, x0), (1, x1), (4, x4), (5, x5), (8, x8), (9, x9), (10, x10), (11, v11n2)]) := by kernel_rfl
theorem kcAa_balerref08_count (lf d : Nat) (y0 y1 y4 y5 y8 y9 y10 y11 : Value) : kcA_balerref08_count lf d (Ex.exit 0) [(0, y0), (1, y1), (4, y4), (5, y5), (8, y8), (9, y9), (10, y10), (11, y11)] =
 outK [y5] := by kernel_rfl

noncomputable def b_balerref08_most (lf d : Nat) (a0 : Value) : M Value :=
 optK (bin2 Tryd.prog .gtr 3 a0 (Value.int .i64 1099511627776)) fun v4n1 =>
 ifV v4n1 (
  outK [(Value.int .i64 1099511627776)]) (
  outK [a0])
theorem sh_balerref08_most (lf d : Nat) (a0 : Value) : evCall2 Tryd.prog gt lf (d + 1) 33 #[a0] = inside (b_balerref08_most lf d a0) := by kernel_rfl

noncomputable def lpA_freq_Counts (lf d fu : Nat) (k : Ex → Fr → M Value) (x0 x1 x4 x5 x6 x14 x17 x18 x19 : Value) : M Value := loopK (fun s1 k1 => codeK Tryd.prog (evCall2 Tryd.prog gt lf d) (gt 34) lf (codeAt (bodyOf Tryd.prog 34) [true, true, true, false, true, false, false]) s1 k1) [0, 1, 4, 5, 6, 14, 17, 18, 19] fu [(0, x0), (1, x1), (4, x4), (5, x5), (6, x6), (14, x14), (17, x17), (18, x18), (19, x19)] k
noncomputable def kcA_freq_Counts (lf d : Nat) : Ex → Fr → M Value := contAt Tryd.prog (evCall2 Tryd.prog gt lf d) (gt 34) lf (bodyOf Tryd.prog 34) [true, true, true, false, true, false] (endK Tryd.prog (resOf Tryd.prog 34))
noncomputable def lpA_tables_groupsOf (lf d fu : Nat) (k : Ex → Fr → M Value) (x0 x2 x3 x9 x10 : Value) : M Value := loopK (fun s1 k1 => codeK Tryd.prog (evCall2 Tryd.prog gt lf d) (gt 35) lf (codeAt (bodyOf Tryd.prog 35) [true, true, false, true, false, false]) s1 k1) [0, 2, 3, 9, 10] fu [(0, x0), (2, x2), (3, x3), (9, x9), (10, x10)] k
noncomputable def kcA_tables_groupsOf (lf d : Nat) : Ex → Fr → M Value := contAt Tryd.prog (evCall2 Tryd.prog gt lf d) (gt 35) lf (bodyOf Tryd.prog 35) [true, true, false, true, false] (endK Tryd.prog (resOf Tryd.prog 35))
noncomputable def lpA_tables_first (lf d fu : Nat) (k : Ex → Fr → M Value) (x0 x1 x4 x5 x6 x18 x19 : Value) : M Value := loopK (fun s1 k1 => codeK Tryd.prog (evCall2 Tryd.prog gt lf d) (gt 36) lf (codeAt (bodyOf Tryd.prog 36) [true, true, true, false, true, false, false]) s1 k1) [0, 1, 4, 5, 6, 18, 19] fu [(0, x0), (1, x1), (4, x4), (5, x5), (6, x6), (18, x18), (19, x19)] k
noncomputable def kcA_tables_first (lf d : Nat) : Ex → Fr → M Value := contAt Tryd.prog (evCall2 Tryd.prog gt lf d) (gt 36) lf (bodyOf Tryd.prog 36) [true, true, true, false, true, false] (endK Tryd.prog (resOf Tryd.prog 36))
noncomputable def lpB_tables_first (lf d fu : Nat) (k : Ex → Fr → M Value) (x0 x1 x4 x5 x6 x8 x18 x19 x20 x29 x30 x31 : Value) : M Value := loopK (fun s1 k1 => codeK Tryd.prog (evCall2 Tryd.prog gt lf d) (gt 36) lf (codeAt (bodyOf Tryd.prog 36) [true, true, true, true, true, false, true, false, false]) s1 k1) [0, 1, 4, 5, 6, 8, 18, 19, 20, 29, 30, 31] fu [(0, x0), (1, x1), (4, x4), (5, x5), (6, x6), (8, x8), (18, x18), (19, x19), (20, x20), (29, x29), (30, x30), (31, x31)] k
noncomputable def kcB_tables_first (lf d : Nat) : Ex → Fr → M Value := contAt Tryd.prog (evCall2 Tryd.prog gt lf d) (gt 36) lf (bodyOf Tryd.prog 36) [true, true, true, true, true, false, true, false] (endK Tryd.prog (resOf Tryd.prog 36))
noncomputable def lpC_tables_first (lf d fu : Nat) (k : Ex → Fr → M Value) (x0 x1 x4 x5 x6 x8 x9 x10 x11 x18 x19 x20 x29 x30 x31 x32 x42 x43 : Value) : M Value := loopK (fun s1 k1 => codeK Tryd.prog (evCall2 Tryd.prog gt lf d) (gt 36) lf (codeAt (bodyOf Tryd.prog 36) [true, true, true, true, true, false, true, false, false, true, true, false, false, true, true, false, true, false, false]) s1 k1) [0, 1, 4, 5, 6, 8, 9, 10, 11, 18, 19, 20, 29, 30, 31, 32, 42, 43] fu [(0, x0), (1, x1), (4, x4), (5, x5), (6, x6), (8, x8), (9, x9), (10, x10), (11, x11), (18, x18), (19, x19), (20, x20), (29, x29), (30, x30), (31, x31), (32, x32), (42, x42), (43, x43)] k
noncomputable def kcC_tables_first (lf d fu : Nat) (k : Ex → Fr → M Value) : Ex → Fr → M Value := contAt Tryd.prog (evCall2 Tryd.prog gt lf d) (gt 36) lf (codeAt (bodyOf Tryd.prog 36) [true, true, true, true, true, false, true, false, false]) [true, true, false, false, true, true, false, true, false] (againK (fun s1 => loopK (fun s1 k1 => codeK Tryd.prog (evCall2 Tryd.prog gt lf d) (gt 36) lf (codeAt (bodyOf Tryd.prog 36) [true, true, true, true, true, false, true, false, false]) s1 k1) [0, 1, 4, 5, 6, 8, 18, 19, 20, 29, 30, 31] fu (s1.keep [0, 1, 4, 5, 6, 8, 18, 19, 20, 29, 30, 31]) k) k)
noncomputable def lpA_tables_round (lf d fu : Nat) (k : Ex → Fr → M Value) (x0 x1 x2 x6 x7 x8 x9 x27 x28 : Value) : M Value := loopK (fun s1 k1 => codeK Tryd.prog (evCall2 Tryd.prog gt lf d) (gt 37) lf (codeAt (bodyOf Tryd.prog 37) [true, true, true, false, true, false, false]) s1 k1) [0, 1, 2, 6, 7, 8, 9, 27, 28] fu [(0, x0), (1, x1), (2, x2), (6, x6), (7, x7), (8, x8), (9, x9), (27, x27), (28, x28)] k
noncomputable def kcA_tables_round (lf d : Nat) : Ex → Fr → M Value := contAt Tryd.prog (evCall2 Tryd.prog gt lf d) (gt 37) lf (bodyOf Tryd.prog 37) [true, true, true, false, true, false] (endK Tryd.prog (resOf Tryd.prog 37))
noncomputable def lpB_tables_round (lf d fu : Nat) (k : Ex → Fr → M Value) (x0 x1 x2 x6 x7 x8 x9 x27 x28 x29 x37 x38 x39 : Value) : M Value := loopK (fun s1 k1 => codeK Tryd.prog (evCall2 Tryd.prog gt lf d) (gt 37) lf (codeAt (bodyOf Tryd.prog 37) [true, true, true, true, false, true, false, false]) s1 k1) [0, 1, 2, 6, 7, 8, 9, 27, 28, 29, 37, 38, 39] fu [(0, x0), (1, x1), (2, x2), (6, x6), (7, x7), (8, x8), (9, x9), (27, x27), (28, x28), (29, x29), (37, x37), (38, x38), (39, x39)] k
noncomputable def kcB_tables_round (lf d : Nat) : Ex → Fr → M Value := contAt Tryd.prog (evCall2 Tryd.prog gt lf d) (gt 37) lf (bodyOf Tryd.prog 37) [true, true, true, true, false, true, false] (endK Tryd.prog (resOf Tryd.prog 37))
noncomputable def lpC_tables_round (lf d fu : Nat) (k : Ex → Fr → M Value) (x0 x1 x2 x6 x7 x8 x9 x18 x27 x28 x29 x37 x38 x39 x40 x70 x71 x72 : Value) : M Value := loopK (fun s1 k1 => codeK Tryd.prog (evCall2 Tryd.prog gt lf d) (gt 37) lf (codeAt (bodyOf Tryd.prog 37) [true, true, true, true, true, true, false, true, false, false]) s1 k1) [0, 1, 2, 6, 7, 8, 9, 18, 27, 28, 29, 37, 38, 39, 40, 70, 71, 72] fu [(0, x0), (1, x1), (2, x2), (6, x6), (7, x7), (8, x8), (9, x9), (18, x18), (27, x27), (28, x28), (29, x29), (37, x37), (38, x38), (39, x39), (40, x40), (70, x70), (71, x71), (72, x72)] k
noncomputable def kcC_tables_round (lf d : Nat) : Ex → Fr → M Value := contAt Tryd.prog (evCall2 Tryd.prog gt lf d) (gt 37) lf (bodyOf Tryd.prog 37) [true, true, true, true, true, true, false, true, false] (endK Tryd.prog (resOf Tryd.prog 37))
noncomputable def lpA_lens_Of (lf d fu : Nat) (k : Ex → Fr → M Value) (x0 x2 x3 x4 x20 x24 x25 x26 : Value) : M Value := loopK (fun s1 k1 => codeK Tryd.prog (evCall2 Tryd.prog gt lf d) (gt 39) lf (codeAt (bodyOf Tryd.prog 39) [true, true, true, false, true, false, false]) s1 k1) [0, 2, 3, 4, 20, 24, 25, 26] fu [(0, x0), (2, x2), (3, x3), (4, x4), (20, x20), (24, x24), (25, x25), (26, x26)] k
noncomputable def kcA_lens_Of (lf d : Nat) : Ex → Fr → M Value := contAt Tryd.prog (evCall2 Tryd.prog gt lf d) (gt 39) lf (bodyOf Tryd.prog 39) [true, true, true, false, true, false] (endK Tryd.prog (resOf Tryd.prog 39))
noncomputable def lpB_lens_Of (lf d fu : Nat) (k : Ex → Fr → M Value) (x0 x2 x3 x4 x20 x24 x25 x26 x27 : Value) : M Value := loopK (fun s1 k1 => codeK Tryd.prog (evCall2 Tryd.prog gt lf d) (gt 39) lf (codeAt (bodyOf Tryd.prog 39) [true, true, true, true, false, false]) s1 k1) [0, 2, 3, 4, 20, 24, 25, 26, 27] fu [(0, x0), (2, x2), (3, x3), (4, x4), (20, x20), (24, x24), (25, x25), (26, x26), (27, x27)] k
noncomputable def kcB_lens_Of (lf d : Nat) : Ex → Fr → M Value := contAt Tryd.prog (evCall2 Tryd.prog gt lf d) (gt 39) lf (bodyOf Tryd.prog 39) [true, true, true, true, false] (endK Tryd.prog (resOf Tryd.prog 39))
noncomputable def b_freq_part_int (lf d : Nat) (a0 a1 a2 : Value) : M Value :=
 optK (bin2 Tryd.prog .mul 3 a1 a2) fun v10n1 =>
 optK (len2 Tryd.prog #[22] [a0]) fun v12n2 =>
 optK (bin2 Tryd.prog .add 3 a1 (Value.int .i64 1)) fun v14n3 =>
 optK (bin2 Tryd.prog .mul 3 v14n3 a2) fun v16n4 =>
 optK (min2 [v12n2, v16n4]) fun v17n5 =>
 slice2 Tryd.prog 22 a0 (some v10n1) (some v17n5) none fun v18n6 =>
 (inside (evCall2 Tryd.prog gt lf d 55 #[v18n6])).bind fun v19n7 =>
 outK [v19n7]
theorem sh_freq_part_int (lf d : Nat) (a0 a1 a2 : Value) : evCall2 Tryd.prog gt lf (d + 1) 47 #[a0, a1, a2] = inside (b_freq_part_int lf d a0 a1 a2) := by kernel_rfl

noncomputable def b_freq_all (lf d : Nat) (a0 : Value) : M Value :=
 (inside (evCall2 Tryd.prog gt lf d 59 #[a0, (Value.func (.func 60) #[] #[])])).bind fun v4n1 =>
 optK (un2 Tryd.prog .not v4n1) fun v5n2 =>
 outK [v5n2]
theorem sh_freq_all (lf d : Nat) (a0 : Value) : evCall2 Tryd.prog gt lf (d + 1) 48 #[a0] = inside (b_freq_all lf d a0) := by kernel_rfl

noncomputable def b_freq_together (lf d : Nat) (a0 a1 : Value) : M Value :=
 optK (bin2 Tryd.prog .add 3 a0 a1) fun v7n1 =>
 optK (min2 [v7n1, (Value.int .i64 1099511627776)]) fun v8n2 =>
 outK [v8n2]
theorem sh_freq_together (lf d : Nat) (a0 a1 : Value) : evCall2 Tryd.prog gt lf (d + 1) 49 #[a0, a1] = inside (b_freq_together lf d a0 a1) := by kernel_rfl

noncomputable def lpA_tables_pick (lf d fu : Nat) (k : Ex → Fr → M Value) (x0 x1 x4 x5 x6 x11 x12 x13 : Value) : M Value := loopK (fun s1 k1 => codeK Tryd.prog (evCall2 Tryd.prog gt lf d) (gt 50) lf (codeAt (bodyOf Tryd.prog 50) [true, true, false, true, false, false]) s1 k1) [0, 1, 4, 5, 6, 11, 12, 13] fu [(0, x0), (1, x1), (4, x4), (5, x5), (6, x6), (11, x11), (12, x12), (13, x13)] k
noncomputable def kcA_tables_pick (lf d : Nat) : Ex → Fr → M Value := contAt Tryd.prog (evCall2 Tryd.prog gt lf d) (gt 50) lf (bodyOf Tryd.prog 50) [true, true, false, true, false] (endK Tryd.prog (resOf Tryd.prog 50))
noncomputable def lpA_freq_Add (lf d fu : Nat) (k : Ex → Fr → M Value) (x0 x1 x4 x5 x6 x22 x27 x28 : Value) : M Value := loopK (fun s1 k1 => codeK Tryd.prog (evCall2 Tryd.prog gt lf d) (gt 51) lf (codeAt (bodyOf Tryd.prog 51) [true, true, true, false, true, false, false]) s1 k1) [0, 1, 4, 5, 6, 22, 27, 28] fu [(0, x0), (1, x1), (4, x4), (5, x5), (6, x6), (22, x22), (27, x27), (28, x28)] k
noncomputable def kcA_freq_Add (lf d : Nat) : Ex → Fr → M Value := contAt Tryd.prog (evCall2 Tryd.prog gt lf d) (gt 51) lf (bodyOf Tryd.prog 51) [true, true, true, false, true, false] (endK Tryd.prog (resOf Tryd.prog 51))
noncomputable def lpA_lens_depths (lf d fu : Nat) (k : Ex → Fr → M Value) (x0 x2 x3 x11 x12 : Value) : M Value := loopK (fun s1 k1 => codeK Tryd.prog (evCall2 Tryd.prog gt lf d) (gt 53) lf (codeAt (bodyOf Tryd.prog 53) [true, true, false, true, false, false]) s1 k1) [0, 2, 3, 11, 12] fu [(0, x0), (2, x2), (3, x3), (11, x11), (12, x12)] k
noncomputable def kcA_lens_depths (lf d : Nat) : Ex → Fr → M Value := contAt Tryd.prog (evCall2 Tryd.prog gt lf d) (gt 53) lf (bodyOf Tryd.prog 53) [true, true, false, true, false] (endK Tryd.prog (resOf Tryd.prog 53))
noncomputable def lpB_lens_depths (lf d fu : Nat) (k : Ex → Fr → M Value) (x0 x2 x3 x5 x6 x11 x12 x13 : Value) : M Value := loopK (fun s1 k1 => codeK Tryd.prog (evCall2 Tryd.prog gt lf d) (gt 53) lf (codeAt (bodyOf Tryd.prog 53) [true, true, true, true, false, true, false, false]) s1 k1) [0, 2, 3, 5, 6, 11, 12, 13] fu [(0, x0), (2, x2), (3, x3), (5, x5), (6, x6), (11, x11), (12, x12), (13, x13)] k
noncomputable def kcB_lens_depths (lf d : Nat) : Ex → Fr → M Value := contAt Tryd.prog (evCall2 Tryd.prog gt lf d) (gt 53) lf (bodyOf Tryd.prog 53) [true, true, true, true, false, true, false] (endK Tryd.prog (resOf Tryd.prog 53))
noncomputable def lpA_lens_Longest (lf d fu : Nat) (k : Ex → Fr → M Value) (x0 x2 x3 x6 x7 x8 : Value) : M Value := loopK (fun s1 k1 => codeK Tryd.prog (evCall2 Tryd.prog gt lf d) (gt 54) lf (codeAt (bodyOf Tryd.prog 54) [true, true, false, true, false, false]) s1 k1) [0, 2, 3, 6, 7, 8] fu [(0, x0), (2, x2), (3, x3), (6, x6), (7, x7), (8, x8)] k
noncomputable def kcA_lens_Longest (lf d : Nat) : Ex → Fr → M Value := contAt Tryd.prog (evCall2 Tryd.prog gt lf d) (gt 54) lf (bodyOf Tryd.prog 54) [true, true, false, true, false] (endK Tryd.prog (resOf Tryd.prog 54))
noncomputable def b_slices_Clone_int_int (lf d : Nat) (a0 : Value) : M Value :=
 optK (bin2 Tryd.prog .eql 22 a0 (Value.slice none 0 0)) fun v4n1 =>
 ifV v4n1 (
  outK [(Value.slice none 0 0)]) (
  (inside (evBuildSlice Tryd.prog 22 0 [])).bind fun v5n2 =>
  (inside (evAppend Tryd.prog 22 v5n2 a0)).bind fun v7n3 =>
  outK [v7n3])
theorem sh_slices_Clone_int_int (lf d : Nat) (a0 : Value) : evCall2 Tryd.prog gt lf (d + 1) 55 #[a0] = inside (b_slices_Clone_int_int lf d a0) := by kernel_rfl

noncomputable def lpA_lens_Halved (lf d fu : Nat) (k : Ex → Fr → M Value) (x0 x2 x3 x9 x10 x11 : Value) : M Value := loopK (fun s1 k1 => codeK Tryd.prog (evCall2 Tryd.prog gt lf d) (gt 56) lf (codeAt (bodyOf Tryd.prog 56) [true, true, false, true, false, false]) s1 k1) [0, 2, 3, 9, 10, 11] fu [(0, x0), (2, x2), (3, x3), (9, x9), (10, x10), (11, x11)] k
noncomputable def kcA_lens_Halved (lf d : Nat) : Ex → Fr → M Value := contAt Tryd.prog (evCall2 Tryd.prog gt lf d) (gt 56) lf (bodyOf Tryd.prog 56) [true, true, false, true, false] (endK Tryd.prog (resOf Tryd.prog 56))
noncomputable def b_slices_ContainsFunc_int_int (lf d : Nat) (a0 a1 : Value) : M Value :=
 (inside (evCall2 Tryd.prog gt lf d 68 #[a0, a1])).bind fun v7n1 =>
 optK (bin2 Tryd.prog .geq 3 v7n1 (Value.int .i64 0)) fun v8n2 =>
 outK [v8n2]
theorem sh_slices_ContainsFunc_int_int (lf d : Nat) (a0 a1 : Value) : evCall2 Tryd.prog gt lf (d + 1) 59 #[a0, a1] = inside (b_slices_ContainsFunc_int_int lf d a0 a1) := by kernel_rfl

noncomputable def b_freq_all_1 (lf d : Nat) (a0 : Value) : M Value :=
 (inside (evCall2 Tryd.prog gt lf d 61 #[a0])).bind fun v4n1 =>
 optK (un2 Tryd.prog .not v4n1) fun v5n2 =>
 outK [v5n2]
theorem sh_freq_all_1 (lf d : Nat) (a0 : Value) : evCall2 Tryd.prog gt lf (d + 1) 60 #[a0] = inside (b_freq_all_1 lf d a0) := by kernel_rfl

noncomputable def b_freq_may (lf d : Nat) (a0 : Value) : M Value :=
 optK (bin2 Tryd.prog .geq 3 a0 (Value.int .i64 0)) fun v4n1 =>
 ifV v4n1 (
  optK (bin2 Tryd.prog .leq 3 a0 (Value.int .i64 1099511627776)) fun v7n2 =>
  outK [v7n2]) (
  outK [(Value.bool false)])
theorem sh_freq_may (lf d : Nat) (a0 : Value) : evCall2 Tryd.prog gt lf (d + 1) 61 #[a0] = inside (b_freq_may lf d a0) := by kernel_rfl

noncomputable def lpA_lens_treesOf (lf d fu : Nat) (k : Ex → Fr → M Value) (x0 x1 x2 x3 x12 x13 : Value) : M Value := loopK (fun s1 k1 => codeK Tryd.prog (evCall2 Tryd.prog gt lf d) (gt 63) lf (codeAt (bodyOf Tryd.prog 63) [true, true, false, true, false, false]) s1 k1) [0, 1, 2, 3, 12, 13] fu [(0, x0), (1, x1), (2, x2), (3, x3), (12, x12), (13, x13)] k
noncomputable def kcA_lens_treesOf (lf d : Nat) : Ex → Fr → M Value := contAt Tryd.prog (evCall2 Tryd.prog gt lf d) (gt 63) lf (bodyOf Tryd.prog 63) [true, true, false, true, false] (endK Tryd.prog (resOf Tryd.prog 63))
noncomputable def lpA_slices_IndexFunc_int_int (lf d fu : Nat) (k : Ex → Fr → M Value) (x0 x1 x4 x7 x8 : Value) : M Value := loopK (fun s1 k1 => codeK Tryd.prog (evCall2 Tryd.prog gt lf d) (gt 68) lf (codeAt (bodyOf Tryd.prog 68) [true, false, true, false, false]) s1 k1) [0, 1, 4, 7, 8] fu [(0, x0), (1, x1), (4, x4), (7, x7), (8, x8)] k
noncomputable def kcA_slices_IndexFunc_int_int (lf d : Nat) : Ex → Fr → M Value := contAt Tryd.prog (evCall2 Tryd.prog gt lf d) (gt 68) lf (bodyOf Tryd.prog 68) [true, false, true, false] (endK Tryd.prog (resOf Tryd.prog 68))
noncomputable def b_slices_IndexFunc_int_int (lf d : Nat) (a0 a1 : Value) : M Value :=
 optK (len2 Tryd.prog #[22] [a0]) fun v7n1 =>
 lpA_slices_IndexFunc_int_int lf d lf (kcA_slices_IndexFunc_int_int lf d) a0 a1 (Value.int .i64 0) v7n1 (Value.int .i64 0)
theorem sh_slices_IndexFunc_int_int (lf d : Nat) (a0 a1 : Value) : evCall2 Tryd.prog gt lf (d + 1) 68 #[a0, a1] = inside (b_slices_IndexFunc_int_int lf d a0 a1) := by kernel_rfl
theorem succA_slices_IndexFunc_int_int (lf d fu : Nat) (k : Ex → Fr → M Value) (x0 x1 x4 x7 x8 : Value) : lpA_slices_IndexFunc_int_int lf d (fu + 1) k x0 x1 x4 x7 x8 =
 optK (bin2 Tryd.prog .lss 3 x8 x7) fun v9n2 =>
 ifV v9n2 (
  optK (evIndexAddr Tryd.prog 22 x0 x8) fun v14n3 =>
  (inside (evLoad Tryd.prog 3 v14n3)).bind fun v15n4 =>
  callV Tryd.prog (evCall2 Tryd.prog gt lf d) x1 [v15n4] fun v16n5 =>
  ifV v16n5 (
   k Ex.ret [(0, x0), (1, x1), (4, x8), (5, x8), (7, x7), (8, x8), (9, v9n2), (16, v16n5)]) (
   optK (bin2 Tryd.prog .add 3 x8 (Value.int .i64 1)) fun v18n6 =>
   lpA_slices_IndexFunc_int_int lf d fu k x0 x1 x4 x7 v18n6)) (
  k (Ex.exit 0) [(0, x0), (1, x1), (4, x4), (7, x7), (8, x8), (9, v9n2)]) := by kernel_rfl
theorem kcAa_slices_IndexFunc_int_int (lf d : Nat) (y0 y1 y4 y5 y7 y8 y9 y16 : Value) : kcA_slices_IndexFunc_int_int lf d Ex.ret [(0, y0), (1, y1), (4, y4), (5, y5), (7, y7), (8, y8), (9, y9), (16, y16)] =
 outK [y4] := by kernel_rfl
theorem kcAb_slices_IndexFunc_int_int (lf d : Nat) (y0 y1 y4 y7 y8 y9 : Value) : kcA_slices_IndexFunc_int_int lf d (Ex.exit 0) [(0, y0), (1, y1), (4, y4), (7, y7), (8, y8), (9, y9)] =
 outK [(Value.int .i64 (-1))] := by kernel_rfl

noncomputable def b_lens_treesOf_1 (lf d : Nat) (a0 a1 a2 : Value) : M Value :=
 (inside (evLoad Tryd.prog 22 a2)).bind fun v6n1 =>
 optK (evIndexAddr Tryd.prog 22 v6n1 a0) fun v8n2 =>
 (inside (evLoad Tryd.prog 3 v8n2)).bind fun v9n3 =>
 (inside (evLoad Tryd.prog 22 a2)).bind fun v10n4 =>
 optK (evIndexAddr Tryd.prog 22 v10n4 a1) fun v12n5 =>
 (inside (evLoad Tryd.prog 3 v12n5)).bind fun v13n6 =>
 (inside (evCall2 Tryd.prog gt lf d 71 #[v9n3, v13n6])).bind fun v14n7 =>
 outK [v14n7]
theorem sh_lens_treesOf_1 (lf d : Nat) (a0 a1 a2 : Value) : evCall2 Tryd.prog gt lf (d + 1) 70 #[a0, a1, a2] = inside (b_lens_treesOf_1 lf d a0 a1 a2) := by kernel_rfl

noncomputable def b_cmp_Compare_int (lf d : Nat) (a0 a1 : Value) : M Value :=
 (inside (evCall2 Tryd.prog gt lf d 74 #[a0])).bind fun v8n1 =>
 (inside (evCall2 Tryd.prog gt lf d 74 #[a1])).bind fun v10n2 =>
 ifV v8n1 (
  ifV v10n2 (
   outK [(Value.int .i64 0)]) (
   outK [(Value.int .i64 (-1))])) (
  ifV v10n2 (
   outK [(Value.int .i64 1)]) (
   optK (bin2 Tryd.prog .lss 3 a0 a1) fun v16n3 =>
   ifV v16n3 (
    outK [(Value.int .i64 (-1))]) (
    optK (bin2 Tryd.prog .gtr 3 a0 a1) fun v19n4 =>
    ifV v19n4 (
     outK [(Value.int .i64 1)]) (
     outK [(Value.int .i64 0)]))))
theorem sh_cmp_Compare_int (lf d : Nat) (a0 a1 : Value) : evCall2 Tryd.prog gt lf (d + 1) 71 #[a0, a1] = inside (b_cmp_Compare_int lf d a0 a1) := by kernel_rfl

noncomputable def lpA_slices_stableCmpFunc_int (lf d fu : Nat) (k : Ex → Fr → M Value) (x0 x1 x2 x6 x7 x8 : Value) : M Value := loopK (fun s1 k1 => codeK Tryd.prog (evCall2 Tryd.prog gt lf d) (gt 73) lf (codeAt (bodyOf Tryd.prog 73) [true, true, false, false, false]) s1 k1) [0, 1, 2, 6, 7, 8] fu [(0, x0), (1, x1), (2, x2), (6, x6), (7, x7), (8, x8)] k
noncomputable def kcA_slices_stableCmpFunc_int (lf d : Nat) : Ex → Fr → M Value := contAt Tryd.prog (evCall2 Tryd.prog gt lf d) (gt 73) lf (bodyOf Tryd.prog 73) [true, true, false, false] (endK Tryd.prog (resOf Tryd.prog 73))
noncomputable def lpB_slices_stableCmpFunc_int (lf d fu : Nat) (k : Ex → Fr → M Value) (x0 x1 x2 x6 x7 x8 x13 : Value) : M Value := loopK (fun s1 k1 => codeK Tryd.prog (evCall2 Tryd.prog gt lf d) (gt 73) lf (codeAt (bodyOf Tryd.prog 73) [true, true, true, true, false, false]) s1 k1) [0, 1, 2, 6, 7, 8, 13] fu [(0, x0), (1, x1), (2, x2), (6, x6), (7, x7), (8, x8), (13, x13)] k
noncomputable def kcB_slices_stableCmpFunc_int (lf d : Nat) : Ex → Fr → M Value := contAt Tryd.prog (evCall2 Tryd.prog gt lf d) (gt 73) lf (bodyOf Tryd.prog 73) [true, true, true, true, false] (endK Tryd.prog (resOf Tryd.prog 73))
noncomputable def lpC_slices_stableCmpFunc_int (lf d fu : Nat) (k : Ex → Fr → M Value) (x0 x1 x2 x6 x7 x8 x13 x30 : Value) : M Value := loopK (fun s1 k1 => codeK Tryd.prog (evCall2 Tryd.prog gt lf d) (gt 73) lf (codeAt (bodyOf Tryd.prog 73) [true, true, true, true, false, false, true, false, true, false, false, false]) s1 k1) [0, 1, 2, 6, 7, 8, 13, 30] fu [(0, x0), (1, x1), (2, x2), (6, x6), (7, x7), (8, x8), (13, x13), (30, x30)] k
noncomputable def kcC_slices_stableCmpFunc_int (lf d fu : Nat) (k : Ex → Fr → M Value) : Ex → Fr → M Value := contAt Tryd.prog (evCall2 Tryd.prog gt lf d) (gt 73) lf (codeAt (bodyOf Tryd.prog 73) [true, true, true, true, false, false]) [true, false, true, false, false] (againK (fun s1 => loopK (fun s1 k1 => codeK Tryd.prog (evCall2 Tryd.prog gt lf d) (gt 73) lf (codeAt (bodyOf Tryd.prog 73) [true, true, true, true, false, false]) s1 k1) [0, 1, 2, 6, 7, 8, 13] fu (s1.keep [0, 1, 2, 6, 7, 8, 13]) k) k)
noncomputable def b_cmp_isNaN_int (lf d : Nat) (a0 : Value) : M Value :=
 optK (bin2 Tryd.prog .neq 3 a0 a0) fun v5n1 =>
 outK [v5n1]
theorem sh_cmp_isNaN_int (lf d : Nat) (a0 : Value) : evCall2 Tryd.prog gt lf (d + 1) 74 #[a0] = inside (b_cmp_isNaN_int lf d a0) := by kernel_rfl

noncomputable def lpA_slices_insertionSortCmpFunc_int (lf d fu : Nat) (k : Ex → Fr → M Value) (x0 x1 x2 x3 x8 : Value) : M Value := loopK (fun s1 k1 => codeK Tryd.prog (evCall2 Tryd.prog gt lf d) (gt 75) lf (codeAt (bodyOf Tryd.prog 75) [true, false, false]) s1 k1) [0, 1, 2, 3, 8] fu [(0, x0), (1, x1), (2, x2), (3, x3), (8, x8)] k
noncomputable def kcA_slices_insertionSortCmpFunc_int (lf d : Nat) : Ex → Fr → M Value := contAt Tryd.prog (evCall2 Tryd.prog gt lf d) (gt 75) lf (bodyOf Tryd.prog 75) [true, false] (endK Tryd.prog (resOf Tryd.prog 75))
noncomputable def lpB_slices_insertionSortCmpFunc_int (lf d fu : Nat) (k : Ex → Fr → M Value) (x0 x1 x2 x3 x8 x9 x14 : Value) : M Value := loopK (fun s1 k1 => codeK Tryd.prog (evCall2 Tryd.prog gt lf d) (gt 75) lf (codeAt (bodyOf Tryd.prog 75) [true, false, false, true, false, false, true, false, false]) s1 k1) [0, 1, 2, 3, 8, 9, 14] fu [(0, x0), (1, x1), (2, x2), (3, x3), (8, x8), (9, x9), (14, x14)] k
noncomputable def kcB_slices_insertionSortCmpFunc_int (lf d fu : Nat) (k : Ex → Fr → M Value) : Ex → Fr → M Value := contAt Tryd.prog (evCall2 Tryd.prog gt lf d) (gt 75) lf (codeAt (bodyOf Tryd.prog 75) [true, false, false]) [true, false, false, true, false] (againK (fun s1 => loopK (fun s1 k1 => codeK Tryd.prog (evCall2 Tryd.prog gt lf d) (gt 75) lf (codeAt (bodyOf Tryd.prog 75) [true, false, false]) s1 k1) [0, 1, 2, 3, 8] fu (s1.keep [0, 1, 2, 3, 8]) k) k)
theorem succB_slices_insertionSortCmpFunc_int (lf d fu : Nat) (k : Ex → Fr → M Value) (x0 x1 x2 x3 x8 x9 x14 : Value) : lpB_slices_insertionSortCmpFunc_int lf d (fu + 1) k x0 x1 x2 x3 x8 x9 x14 =
 optK (bin2 Tryd.prog .gtr 3 x9 x1) fun v20n3 =>
 ifV v20n3 (
  optK (evIndexAddr Tryd.prog 22 x0 x9) fun v25n4 =>
  (inside (evLoad Tryd.prog 3 v25n4)).bind fun v26n5 =>
  optK (bin2 Tryd.prog .sub 3 x9 (Value.int .i64 1)) fun v29n6 =>
  optK (evIndexAddr Tryd.prog 22 x0 v29n6) fun v30n7 =>
  (inside (evLoad Tryd.prog 3 v30n7)).bind fun v31n8 =>
  callV Tryd.prog (evCall2 Tryd.prog gt lf d) x3 [v26n5, v31n8] fun v32n9 =>
  optK (bin2 Tryd.prog .lss 3 v32n9 (Value.int .i64 0)) fun v33n10 =>
  ifV v33n10 (
   optK (bin2 Tryd.prog .sub 3 x9 (Value.int .i64 1)) fun v41n11 =>
   optK (bin2 Tryd.prog .sub 3 x9 (Value.int .i64 1)) fun v44n12 =>
   optK (evIndexAddr Tryd.prog 22 x0 v44n12) fun v45n13 =>
   (inside (evLoad Tryd.prog 3 v45n13)).bind fun v46n14 =>
   optK (evIndexAddr Tryd.prog 22 x0 x9) fun v49n15 =>
   (inside (evLoad Tryd.prog 3 v49n15)).bind fun v50n16 =>
   optK (evIndexAddr Tryd.prog 22 x0 x9) fun v51n17 =>
   (inside (evStore Tryd.prog 3 v51n17 v46n14)).bind fun u18 =>
   optK (evIndexAddr Tryd.prog 22 x0 v41n11) fun v52n19 =>
   (inside (evStore Tryd.prog 3 v52n19 v50n16)).bind fun u20 =>
   optK (bin2 Tryd.prog .sub 3 x9 (Value.int .i64 1)) fun v36n21 =>
   lpB_slices_insertionSortCmpFunc_int lf d fu k x0 x1 x2 x3 x8 v36n21 x14) (
   k (Ex.exit 2) [(0, x0), (1, x1), (2, x2), (3, x3), (8, x8), (9, x9), (14, x14), (34, v33n10)])) (
  k (Ex.exit 2) [(0, x0), (1, x1), (2, x2), (3, x3), (8, x8), (9, x9), (14, x14), (34, (Value.bool false))]) := by kernel_rfl
noncomputable def lpA_slices_symMergeCmpFunc_int (lf d fu : Nat) (k : Ex → Fr → M Value) (x0 x1 x2 x3 x4 x10 x11 x28 : Value) : M Value := loopK (fun s1 k1 => codeK Tryd.prog (evCall2 Tryd.prog gt lf d) (gt 76) lf (codeAt (bodyOf Tryd.prog 76) [false, true, false, true, true, false, false, false]) s1 k1) [0, 1, 2, 3, 4, 10, 11, 28] fu [(0, x0), (1, x1), (2, x2), (3, x3), (4, x4), (10, x10), (11, x11), (28, x28)] k
noncomputable def kcA_slices_symMergeCmpFunc_int (lf d : Nat) : Ex → Fr → M Value := contAt Tryd.prog (evCall2 Tryd.prog gt lf d) (gt 76) lf (bodyOf Tryd.prog 76) [false, true, false, true, true, false, false] (endK Tryd.prog (resOf Tryd.prog 76))
noncomputable def lpB_slices_symMergeCmpFunc_int (lf d fu : Nat) (k : Ex → Fr → M Value) (x0 x1 x2 x3 x4 x14 x15 x28 x80 : Value) : M Value := loopK (fun s1 k1 => codeK Tryd.prog (evCall2 Tryd.prog gt lf d) (gt 76) lf (codeAt (bodyOf Tryd.prog 76) [true, false, true, false, true, true, false, false, false]) s1 k1) [0, 1, 2, 3, 4, 14, 15, 28, 80] fu [(0, x0), (1, x1), (2, x2), (3, x3), (4, x4), (14, x14), (15, x15), (28, x28), (80, x80)] k
noncomputable def kcB_slices_symMergeCmpFunc_int (lf d : Nat) : Ex → Fr → M Value := contAt Tryd.prog (evCall2 Tryd.prog gt lf d) (gt 76) lf (bodyOf Tryd.prog 76) [true, false, true, false, true, true, false, false] (endK Tryd.prog (resOf Tryd.prog 76))
noncomputable def lpC_slices_symMergeCmpFunc_int (lf d fu : Nat) (k : Ex → Fr → M Value) (x0 x1 x2 x3 x4 x18 x19 x20 x21 x22 x28 x80 x140 : Value) : M Value := loopK (fun s1 k1 => codeK Tryd.prog (evCall2 Tryd.prog gt lf d) (gt 76) lf (codeAt (bodyOf Tryd.prog 76) [true, true, true, true, true, true, true, false, false, false]) s1 k1) [0, 1, 2, 3, 4, 18, 19, 20, 21, 22, 28, 80, 140] fu [(0, x0), (1, x1), (2, x2), (3, x3), (4, x4), (18, x18), (19, x19), (20, x20), (21, x21), (22, x22), (28, x28), (80, x80), (140, x140)] k
noncomputable def kcC_slices_symMergeCmpFunc_int (lf d : Nat) : Ex → Fr → M Value := contAt Tryd.prog (evCall2 Tryd.prog gt lf d) (gt 76) lf (bodyOf Tryd.prog 76) [true, true, true, true, true, true, true, false, false] (endK Tryd.prog (resOf Tryd.prog 76))
noncomputable def lpD_slices_symMergeCmpFunc_int (lf d fu : Nat) (k : Ex → Fr → M Value) (x0 x1 x2 x3 x4 x10 x11 x13 x28 x33 : Value) : M Value := loopK (fun s1 k1 => codeK Tryd.prog (evCall2 Tryd.prog gt lf d) (gt 76) lf (codeAt (bodyOf Tryd.prog 76) [false, true, false, true, true, true, false, true, false, false]) s1 k1) [0, 1, 2, 3, 4, 10, 11, 13, 28, 33] fu [(0, x0), (1, x1), (2, x2), (3, x3), (4, x4), (10, x10), (11, x11), (13, x13), (28, x28), (33, x33)] k
noncomputable def kcD_slices_symMergeCmpFunc_int (lf d : Nat) : Ex → Fr → M Value := contAt Tryd.prog (evCall2 Tryd.prog gt lf d) (gt 76) lf (bodyOf Tryd.prog 76) [false, true, false, true, true, true, false, true, false] (endK Tryd.prog (resOf Tryd.prog 76))
noncomputable def lpE_slices_symMergeCmpFunc_int (lf d fu : Nat) (k : Ex → Fr → M Value) (x0 x1 x2 x3 x4 x14 x15 x17 x28 x80 x85 : Value) : M Value := loopK (fun s1 k1 => codeK Tryd.prog (evCall2 Tryd.prog gt lf d) (gt 76) lf (codeAt (bodyOf Tryd.prog 76) [true, false, true, false, true, true, true, false, true, false, false]) s1 k1) [0, 1, 2, 3, 4, 14, 15, 17, 28, 80, 85] fu [(0, x0), (1, x1), (2, x2), (3, x3), (4, x4), (14, x14), (15, x15), (17, x17), (28, x28), (80, x80), (85, x85)] k
noncomputable def kcE_slices_symMergeCmpFunc_int (lf d : Nat) : Ex → Fr → M Value := contAt Tryd.prog (evCall2 Tryd.prog gt lf d) (gt 76) lf (bodyOf Tryd.prog 76) [true, false, true, false, true, true, true, false, true, false] (endK Tryd.prog (resOf Tryd.prog 76))
noncomputable def lpA_slices_rotateCmpFunc_int (lf d fu : Nat) (k : Ex → Fr → M Value) (x0 x1 x2 x3 x4 x10 x11 : Value) : M Value := loopK (fun s1 k1 => codeK Tryd.prog (evCall2 Tryd.prog gt lf d) (gt 77) lf (codeAt (bodyOf Tryd.prog 77) [true, true, false, false, false]) s1 k1) [0, 1, 2, 3, 4, 10, 11] fu [(0, x0), (1, x1), (2, x2), (3, x3), (4, x4), (10, x10), (11, x11)] k
noncomputable def kcA_slices_rotateCmpFunc_int (lf d : Nat) : Ex → Fr → M Value := contAt Tryd.prog (evCall2 Tryd.prog gt lf d) (gt 77) lf (bodyOf Tryd.prog 77) [true, true, false, false] (endK Tryd.prog (resOf Tryd.prog 77))
noncomputable def lpA_slices_swapRangeCmpFunc_int (lf d fu : Nat) (k : Ex → Fr → M Value) (x0 x1 x2 x3 x10 : Value) : M Value := loopK (fun s1 k1 => codeK Tryd.prog (evCall2 Tryd.prog gt lf d) (gt 78) lf (codeAt (bodyOf Tryd.prog 78) [true, false, false]) s1 k1) [0, 1, 2, 3, 10] fu [(0, x0), (1, x1), (2, x2), (3, x3), (10, x10)] k
noncomputable def kcA_slices_swapRangeCmpFunc_int (lf d : Nat) : Ex → Fr → M Value := contAt Tryd.prog (evCall2 Tryd.prog gt lf d) (gt 78) lf (bodyOf Tryd.prog 78) [true, false] (endK Tryd.prog (resOf Tryd.prog 78))
end Go.Proofs.YtdagfcflbphoiaaDoor
/- Trees that are joined two by two, in plain Lean: the two rows of the package (leaves in order, joined ones in order). No program in sight. -/
namespace Go.Proofs.YtdagfcflbphoiaaDoor.Hu
set_option linter.unusedVariables false
set_option linter.unusedSimpArgs false

structure HT where
  weight : List Int
  into : List Int
  leaves : List Nat
  joined : Nat

def wAt (t : HT) (i : Nat) : Int := t.weight.getD i 0
/-- is the least tree a leaf? -/
def isLeaf (t : HT) : Bool := t.joined == t.weight.length || (decide (0 < t.leaves.length) && decide (wAt t (t.leaves.getD 0 0) ≤ wAt t t.joined))
def leastOf (t : HT) : Nat := if isLeaf t then t.leaves.getD 0 0 else t.joined
def taken (t : HT) : HT := if isLeaf t then { t with leaves := t.leaves.tail } else { t with joined := t.joined + 1 }
def joinH (t : HT) (a b : Nat) : HT := { t with weight := t.weight ++ [wAt t a + wAt t b], into := ((t.into.set a t.weight.length).set b t.weight.length) ++ [-1] }
def stepH (t : HT) : HT := joinH (taken (taken t)) (leastOf t) (leastOf (taken t))
def runH : Nat → HT → HT
  | 0, t => t
  | k + 1, t => runH k (stepH t)
theorem run_succ : ∀ (k : Nat) (t : HT), runH (k + 1) t = stepH (runH k t)
  | 0, _ => rfl
  | k + 1, t => by
    show runH (k + 1) (stepH t) = _
    rw [run_succ k (stepH t)]
    rfl

theorem getD_app_left (l r : List Int) (i : Nat) (h : i < l.length) : (l ++ r).getD i 0 = l.getD i 0 := by
  rw [List.getD_eq_getElem?_getD, List.getElem?_append_left h, List.getD_eq_getElem?_getD]
theorem getD_setI (l : List Int) (i j : Nat) (v : Int) : (l.set i v).getD j 0 = if i = j ∧ i < l.length then v else l.getD j 0 := by
  simp only [List.getD_eq_getElem?_getD, List.getElem?_set]
  by_cases h : i = j
  · subst h
    by_cases h2 : i < l.length
    · simp [h2]
    · simp [h2, List.getElem?_eq_none (show l.length ≤ i by omega)]
  · simp [h]

def sumI : List Int → Int
  | [] => 0
  | x :: xs => x + sumI xs
theorem sumI_app : ∀ a b : List Int, sumI (a ++ b) = sumI a + sumI b
  | [], b => by simp [sumI]
  | x :: a, b => by simp only [List.cons_append, sumI, sumI_app a b]; omega
theorem sumI_le : ∀ (l : List Int), (∀ x ∈ l, 0 ≤ x) → 0 ≤ sumI l ∧ ∀ x ∈ l, x ≤ sumI l
  | [], _ => ⟨Int.le_refl _, fun x h => by simp at h⟩
  | y :: l, h => by
    have ih := sumI_le l (fun x hx => h x (by simp [hx]))
    have hy := h y (by simp)
    refine ⟨by simp only [sumI]; omega, fun x hx => ?_⟩
    simp only [sumI]
    rcases List.mem_cons.1 hx with e | e
    · subst e; omega
    · have := ih.2 x e; omega

/-- the trees that wait, those that were just taken last -/
def waitH (n k : Nat) (P : List Nat) (t : HT) : List Nat := P ++ t.leaves ++ List.range' t.joined (n + k - t.joined)
/-- what is kept while trees are joined: of n symbols, of which k were joined; P were taken and are not joined yet; S is the weight of all -/
structure OkH (n k : Nat) (P : List Nat) (S : Int) (t : HT) : Prop where
  wl : t.weight.length = n + k
  il : t.into.length = n + k
  leaf : ∀ i ∈ t.leaves, i < n
  pl : ∀ i ∈ P, i < n + k
  jl : n ≤ t.joined
  jh : t.joined ≤ n + k
  left : t.leaves.length + (n + k - t.joined) + k + P.length = n
  pos : ∀ i, i < n + k → 0 ≤ wAt t i ∧ wAt t i ≤ S
  sum : sumI ((waitH n k P t).map (wAt t)) = S
  /-- whatever waits no more was joined into a later one -/
  into : ∀ i, i < n + k → i ∉ t.leaves → i < t.joined → i ∉ P → (i : Int) < t.into.getD i 0 ∧ t.into.getD i 0 < ((n + k : Nat) : Int)

theorem isLeaf_true {n k : Nat} {P : List Nat} {S : Int} {t : HT} (h : OkH n k P S t) (h1 : 1 ≤ t.leaves.length + (n + k - t.joined)) (hl : isLeaf t = true) : ∃ r, t.leaves = leastOf t :: r ∧ taken t = { t with leaves := r } ∧ leastOf t < n := by
  have hne : t.leaves ≠ [] := by
    intro e
    unfold isLeaf at hl
    rw [e] at hl
    simp at hl
    have := h.wl
    rw [e] at h1
    simp at h1
    omega
  obtain ⟨i, r, e⟩ := List.exists_cons_of_ne_nil hne
  have e2 : leastOf t = i := by unfold leastOf; rw [if_pos hl, e]; rfl
  refine ⟨r, by rw [e2]; exact e, by unfold taken; rw [if_pos hl, e]; rfl, ?_⟩
  rw [e2]
  exact h.leaf i (by rw [e]; simp)
theorem isLeaf_false {n k : Nat} {P : List Nat} {S : Int} {t : HT} (h : OkH n k P S t) (hl : isLeaf t = false) : leastOf t = t.joined ∧ t.joined < n + k ∧ taken t = { t with joined := t.joined + 1 } := by
  refine ⟨by unfold leastOf; rw [hl]; rfl, ?_, by unfold taken; rw [hl]; rfl⟩
  unfold isLeaf at hl
  rw [Bool.or_eq_false_iff, beq_eq_false_iff_ne] at hl
  have := h.wl
  have := h.jh
  omega
theorem OkH.take {n k : Nat} {P : List Nat} {S : Int} {t : HT} (h : OkH n k P S t) (h1 : 1 ≤ t.leaves.length + (n + k - t.joined)) : OkH n k (P ++ [leastOf t]) S (taken t) ∧ leastOf t < n + k := by
  cases hl : isLeaf t with
  | true =>
    obtain ⟨r, e1, e2, e3⟩ := isLeaf_true h h1 hl
    generalize leastOf t = a at *
    rw [e2]
    have hleft := h.left
    rw [e1] at hleft
    simp only [List.length_cons] at hleft
    refine ⟨⟨h.wl, h.il, fun i hi => h.leaf i (by rw [e1]; simp [hi]), fun i hi => ?_, h.jl, h.jh, by simp only [List.length_append, List.length_cons, List.length_nil]; omega, h.pos, ?_, fun i hi h2 h3 h4 => ?_⟩, by omega⟩
    · rcases List.mem_append.1 hi with h2 | h2
      · exact h.pl i h2
      · simp at h2; omega
    · have := h.sum
      unfold waitH at this ⊢
      rw [e1] at this
      simp only [List.map_append, List.map_cons, List.map_nil, sumI_app, sumI] at this ⊢
      show sumI (P.map (wAt t)) + _ + _ + _ = S
      have e9 : wAt { t with leaves := r } = wAt t := rfl
      rw [e9]
      omega
    · refine h.into i hi (fun hm => ?_) h3 (fun hp => h4 (by simp [hp]))
      rw [e1] at hm
      rcases List.mem_cons.1 hm with e | e
      · exact h4 (by simp [e])
      · exact h2 e
  | false =>
    obtain ⟨e1, e2, e3⟩ := isLeaf_false h hl
    rw [e3, e1]
    have hleft := h.left
    refine ⟨⟨h.wl, h.il, h.leaf, fun i hi => ?_, Nat.le_succ_of_le h.jl, e2, by simp only [List.length_append, List.length_cons, List.length_nil]; omega, h.pos, ?_, fun i hi h2 h3 h4 => ?_⟩, e2⟩
    · rcases List.mem_append.1 hi with h2 | h2
      · exact h.pl i h2
      · simp at h2; omega
    · have := h.sum
      unfold waitH at this ⊢
      obtain ⟨d, hd⟩ : ∃ d, n + k - t.joined = d + 1 := ⟨n + k - t.joined - 1, by omega⟩
      rw [hd, List.range'_succ] at this
      show sumI (List.map _ (P ++ [t.joined] ++ t.leaves ++ List.range' (t.joined + 1) (n + k - (t.joined + 1)))) = S
      rw [show n + k - (t.joined + 1) = d by omega]
      simp only [List.map_append, List.map_cons, List.map_nil, sumI_app, sumI] at this ⊢
      have e9 : wAt { t with joined := t.joined + 1 } = wAt t := rfl
      rw [e9]
      omega
    · have h3 : i < t.joined + 1 := h3
      refine h.into i hi h2 ?_ (fun hp => h4 (by simp [hp]))
      have : i ≠ t.joined := fun e => h4 (by simp [e])
      omega
theorem OkH.join {n k a b : Nat} {S : Int} {t : HT} (h : OkH n k [a, b] S t) : OkH n (k + 1) [] S (joinH t a b) := by
  have ha := h.pl a (by simp)
  have hb := h.pl b (by simp)
  have hleft := h.left
  have hjh := h.jh
  have hjl := h.jl
  have hsum := h.sum
  simp only [List.length_cons, List.length_nil] at hleft
  have hlt : ∀ i, i < n + k → wAt (joinH t a b) i = wAt t i := fun i hi => getD_app_left _ _ _ (by rw [h.wl]; exact hi)
  have hnew : wAt (joinH t a b) (n + k) = wAt t a + wAt t b := by
    unfold wAt joinH
    rw [List.getD_eq_getElem?_getD, List.getElem?_append_right (by rw [h.wl]; exact Nat.le_refl _), h.wl, Nat.sub_self]
    rfl
  have hmap : ∀ l : List Nat, (∀ i ∈ l, i < n + k) → l.map (wAt (joinH t a b)) = l.map (wAt t) := fun l hl => List.map_congr_left fun i hi => hlt i (hl i hi)
  have hr : ∀ i ∈ List.range' t.joined (n + k - t.joined), i < n + k := fun i hi => by rw [List.mem_range'_1] at hi; omega
  have hpos0 : ∀ i ∈ waitH n k [a, b] t, i < n + k := by
    intro i hi
    unfold waitH at hi
    rcases List.mem_append.1 hi with h2 | h2
    · rcases List.mem_append.1 h2 with h3 | h3
      · exact h.pl i h3
      · have := h.leaf i h3; omega
    · exact hr i h2
  have hsl := sumI_le ((waitH n k [a, b] t).map (wAt t)) (fun x hx => by
    rw [List.mem_map] at hx
    obtain ⟨i, hi, rfl⟩ := hx
    exact (h.pos i (hpos0 i hi)).1)
  rw [hsum] at hsl
  have hab : wAt t a + wAt t b ≤ S := by
    have h2 := sumI_le ((t.leaves ++ List.range' t.joined (n + k - t.joined)).map (wAt t)) (fun x hx => by
      rw [List.mem_map] at hx
      obtain ⟨i, hi, rfl⟩ := hx
      refine (h.pos i ?_).1
      rcases List.mem_append.1 hi with h3 | h3
      · have := h.leaf i h3; omega
      · exact hr i h3)
    have h3 := hsum
    unfold waitH at h3
    simp only [List.map_append, List.map_cons, List.map_nil, sumI_app, sumI] at h3 h2
    omega
  refine ⟨by simp [joinH, h.wl]; omega, by simp [joinH, h.il]; omega, h.leaf, fun i hi => by simp at hi, hjl, by show t.joined ≤ _; omega, by show t.leaves.length + (n + (k + 1) - t.joined) + (k + 1) + 0 = n; omega, fun i hi => ?_, ?_, fun i hi h2 h3 _ => ?_⟩
  · by_cases e : i < n + k
    · rw [hlt i e]; exact h.pos i e
    · obtain rfl : i = n + k := by omega
      rw [hnew]
      have := (h.pos a ha).1
      have := (h.pos b hb).1
      omega
  · unfold waitH at hsum ⊢
    show sumI (List.map _ ([] ++ t.leaves ++ List.range' t.joined (n + (k + 1) - t.joined))) = S
    rw [show n + (k + 1) - t.joined = (n + k - t.joined) + 1 by omega, List.range'_concat]
    simp only [List.nil_append, List.map_append, List.map_cons, List.map_nil, sumI_app, sumI] at hsum ⊢
    rw [hmap t.leaves (fun i hi => by have := h.leaf i hi; omega), hmap _ hr]
    rw [show t.joined + 1 * (n + k - t.joined) = n + k by omega, hnew]
    omega
  · have h3 : i < t.joined := h3
    have hil := h.il
    have e1 : (joinH t a b).into.getD i 0 = if i = a ∨ i = b then ((n + k : Nat) : Int) else t.into.getD i 0 := by
      unfold joinH
      rw [getD_app_left _ _ _ (by simp; omega), getD_setI, List.length_set, getD_setI, h.wl]
      by_cases eb : b = i
      · subst eb; rw [if_pos ⟨rfl, by omega⟩, if_pos (.inr rfl)]
      · rw [if_neg (fun e => eb e.1)]
        by_cases ea : a = i
        · subst ea; rw [if_pos ⟨rfl, by omega⟩, if_pos (.inl rfl)]
        · rw [if_neg (fun e => ea e.1), if_neg (fun e => by rcases e with e | e; exact ea e.symm; exact eb e.symm)]
    rw [e1]
    split
    · omega
    · rename_i hn
      have := h.into i (by omega) h2 h3 (fun e => by simp at e; exact hn e)
      omega

end Go.Proofs.YtdagfcflbphoiaaDoor.Hu
/- The trees of the lens package, by the second form: how they lie; the least one. -/
namespace Go.Proofs.YtdagfcflbphoiaaDoor
set_option linter.unusedVariables false
set_option linter.unusedSimpArgs false
open Go.RowKit Ev Hu

theorem wrap_succ {x : Nat} (h : x < 9223372036854775807) : IntKind.i64.wrap ((x : Int) + 1) = ((x + 1 : Nat) : Int) := by rw [wrap_id (by omega) (by omega)]; rfl
theorem wrap_pred {x : Nat} (h : x < 9223372036854775807) : IntKind.i64.wrap (((x + 1 : Nat) : Int) - 1) = ((x : Nat) : Int) := by rw [wrap_id (by omega) (by omega)]; omega
def ints (xs : List Int) : List Value := xs.map (Value.int .i64)
def nats (xs : List Nat) : List Value := xs.map fun (x : Nat) => Value.int .i64 x
structure TreesAt (h : H) (n g : Nat) (t : HT) (bw bi bl off cl : Nat) (cs : List Value) : Prop where
  hg : h.get g = some ⟨72, true, [.slice (some ⟨bw, 0, none⟩) t.weight.length (CAP + t.weight.length), .slice (some ⟨bi, 0, none⟩) t.into.length (CAP + t.into.length), .slice (some ⟨bl, off, none⟩) t.leaves.length cl, .int .i64 (t.joined : Nat)]⟩
  hw : h.get bw = some ⟨3, true, ints t.weight⟩
  hi : h.get bi = some ⟨3, true, ints t.into⟩
  hl : h.get bl = some ⟨3, true, cs⟩
  hlen : off + t.leaves.length ≤ cs.length
  hcs : (cs.drop off).take t.leaves.length = nats t.leaves
  hcl : t.leaves.length ≤ cl
  d : g ≠ bw ∧ g ≠ bi ∧ g ≠ bl ∧ bw ≠ bi ∧ bw ≠ bl ∧ bi ≠ bl ∧ g < n ∧ bw < n ∧ bi < n ∧ bl < n

theorem TreesAt.leaf {h : H} {n g : Nat} {t : HT} {bw bi bl off cl : Nat} {cs : List Value} (hT : TreesAt h n g t bw bi bl off cl cs) (hil : isLeaf t = true) (h0 : 0 < t.leaves.length) {off' : Nat} (ho : off' = off + 1 ∨ t.leaves.length = 1 ∧ off' = off) {x : H}
    (hx : x = h.set g (some ⟨72, true, [.slice (some ⟨bw, 0, none⟩) t.weight.length (CAP + t.weight.length), .slice (some ⟨bi, 0, none⟩) t.into.length (CAP + t.into.length), .slice (some ⟨bl, off', none⟩) (t.leaves.length - 1) (cl - 1), .int .i64 (t.joined : Nat)]⟩)) : TreesAt x n g (taken t) bw bi bl off' (cl - 1) cs := by
  obtain ⟨hg, hbw, hbi, hbl, hlen, hcs, hcl, hd⟩ := hT
  subst hx
  have e : taken t = { t with leaves := t.leaves.tail } := by unfold taken; rw [if_pos hil]
  rw [e]
  refine ⟨?_, ?_, ?_, ?_, ?_, ?_, ?_, hd⟩
  · rw [get_eq]; simp
  · rw [get_ne _ _ (by omega)]; exact hbw
  · rw [get_ne _ _ (by omega)]; exact hbi
  · rw [get_ne _ _ (by omega)]; exact hbl
  · simp only [List.length_tail]; omega
  · simp only [List.length_tail]
    rcases ho with ho | ⟨ho, _⟩
    · subst ho
      have := congrArg List.tail hcs
      unfold nats at this ⊢
      rw [← List.map_tail] at this
      rw [← this, ← List.drop_one, List.drop_take, List.drop_drop]
    · have : t.leaves.tail = [] := by rw [← List.length_eq_zero_iff, List.length_tail]; omega
      rw [this, ho]
      simp [nats]
  · simp only [List.length_tail]; omega
theorem TreesAt.joined {h : H} {n g : Nat} {t : HT} {bw bi bl off cl : Nat} {cs : List Value} (hT : TreesAt h n g t bw bi bl off cl cs) (hil : isLeaf t = false) {x : H}
    (hx : x = h.set g (some ⟨72, true, [.slice (some ⟨bw, 0, none⟩) t.weight.length (CAP + t.weight.length), .slice (some ⟨bi, 0, none⟩) t.into.length (CAP + t.into.length), .slice (some ⟨bl, off, none⟩) t.leaves.length cl, .int .i64 ((t.joined + 1 : Nat) : Int)]⟩)) : TreesAt x n g (taken t) bw bi bl off cl cs := by
  obtain ⟨hg, hbw, hbi, hbl, hlen, hcs, hcl, hd⟩ := hT
  subst hx
  have e : taken t = { t with joined := t.joined + 1 } := by unfold taken; rw [hil]; rfl
  rw [e]
  refine ⟨?_, ?_, ?_, ?_, hlen, hcs, hcl, hd⟩
  · rw [get_eq]
  · rw [get_ne _ _ (by omega)]; exact hbw
  · rw [get_ne _ _ (by omega)]; exact hbi
  · rw [get_ne _ _ (by omega)]; exact hbl
end Go.Proofs.YtdagfcflbphoiaaDoor
/- Plain facts on sorted rows: insertion, merging in place, stable order. No program in sight. -/
namespace Go.Proofs.YtdagfcflbphoiaaDoor
set_option linter.unusedVariables false
set_option linter.unusedSimpArgs false
open Go.RowKit Hu

def cmp3 (x y : Int) : Int := if x < y then -1 else if y < x then 1 else 0
/-- to stand ahead: the key is less, or the keys are the same and the place is less -/
def RI (k : Nat → Int) (a b : Nat) : Prop := k a < k b ∨ k a = k b ∧ a < b
def keyW (ws : List Int) (i : Nat) : Int := ws.getD i 0
theorem getD_cons_at (pre : List Nat) (v : Nat) (post : List Nat) : (pre ++ v :: post).getD pre.length 0 = v := by
  simp [List.getD_eq_getElem?_getD]
theorem cmp3_neg (x y : Int) : decide (cmp3 x y < 0) = decide (x < y) := by
  unfold cmp3
  by_cases h : x < y
  · simp [h]
  · by_cases h2 : y < x
    · simp [h, h2]
    · simp [h, h2]
theorem getD_at (pre : List Nat) (v : Nat) (post : List Nat) (j : Nat) (hj : j = pre.length) : (pre ++ v :: post).getD j 0 = v := by subst hj; exact getD_cons_at _ _ _
theorem set_at (pre : List Nat) (v u : Nat) (post : List Nat) (j : Nat) (hj : j = pre.length) : (pre ++ v :: post).set j u = pre ++ u :: post := by
  subst hj
  rw [List.set_append_right (h := Nat.le_refl _), Nat.sub_self]; rfl
/-- every block of c is sorted, and what stands ahead of a block's start is less than what stands behind -/
def BS (k : Nat → Int) (c : Nat) (D : List Nat) : Prop := ∀ i, ((D.drop (i * c)).take c).Pairwise (RI k) ∧ ∀ x ∈ D.take (i * c), ∀ y ∈ D.drop (i * c), x < y
theorem BS.nil (k : Nat → Int) (c : Nat) : BS k c [] := fun i => ⟨by simp, fun x hx => by simp at hx⟩
theorem BS.drop {k : Nat → Int} {c : Nat} {D : List Nat} (h : BS k c D) (m : Nat) : BS k c (D.drop (m * c)) := by
  intro i
  have h1 := h (m + i)
  rw [Nat.add_mul] at h1
  rw [List.drop_drop]
  refine ⟨h1.1, fun x hx y hy => h1.2 x ?_ y hy⟩
  rw [List.take_drop] at hx
  exact List.mem_of_mem_drop hx
theorem BS.first {k : Nat → Int} {c : Nat} {D : List Nat} (h : BS k c D) : (D.take c).Pairwise (RI k) := by
  have := (h 0).1
  rw [Nat.zero_mul, List.drop_zero] at this
  exact this
theorem BS.snoc {k : Nat → Int} {c t : Nat} {U Z : List Nat} (h : BS k c U) (hl : U.length = t * c) (hz : Z.length ≤ c) (hs : Z.Pairwise (RI k)) (hc : ∀ x ∈ U, ∀ z ∈ Z, x < z) : BS k c (U ++ Z) := by
  intro i
  rcases Nat.lt_trichotomy i t with hlt | heq | hgt
  · have hi : i * c + c ≤ U.length := by
      rw [hl]
      have := Nat.mul_le_mul_right c (show i + 1 ≤ t by omega)
      rw [Nat.add_mul] at this
      omega
    have h1 := h i
    rw [List.drop_append_of_le_length (by omega), List.take_append_of_le_length (by rw [List.length_drop]; omega), List.take_append_of_le_length (by omega)]
    refine ⟨h1.1, fun x hx y hy => ?_⟩
    rcases List.mem_append.1 hy with hy | hy
    · exact h1.2 x hx y hy
    · exact hc x (List.mem_of_mem_take hx) y hy
  · subst heq
    rw [← hl, List.drop_left, List.take_left, List.take_of_length_le hz]
    exact ⟨hs, hc⟩
  · have hi : (U ++ Z).length ≤ i * c := by
      rw [List.length_append, hl]
      have := Nat.mul_le_mul_right c (show t + 1 ≤ i by omega)
      rw [Nat.add_mul] at this
      omega
    rw [List.drop_of_length_le hi]
    exact ⟨by simp, fun x hx y hy => by simp at hy⟩
theorem BS.all {k : Nat → Int} {c : Nat} {D : List Nat} (h : BS k c D) (hl : D.length ≤ c) : D.Pairwise (RI k) := by
  have := h.first
  rwa [List.take_of_length_le hl] at this

def St1 (k : Nat → Int) (xs : List Nat) (t : Nat) (U V : List Nat) : Prop := U.length = t * 20 ∧ BS k 20 U ∧ V.Pairwise (fun a b => a < b) ∧ (∀ x ∈ U, ∀ y ∈ V, x < y) ∧ (U ++ V).Perm xs
theorem St1.start (k : Nat → Int) {xs : List Nat} (h : xs.Pairwise (fun a b => a < b)) : St1 k xs 0 [] xs := ⟨by simp, BS.nil k 20, h, fun x hx => by simp at hx, List.Perm.refl _⟩
theorem perm_mid {U V Z : List Nat} {n : Nat} (p : Z.Perm (V.take n)) : (U ++ Z ++ V.drop n).Perm (U ++ V) := by
  have h := ((p.append_left U).append_right (V.drop n))
  rw [List.append_assoc U (V.take n), List.take_append_drop] at h
  exact h
theorem St1.next {k : Nat → Int} {xs U V Z : List Nat} {t : Nat} (h : St1 k xs t U V) (hV : 20 ≤ V.length) (p : Z.Perm (V.take 20)) (s : Z.Pairwise (RI k)) : St1 k xs (t + 1) (U ++ Z) (V.drop 20) := by
  obtain ⟨h1, h2, h3, h4, h5⟩ := h
  have hz : Z.length = 20 := by rw [p.length_eq, List.length_take]; omega
  have hm : ∀ z ∈ Z, z ∈ V.take 20 := fun z hz => p.mem_iff.1 hz
  have h3' : (V.take 20 ++ V.drop 20).Pairwise (fun a b => a < b) := by rw [List.take_append_drop]; exact h3
  rw [List.pairwise_append] at h3'
  refine ⟨by rw [List.length_append, h1, hz, Nat.add_mul], h2.snoc h1 (by omega) s fun x hx z hz => h4 x hx z (List.mem_of_mem_take (hm z hz)), h3'.2.1, fun x hx y hy => ?_, (perm_mid p).trans h5⟩
  rcases List.mem_append.1 hx with hx | hx
  · exact h4 x hx y (List.mem_of_mem_drop hy)
  · exact h3'.2.2 x (hm x hx) y hy
theorem St1.last {k : Nat → Int} {xs U V Z : List Nat} {t : Nat} (h : St1 k xs t U V) (hV : V.length < 20) (p : Z.Perm V) (s : Z.Pairwise (RI k)) : BS k 20 (U ++ Z) ∧ (U ++ Z).Perm xs := by
  obtain ⟨h1, h2, h3, h4, h5⟩ := h
  exact ⟨h2.snoc h1 (by rw [p.length_eq]; omega) s fun x hx z hz => h4 x hx z (p.mem_iff.1 hz), (p.append_left U).trans h5⟩
def St3 (k : Nat → Int) (xs : List Nat) (C t : Nat) (U V : List Nat) : Prop := U.length = t * (2 * C) ∧ BS k (2 * C) U ∧ BS k C V ∧ (∀ x ∈ U, ∀ y ∈ V, x < y) ∧ (U ++ V).Perm xs
theorem St3.start {k : Nat → Int} {xs D : List Nat} {C : Nat} (h : BS k C D) (p : D.Perm xs) : St3 k xs C 0 [] D := ⟨by simp, BS.nil k _, h, fun x hx => by simp at hx, p⟩
theorem two_takes (V : List Nat) (C : Nat) : V.take C ++ (V.drop C).take C = V.take (2 * C) := by
  rw [Nat.two_mul, List.take_add]
theorem St3.next {k : Nat → Int} {xs U V Z : List Nat} {C t : Nat} (h : St3 k xs C t U V) (hV : 2 * C ≤ V.length) (p : Z.Perm (V.take C ++ (V.drop C).take C)) (s : Z.Pairwise (RI k)) : St3 k xs C (t + 1) (U ++ Z) (V.drop (2 * C)) := by
  obtain ⟨h1, h2, h3, h4, h5⟩ := h
  rw [two_takes] at p
  have hz : Z.length = 2 * C := by rw [p.length_eq, List.length_take]; omega
  have hm : ∀ z ∈ Z, z ∈ V.take (2 * C) := fun z hz => p.mem_iff.1 hz
  refine ⟨by rw [List.length_append, h1, hz, Nat.add_mul, Nat.one_mul], h2.snoc h1 (by omega) s fun x hx z hz => h4 x hx z (List.mem_of_mem_take (hm z hz)), h3.drop 2, fun x hx y hy => ?_, (perm_mid p).trans h5⟩
  rcases List.mem_append.1 hx with hx | hx
  · exact h4 x hx y (List.mem_of_mem_drop hy)
  · exact (h3 2).2 x (hm x hx) y hy
theorem St3.last {k : Nat → Int} {xs U V Z : List Nat} {C t : Nat} (h : St3 k xs C t U V) (hV : V.length < 2 * C) (p : Z.Perm (V.take C ++ V.drop C)) (s : Z.Pairwise (RI k)) : BS k (2 * C) (U ++ Z) ∧ (U ++ Z).Perm xs := by
  obtain ⟨h1, h2, h3, h4, h5⟩ := h
  rw [List.take_append_drop] at p
  exact ⟨h2.snoc h1 (by rw [p.length_eq]; omega) s fun x hx z hz => h4 x hx z (p.mem_iff.1 hz), (p.append_left U).trans h5⟩
theorem St3.none {k : Nat → Int} {xs U V : List Nat} {C t : Nat} (h : St3 k xs C t U V) (hV : V.length ≤ C) : BS k (2 * C) (U ++ V) ∧ (U ++ V).Perm xs := by
  obtain ⟨h1, h2, h3, h4, h5⟩ := h
  exact ⟨h2.snoc h1 (by omega) (h3.all hV) fun x hx z hz => h4 x hx z hz, h5⟩

end Go.Proofs.YtdagfcflbphoiaaDoor

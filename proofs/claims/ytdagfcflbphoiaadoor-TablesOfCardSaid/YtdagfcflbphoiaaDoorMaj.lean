/- Layers 8, 9 and 12: what the second form makes of the functions. -/
import Derived.Test.YtdagfcflbphoiaaDoorRows
import Derived.Test.YtdagfcflbphoiaaDoorMae
namespace Go.Proofs.YtdagfcflbphoiaaDoor
set_option linter.unusedVariables false
set_option linter.unusedSimpArgs false
open Go.RowKit Ev
def gtL : List (List Nat) := [[], [], [], [0, 1, 3, 4, 6, 7, 8, 9, 10, 11, 12, 13, 28, 31, 32, 33, 34, 39, 57, 58, 59, 60, 76, 96, 111, 122], [0, 1, 4, 5, 6, 8, 10, 29, 57, 59, 60, 61, 62, 73, 76, 77, 78, 79, 90], [0, 1, 4, 5, 6, 14, 26, 49, 61], [0, 1, 4, 5, 6, 17, 38], [0, 1, 2, 3, 4, 26], [], [0, 1, 3, 4, 5, 6, 7, 8, 9, 11, 12, 19, 21, 22, 23, 24, 36, 54], [0, 2, 3, 4, 5, 6, 7, 8, 9, 10, 27], [0, 1, 4, 6, 7, 8, 9, 10, 19], [0, 2, 4, 5, 6, 7, 8, 16], [0, 1, 4, 5, 6, 7, 8, 9, 10, 11, 17, 18, 19], [0, 2], [0, 1, 4, 5, 6, 7, 8, 9, 10, 11, 18, 27, 40, 41], [0, 2, 4, 6, 8, 10], [0, 2], [0, 1, 4, 5, 7, 24], [0, 2, 3, 5, 6, 7, 8, 12], [0, 1, 2, 6, 8, 9, 10, 11, 12, 22], [0, 2, 3, 5, 6, 7, 8, 9, 13], [0, 1, 4, 5, 10, 12, 13, 14, 25], [0, 1, 4, 5, 6, 7, 8, 9, 11, 14, 15, 16, 18, 19, 20, 21, 27, 36], [0, 1, 2, 3, 4], [0, 1, 2, 3, 4], [0, 1, 2], [0, 1, 4, 5, 6, 7, 9, 10, 11, 12, 13, 14, 24, 25, 26, 27, 28, 29, 42, 43, 44, 46, 47, 48, 49, 58], [0, 1, 4, 5, 10, 12, 13, 14, 24], [0, 2, 4], [0, 1, 4, 5, 14], [0, 1, 4, 5, 6, 8, 11, 12, 13, 14, 15, 25], [0, 1, 4, 5, 7, 8, 9, 10, 11, 16], [0, 2, 4], [0, 1, 4, 5, 6, 8, 14, 17, 18, 19, 20, 29], [0, 2, 3, 4, 5, 9, 10, 11], [0, 1, 4, 5, 6, 7, 8, 9, 10, 11, 12, 18, 19, 20, 29, 30, 31, 32, 42, 43, 44, 48], [0, 1, 2, 6, 7, 8, 9, 10, 12, 13, 14, 16, 18, 20, 21, 27, 28, 29, 37, 38, 39, 40, 70, 71, 72, 73], [0, 2, 3, 5, 6, 7, 8, 9, 10, 14, 15, 16], [0, 2, 3, 4, 5, 6, 7, 20, 24, 25, 26, 27, 41], [0, 2, 3, 5, 6, 7, 8, 9], [0, 1, 4, 5, 10, 12, 13, 14, 24], [0, 1, 2, 6, 7, 8, 9, 14, 15, 16, 17, 18, 30], [0, 1, 4], [0, 1, 4, 5, 6, 7, 8, 9], [0, 1, 4, 5, 6, 7, 8, 9, 10, 11, 24], [0, 2, 3, 5, 6, 7, 8, 9, 10, 14, 20, 21, 25], [0, 1, 2, 6], [0, 2], [0, 1, 4], [0, 1, 4, 5, 6, 7, 8, 9, 11, 12, 13, 14, 26], [0, 1, 4, 5, 6, 7, 22, 27, 28, 29], [0, 1, 2, 4, 5, 6], [0, 2, 3, 4, 5, 6, 11, 12, 13, 32], [0, 2, 3, 5, 6, 7, 8, 9], [0, 2, 4], [0, 2, 3, 4, 5, 9, 10, 11, 12], [0, 2, 3, 4, 5, 6, 7, 8, 9, 10, 11, 12, 13, 15, 18, 19, 20, 21, 39, 66, 67, 68, 69], [0, 2, 3, 5, 6, 7, 8, 9, 13], [0, 1, 4], [0, 2], [0, 2], [0, 1, 2, 4], [0, 1, 2, 3, 4, 12, 13, 14], [0, 2, 3, 46], [0, 1, 2], [0, 2, 3, 4, 5, 6, 7, 8, 9, 18], [0, 1, 4, 5, 6, 7, 8, 9, 10, 11, 17], [0, 1, 4, 5, 7, 8, 9, 16], [0, 1], [0, 1, 2, 5], [0, 1, 4, 5, 6, 11, 12, 13, 16, 19], [0, 1, 2, 3, 4], [0, 1, 2, 6, 7, 8, 9, 13, 30, 35, 54], [0, 2], [0, 1, 2, 3, 8, 9, 14, 34], [0, 1, 2, 3, 4, 10, 11, 12, 13, 14, 15, 16, 17, 18, 19, 20, 21, 22, 23, 24, 28, 33, 50, 58, 80, 85, 103, 110, 140, 151, 171, 185, 199, 213], [0, 1, 2, 3, 4, 10, 11, 20, 23], [0, 1, 2, 3, 10, 13], [], [], [], [], [], [], [], [], [], [], [], [], [], [], [], [], [], [], [], [], []]
def gt (f : Nat) : List Nat := gtL.getD f []
theorem okd : okDsts Tryd.prog = true := by kernel_rfl
theorem sz25 : size? Tryd.prog 25 = some 2 := by kernel_rfl
theorem len22 (a : Option Addr) (n c : Nat) : len2 Tryd.prog #[22] [.slice a n c] = some (.int .i64 n) := len_slice Tryd.underlying22 a n c
theorem nt3 : isNilT Tryd.prog 3 = false := by kernel_rfl
theorem bgtr3 (a b : Int) : bin2 Tryd.prog .gtr 3 (.int .i64 a) (.int .i64 b) = some (.bool (decide (b < a))) := b_gtr nt3 a b
theorem fa25f0 (b off : Nat) : evFieldAddr Tryd.prog 25 (.pointer (some ⟨b, off, none⟩)) 0 = some (.pointer (some ⟨b, off + 0, none⟩)) := by kernel_rfl
theorem ag23 : agg? Tryd.prog 23 = some false := by kernel_rfl
theorem ldr23 {β : Type} {W : Nat → Prop} {n0 : Nat} {h : H} {n : Nat} {Q : β → H → Nat → Prop} (b off : Nat) (k : Value → M β) (hb : b < n) : Run W n0 ((inside (evLoad Tryd.prog 23 (.pointer (some ⟨b, off, none⟩)))).bind k) h n Q ↔ optG (h.get b) fun B => Run W n0 (optK (B.cells[off]?) k) h n Q := ld_iff ag23 b off k hb
theorem len23 (a : Option Addr) (n c : Nat) : len2 Tryd.prog #[23] [.slice a n c] = some (.int .i64 n) := len_slice Tryd.underlying23 a n c
theorem fa25f1 (b off : Nat) : evFieldAddr Tryd.prog 25 (.pointer (some ⟨b, off, none⟩)) 1 = some (.pointer (some ⟨b, off + 1, none⟩)) := by kernel_rfl
theorem ag22 : agg? Tryd.prog 22 = some false := by kernel_rfl
theorem ldr22 {β : Type} {W : Nat → Prop} {n0 : Nat} {h : H} {n : Nat} {Q : β → H → Nat → Prop} (b off : Nat) (k : Value → M β) (hb : b < n) : Run W n0 ((inside (evLoad Tryd.prog 22 (.pointer (some ⟨b, off, none⟩)))).bind k) h n Q ↔ optG (h.get b) fun B => Run W n0 (optK (B.cells[off]?) k) h n Q := ld_iff ag22 b off k hb
theorem blss3 (a b : Int) : bin2 Tryd.prog .lss 3 (.int .i64 a) (.int .i64 b) = some (.bool (decide (a < b))) := b_lss nt3 a b
theorem sz22 : size? Tryd.prog 22 = some 1 := by kernel_rfl
theorem ix23 (b off n c : Nat) (k : IntKind) (i : Int) (h0 : 0 ≤ i) (h1 : i < n) : evIndexAddr Tryd.prog 23 (.slice (some ⟨b, off, none⟩) n c) (.int k i) = some (.pointer (some ⟨b, off + i.toNat, none⟩)) := (ix_slice Tryd.underlying23 sz22 b off n c k i h0 h1).trans (by rw [Nat.mul_one])
theorem badd3 (a b : Int) : bin2 Tryd.prog .add 3 (.int .i64 a) (.int .i64 b) = some (.int .i64 (IntKind.i64.wrap (a + b))) := b_add nt3 a b
theorem aga25 : agg? Tryd.prog 25 = some true := by kernel_rfl
theorem beql3 (a b : Int) : bin2 Tryd.prog .eql 3 (.int .i64 a) (.int .i64 b) = some (.bool (a == b)) := b_eql nt3 a b
theorem sz3 : size? Tryd.prog 3 = some 1 := by kernel_rfl
theorem ix22 (b off n c : Nat) (k : IntKind) (i : Int) (h0 : 0 ≤ i) (h1 : i < n) : evIndexAddr Tryd.prog 22 (.slice (some ⟨b, off, none⟩) n c) (.int k i) = some (.pointer (some ⟨b, off + i.toNat, none⟩)) := (ix_slice Tryd.underlying22 sz3 b off n c k i h0 h1).trans (by rw [Nat.mul_one])
theorem ag3 : agg? Tryd.prog 3 = some false := by kernel_rfl
theorem ldr3 {β : Type} {W : Nat → Prop} {n0 : Nat} {h : H} {n : Nat} {Q : β → H → Nat → Prop} (b off : Nat) (k : Value → M β) (hb : b < n) : Run W n0 ((inside (evLoad Tryd.prog 3 (.pointer (some ⟨b, off, none⟩)))).bind k) h n Q ↔ optG (h.get b) fun B => Run W n0 (optK (B.cells[off]?) k) h n Q := ld_iff ag3 b off k hb
theorem bgeq3 (a b : Int) : bin2 Tryd.prog .geq 3 (.int .i64 a) (.int .i64 b) = some (.bool (decide (b ≤ a))) := b_geq nt3 a b
theorem nt27 : isNilT Tryd.prog 27 = false := by kernel_rfl
theorem beql27 (a b : Int) : bin2 Tryd.prog .eql 27 (.int .i64 a) (.int .i64 b) = some (.bool (a == b)) := b_eql nt27 a b
theorem zr25 : zero? Tryd.prog 25 = some (Go.Value.agg #[(Go.Value.slice none 0 0), (Go.Value.slice none 0 0)]) := by kernel_rfl
theorem bneq27 (a b : Int) : bin2 Tryd.prog .neq 27 (.int .i64 a) (.int .i64 b) = some (.bool (a != b)) := b_neq nt27 a b
theorem bneq3 (a b : Int) : bin2 Tryd.prog .neq 3 (.int .i64 a) (.int .i64 b) = some (.bool (a != b)) := b_neq nt3 a b
theorem bquo3 (a b : Int) (h0 : b ≠ 0) : bin2 Tryd.prog .quo 3 (.int .i64 a) (.int .i64 b) = some (.int .i64 (IntKind.i64.wrap (a.tdiv b))) := b_quo nt3 a b h0
theorem bleq3 (a b : Int) : bin2 Tryd.prog .leq 3 (.int .i64 a) (.int .i64 b) = some (.bool (decide (a ≤ b))) := b_leq nt3 a b
theorem bd25x  : evBuild Tryd.prog 25 [] = M.ret (.agg #[(Go.Value.slice none 0 0), (Go.Value.slice none 0 0)]) := by kernel_rfl
theorem c1x22 : Cell1 Tryd.prog 22 3 (Go.Value.int Go.IntKind.i64 0) := ⟨Tryd.underlying22, ⟨Tryd.t3, by kernel_rfl, by kernel_rfl, by decide⟩, by kernel_rfl, by kernel_rfl⟩
theorem ns22 : isStrT Tryd.prog 22 = false := by kernel_rfl
theorem c1x23 : Cell1 Tryd.prog 23 22 (Go.Value.slice none 0 0) := ⟨Tryd.underlying23, ⟨Tryd.t22, by kernel_rfl, by kernel_rfl, by decide⟩, by kernel_rfl, by kernel_rfl⟩
theorem bd25x0 (v0a : Option Addr) (v0n v0c : Nat) : evBuild Tryd.prog 25 [(0, (Value.slice v0a v0n v0c))] = M.ret (.agg #[(Value.slice v0a v0n v0c), (Go.Value.slice none 0 0)]) := by kernel_rfl
theorem bd25x0x1 (v0a : Option Addr) (v0n v0c : Nat) (v1a : Option Addr) (v1n v1c : Nat) : evBuild Tryd.prog 25 [(0, (Value.slice v0a v0n v0c)), (1, (Value.slice v1a v1n v1c))] = M.ret (.agg #[(Value.slice v0a v0n v0c), (Value.slice v1a v1n v1c)]) := by kernel_rfl
theorem aga58 : agg? Tryd.prog 58 = some true := by kernel_rfl
theorem sz58 : size? Tryd.prog 58 = some 4 := by kernel_rfl
theorem bsub3 (a b : Int) : bin2 Tryd.prog .sub 3 (.int .i64 a) (.int .i64 b) = some (.int .i64 (IntKind.i64.wrap (a - b))) := b_sub nt3 a b
theorem bmul3 (a b : Int) : bin2 Tryd.prog .mul 3 (.int .i64 a) (.int .i64 b) = some (.int .i64 (IntKind.i64.wrap (a * b))) := b_mul nt3 a b
theorem sz47 : size? Tryd.prog 47 = some 2 := by kernel_rfl
theorem fa47f1 (b off : Nat) : evFieldAddr Tryd.prog 47 (.pointer (some ⟨b, off, none⟩)) 1 = some (.pointer (some ⟨b, off + 1, none⟩)) := by kernel_rfl
theorem fa47f0 (b off : Nat) : evFieldAddr Tryd.prog 47 (.pointer (some ⟨b, off, none⟩)) 0 = some (.pointer (some ⟨b, off + 0, none⟩)) := by kernel_rfl
theorem zr47 : zero? Tryd.prog 47 = some (Go.Value.agg #[(Go.Value.slice none 0 0), (Go.Value.slice none 0 0)]) := by kernel_rfl
theorem bd47x0x1 (v0a : Option Addr) (v0n v0c : Nat) (v1a : Option Addr) (v1n v1c : Nat) : evBuild Tryd.prog 47 [(0, (Value.slice v0a v0n v0c)), (1, (Value.slice v1a v1n v1c))] = M.ret (.agg #[(Value.slice v0a v0n v0c), (Value.slice v1a v1n v1c)]) := by kernel_rfl
theorem bd47x0 (v0a : Option Addr) (v0n v0c : Nat) : evBuild Tryd.prog 47 [(0, (Value.slice v0a v0n v0c))] = M.ret (.agg #[(Value.slice v0a v0n v0c), (Go.Value.slice none 0 0)]) := by kernel_rfl
theorem aga47 : agg? Tryd.prog 47 = some true := by kernel_rfl
theorem str3 {β : Type} {W : Nat → Prop} {n0 : Nat} {h : H} {n : Nat} {Q : β → H → Nat → Prop} (b off : Nat) (v : Value) (k : Value → M β) (hb : b < n) (h1 : one v = true) : Run W n0 ((inside (evStore Tryd.prog 3 (.pointer (some ⟨b, off, none⟩)) v)).bind k) h n Q ↔ optG (h.get b) fun B => B.own = true ∧ off < B.cells.length ∧ (n0 ≤ b ∨ W b) ∧ Run W n0 (k undef) (h.set b (some ⟨B.elem, B.own, B.cells.set off v⟩)) n Q := st_iff sz3 b off v k hb h1
theorem str22 {β : Type} {W : Nat → Prop} {n0 : Nat} {h : H} {n : Nat} {Q : β → H → Nat → Prop} (b off : Nat) (v : Value) (k : Value → M β) (hb : b < n) (h1 : one v = true) : Run W n0 ((inside (evStore Tryd.prog 22 (.pointer (some ⟨b, off, none⟩)) v)).bind k) h n Q ↔ optG (h.get b) fun B => B.own = true ∧ off < B.cells.length ∧ (n0 ≤ b ∨ W b) ∧ Run W n0 (k undef) (h.set b (some ⟨B.elem, B.own, B.cells.set off v⟩)) n Q := st_iff sz22 b off v k hb h1
theorem fa72f0 (b off : Nat) : evFieldAddr Tryd.prog 72 (.pointer (some ⟨b, off, none⟩)) 0 = some (.pointer (some ⟨b, off + 0, none⟩)) := by kernel_rfl
theorem fa72f1 (b off : Nat) : evFieldAddr Tryd.prog 72 (.pointer (some ⟨b, off, none⟩)) 1 = some (.pointer (some ⟨b, off + 1, none⟩)) := by kernel_rfl
theorem beql22s (a : Addr) (n c : Nat) : bin2 Tryd.prog .eql 22 (.slice (some a) n c) (.slice none 0 0) = some (.bool false) := by kernel_rfl
theorem beql22n (n c : Nat) : bin2 Tryd.prog .eql 22 (.slice none n c) (.slice none 0 0) = some (.bool true) := by kernel_rfl
theorem bd75x0x1x2 (v0 : Int) (v1 : Int) (v2a : Option Addr) (v2n v2c : Nat) : evBuild Tryd.prog 75 [(0, (Value.int .i64 v0)), (1, (Value.int .i64 v1)), (2, (Value.slice v2a v2n v2c))] = M.ret (.agg #[(Value.int .i64 v0), (Value.int .i64 v1), (Value.slice v2a v2n v2c)]) := by kernel_rfl
theorem len73 (a : Option Addr) (n c : Nat) : len2 Tryd.prog #[73] [.slice a n c] = some (.int .i64 n) := len_slice Tryd.underlying73 a n c
theorem sz75 : size? Tryd.prog 75 = some 3 := by kernel_rfl
theorem ix73 (b off n c : Nat) (k : IntKind) (i : Int) (h0 : 0 ≤ i) (h1 : i < n) : evIndexAddr Tryd.prog 73 (.slice (some ⟨b, off, none⟩) n c) (.int k i) = some (.pointer (some ⟨b, off + i.toNat * 3, none⟩)) := ix_slice Tryd.underlying73 sz75 b off n c k i h0 h1
theorem fa75f2 (b off : Nat) : evFieldAddr Tryd.prog 75 (.pointer (some ⟨b, off, none⟩)) 2 = some (.pointer (some ⟨b, off + 2, none⟩)) := by kernel_rfl
theorem fa75f0 (b off : Nat) : evFieldAddr Tryd.prog 75 (.pointer (some ⟨b, off, none⟩)) 0 = some (.pointer (some ⟨b, off + 0, none⟩)) := by kernel_rfl
theorem bd72x0x3 (v0a : Option Addr) (v0n v0c : Nat) (v3 : Int) : evBuild Tryd.prog 72 [(0, (Value.slice v0a v0n v0c)), (3, (Value.int .i64 v3))] = M.ret (.agg #[(Value.slice v0a v0n v0c), (Go.Value.slice none 0 0), (Go.Value.slice none 0 0), (Value.int .i64 v3)]) := by kernel_rfl
theorem sz72 : size? Tryd.prog 72 = some 4 := by kernel_rfl
theorem fa72f2 (b off : Nat) : evFieldAddr Tryd.prog 72 (.pointer (some ⟨b, off, none⟩)) 2 = some (.pointer (some ⟨b, off + 2, none⟩)) := by kernel_rfl
theorem fa72f3 (b off : Nat) : evFieldAddr Tryd.prog 72 (.pointer (some ⟨b, off, none⟩)) 3 = some (.pointer (some ⟨b, off + 3, none⟩)) := by kernel_rfl
theorem fa75f1 (b off : Nat) : evFieldAddr Tryd.prog 75 (.pointer (some ⟨b, off, none⟩)) 1 = some (.pointer (some ⟨b, off + 1, none⟩)) := by kernel_rfl
theorem cv3x84 {β : Type} (x : Int) (k : Value → M β) : conv2 Tryd.prog 3 84 (.int .i64 x) k = k (.int .u64 (IntKind.u64.wrap x)) := by kernel_rfl
theorem nt84 : isNilT Tryd.prog 84 = false := by kernel_rfl
theorem bshr84 {k' : IntKind} (a b : Int) (h0 : 0 ≤ b) : bin2 Tryd.prog .shr 84 (.int .u64 a) (.int k' b) = some (.int .u64 (a.fdiv (2 ^ (min b.toNat (IntKind.u64).bits)))) := b_shr nt84 a b h0
theorem cv84x3 {β : Type} (x : Int) (k : Value → M β) : conv2 Tryd.prog 84 3 (.int .u64 x) k = k (.int .i64 (IntKind.i64.wrap x)) := by kernel_rfl
theorem FX1 : (∀ (a : Option Addr) (n c : Nat), len2 Tryd.prog #[22] [.slice a n c] = some (.int .i64 n)) ∧ (∀ (a b : Int), bin2 Tryd.prog .gtr 3 (.int .i64 a) (.int .i64 b) = some (.bool (decide (b < a)))) ∧ (∀ (b off : Nat), evFieldAddr Tryd.prog 25 (.pointer (some ⟨b, off, none⟩)) 0 = some (.pointer (some ⟨b, off + 0, none⟩))) ∧ (∀ {β : Type} {W : Nat → Prop} {n0 : Nat} {h : H} {n : Nat} {Q : β → H → Nat → Prop} (b off : Nat) (k : Value → M β) (hb : b < n), Run W n0 ((inside (evLoad Tryd.prog 23 (.pointer (some ⟨b, off, none⟩)))).bind k) h n Q ↔ optG (h.get b) fun B => Run W n0 (optK (B.cells[off]?) k) h n Q) ∧ (∀ (a : Option Addr) (n c : Nat), len2 Tryd.prog #[23] [.slice a n c] = some (.int .i64 n)) ∧ (∀ (b off : Nat), evFieldAddr Tryd.prog 25 (.pointer (some ⟨b, off, none⟩)) 1 = some (.pointer (some ⟨b, off + 1, none⟩))) ∧ (∀ {β : Type} {W : Nat → Prop} {n0 : Nat} {h : H} {n : Nat} {Q : β → H → Nat → Prop} (b off : Nat) (k : Value → M β) (hb : b < n), Run W n0 ((inside (evLoad Tryd.prog 22 (.pointer (some ⟨b, off, none⟩)))).bind k) h n Q ↔ optG (h.get b) fun B => Run W n0 (optK (B.cells[off]?) k) h n Q) ∧ (∀ (a b : Int), bin2 Tryd.prog .lss 3 (.int .i64 a) (.int .i64 b) = some (.bool (decide (a < b)))) ∧ (∀ (b off n c : Nat) (k : IntKind) (i : Int) (h0 : 0 ≤ i) (h1 : i < n), evIndexAddr Tryd.prog 23 (.slice (some ⟨b, off, none⟩) n c) (.int k i) = some (.pointer (some ⟨b, off + i.toNat, none⟩))) ∧ (∀ (a b : Int), bin2 Tryd.prog .add 3 (.int .i64 a) (.int .i64 b) = some (.int .i64 (IntKind.i64.wrap (a + b)))) ∧ (∀ (a b : Int), bin2 Tryd.prog .eql 3 (.int .i64 a) (.int .i64 b) = some (.bool (a == b))) ∧ (∀ (b off n c : Nat) (k : IntKind) (i : Int) (h0 : 0 ≤ i) (h1 : i < n), evIndexAddr Tryd.prog 22 (.slice (some ⟨b, off, none⟩) n c) (.int k i) = some (.pointer (some ⟨b, off + i.toNat, none⟩))) ∧ (∀ {β : Type} {W : Nat → Prop} {n0 : Nat} {h : H} {n : Nat} {Q : β → H → Nat → Prop} (b off : Nat) (k : Value → M β) (hb : b < n), Run W n0 ((inside (evLoad Tryd.prog 3 (.pointer (some ⟨b, off, none⟩)))).bind k) h n Q ↔ optG (h.get b) fun B => Run W n0 (optK (B.cells[off]?) k) h n Q) ∧ (∀ (a b : Int), bin2 Tryd.prog .geq 3 (.int .i64 a) (.int .i64 b) = some (.bool (decide (b ≤ a)))) ∧ (∀ (a b : Int), bin2 Tryd.prog .eql 27 (.int .i64 a) (.int .i64 b) = some (.bool (a == b))) ∧ (∀ (a b : Int), bin2 Tryd.prog .neq 27 (.int .i64 a) (.int .i64 b) = some (.bool (a != b))) ∧ (∀ (a b : Int), bin2 Tryd.prog .neq 3 (.int .i64 a) (.int .i64 b) = some (.bool (a != b))) ∧ (∀ (a b : Int) (h0 : b ≠ 0), bin2 Tryd.prog .quo 3 (.int .i64 a) (.int .i64 b) = some (.int .i64 (IntKind.i64.wrap (a.tdiv b)))) ∧ (∀ (a b : Int), bin2 Tryd.prog .leq 3 (.int .i64 a) (.int .i64 b) = some (.bool (decide (a ≤ b)))) ∧ (evBuild Tryd.prog 25 [] = M.ret (.agg #[(Go.Value.slice none 0 0), (Go.Value.slice none 0 0)])) ∧ (∀ (v0a : Option Addr) (v0n v0c : Nat), evBuild Tryd.prog 25 [(0, (Value.slice v0a v0n v0c))] = M.ret (.agg #[(Value.slice v0a v0n v0c), (Go.Value.slice none 0 0)])) ∧ (∀ (v0a : Option Addr) (v0n v0c : Nat) (v1a : Option Addr) (v1n v1c : Nat), evBuild Tryd.prog 25 [(0, (Value.slice v0a v0n v0c)), (1, (Value.slice v1a v1n v1c))] = M.ret (.agg #[(Value.slice v0a v0n v0c), (Value.slice v1a v1n v1c)])) ∧ (∀ (a b : Int), bin2 Tryd.prog .sub 3 (.int .i64 a) (.int .i64 b) = some (.int .i64 (IntKind.i64.wrap (a - b)))) ∧ (∀ (a b : Int), bin2 Tryd.prog .mul 3 (.int .i64 a) (.int .i64 b) = some (.int .i64 (IntKind.i64.wrap (a * b)))) ∧ (∀ (b off : Nat), evFieldAddr Tryd.prog 47 (.pointer (some ⟨b, off, none⟩)) 1 = some (.pointer (some ⟨b, off + 1, none⟩))) ∧ (∀ (b off : Nat), evFieldAddr Tryd.prog 47 (.pointer (some ⟨b, off, none⟩)) 0 = some (.pointer (some ⟨b, off + 0, none⟩))) ∧ (∀ (v0a : Option Addr) (v0n v0c : Nat) (v1a : Option Addr) (v1n v1c : Nat), evBuild Tryd.prog 47 [(0, (Value.slice v0a v0n v0c)), (1, (Value.slice v1a v1n v1c))] = M.ret (.agg #[(Value.slice v0a v0n v0c), (Value.slice v1a v1n v1c)])) ∧ (∀ (v0a : Option Addr) (v0n v0c : Nat), evBuild Tryd.prog 47 [(0, (Value.slice v0a v0n v0c))] = M.ret (.agg #[(Value.slice v0a v0n v0c), (Go.Value.slice none 0 0)])) ∧ (∀ {β : Type} {W : Nat → Prop} {n0 : Nat} {h : H} {n : Nat} {Q : β → H → Nat → Prop} (b off : Nat) (v : Value) (k : Value → M β) (hb : b < n) (h1 : one v = true), Run W n0 ((inside (evStore Tryd.prog 3 (.pointer (some ⟨b, off, none⟩)) v)).bind k) h n Q ↔ optG (h.get b) fun B => B.own = true ∧ off < B.cells.length ∧ (n0 ≤ b ∨ W b) ∧ Run W n0 (k undef) (h.set b (some ⟨B.elem, B.own, B.cells.set off v⟩)) n Q) ∧ (∀ {β : Type} {W : Nat → Prop} {n0 : Nat} {h : H} {n : Nat} {Q : β → H → Nat → Prop} (b off : Nat) (v : Value) (k : Value → M β) (hb : b < n) (h1 : one v = true), Run W n0 ((inside (evStore Tryd.prog 22 (.pointer (some ⟨b, off, none⟩)) v)).bind k) h n Q ↔ optG (h.get b) fun B => B.own = true ∧ off < B.cells.length ∧ (n0 ≤ b ∨ W b) ∧ Run W n0 (k undef) (h.set b (some ⟨B.elem, B.own, B.cells.set off v⟩)) n Q) ∧ (∀ (b off : Nat), evFieldAddr Tryd.prog 72 (.pointer (some ⟨b, off, none⟩)) 0 = some (.pointer (some ⟨b, off + 0, none⟩))) ∧ (∀ (b off : Nat), evFieldAddr Tryd.prog 72 (.pointer (some ⟨b, off, none⟩)) 1 = some (.pointer (some ⟨b, off + 1, none⟩))) ∧ (∀ (a : Addr) (n c : Nat), bin2 Tryd.prog .eql 22 (.slice (some a) n c) (.slice none 0 0) = some (.bool false)) ∧ (∀ (n c : Nat), bin2 Tryd.prog .eql 22 (.slice none n c) (.slice none 0 0) = some (.bool true)) ∧ (∀ (v0 : Int) (v1 : Int) (v2a : Option Addr) (v2n v2c : Nat), evBuild Tryd.prog 75 [(0, (Value.int .i64 v0)), (1, (Value.int .i64 v1)), (2, (Value.slice v2a v2n v2c))] = M.ret (.agg #[(Value.int .i64 v0), (Value.int .i64 v1), (Value.slice v2a v2n v2c)])) ∧ (∀ (a : Option Addr) (n c : Nat), len2 Tryd.prog #[73] [.slice a n c] = some (.int .i64 n)) ∧ (∀ (b off n c : Nat) (k : IntKind) (i : Int) (h0 : 0 ≤ i) (h1 : i < n), evIndexAddr Tryd.prog 73 (.slice (some ⟨b, off, none⟩) n c) (.int k i) = some (.pointer (some ⟨b, off + i.toNat * 3, none⟩))) ∧ (∀ (b off : Nat), evFieldAddr Tryd.prog 75 (.pointer (some ⟨b, off, none⟩)) 2 = some (.pointer (some ⟨b, off + 2, none⟩))) ∧ (∀ (b off : Nat), evFieldAddr Tryd.prog 75 (.pointer (some ⟨b, off, none⟩)) 0 = some (.pointer (some ⟨b, off + 0, none⟩))) ∧ (∀ (v0a : Option Addr) (v0n v0c : Nat) (v3 : Int), evBuild Tryd.prog 72 [(0, (Value.slice v0a v0n v0c)), (3, (Value.int .i64 v3))] = M.ret (.agg #[(Value.slice v0a v0n v0c), (Go.Value.slice none 0 0), (Go.Value.slice none 0 0), (Value.int .i64 v3)])) ∧ (∀ (b off : Nat), evFieldAddr Tryd.prog 72 (.pointer (some ⟨b, off, none⟩)) 2 = some (.pointer (some ⟨b, off + 2, none⟩))) ∧ (∀ (b off : Nat), evFieldAddr Tryd.prog 72 (.pointer (some ⟨b, off, none⟩)) 3 = some (.pointer (some ⟨b, off + 3, none⟩))) ∧ (∀ (b off : Nat), evFieldAddr Tryd.prog 75 (.pointer (some ⟨b, off, none⟩)) 1 = some (.pointer (some ⟨b, off + 1, none⟩))) ∧ (∀ {β : Type} (x : Int) (k : Value → M β), conv2 Tryd.prog 3 84 (.int .i64 x) k = k (.int .u64 (IntKind.u64.wrap x))) ∧ (∀ {k' : IntKind} (a b : Int) (h0 : 0 ≤ b), bin2 Tryd.prog .shr 84 (.int .u64 a) (.int k' b) = some (.int .u64 (a.fdiv (2 ^ (min b.toNat (IntKind.u64).bits))))) ∧ (∀ {β : Type} (x : Int) (k : Value → M β), conv2 Tryd.prog 84 3 (.int .u64 x) k = k (.int .i64 (IntKind.i64.wrap x))) := ⟨@len22, @bgtr3, @fa25f0, @ldr23, @len23, @fa25f1, @ldr22, @blss3, @ix23, @badd3, @beql3, @ix22, @ldr3, @bgeq3, @beql27, @bneq27, @bneq3, @bquo3, @bleq3, @bd25x, @bd25x0, @bd25x0x1, @bsub3, @bmul3, @fa47f1, @fa47f0, @bd47x0x1, @bd47x0, @str3, @str22, @fa72f0, @fa72f1, @beql22s, @beql22n, @bd75x0x1x2, @len73, @ix73, @fa75f2, @fa75f0, @bd72x0x3, @fa72f2, @fa72f3, @fa75f1, @cv3x84, @bshr84, @cv84x3⟩

noncomputable def b_balerlaw12_TablesOf (lf d : Nat) (a0 a1 : Value) : M Value :=
 optK (len2 Tryd.prog #[22] [a0]) fun v8n1 =>
 optK (bin2 Tryd.prog .gtr 3 v8n1 (Value.int .i64 320)) fun v9n2 =>
 ifV v9n2 (
  (inside (evCall2 Tryd.prog gt lf d 8 #[])).bind fun v18n3 =>
  outK [v18n3]) (
  optK (bin2 Tryd.prog .gtr 3 a1 (Value.int .i64 40)) fun v12n4 =>
  ifV v12n4 (
   optK (bin2 Tryd.prog .leq 3 a1 (Value.int .i64 258)) fun v15n5 =>
   ifV v15n5 (
    (inside (evCall2 Tryd.prog gt lf d 8 #[])).bind fun v18n6 =>
    outK [v18n6]) (
    (inside (evCall2 Tryd.prog gt lf d 15 #[a0, a1])).bind fun v22n7 =>
    optK (evExtract v22n7 0) fun v23n8 =>
    optK (evExtract v22n7 1) fun v24n9 =>
    (inside (evAlloc Tryd.prog 25)).bind fun v5n10 =>
    (inside (evStore Tryd.prog 25 v5n10 v23n8)).bind fun u11 =>
    optK (len2 Tryd.prog #[22] [a0]) fun v26n12 =>
    optK (bin2 Tryd.prog .eql 3 v26n12 (Value.int .i64 0)) fun v27n13 =>
    ifV v27n13 (
     optK (bin2 Tryd.prog .eql 27 v24n9 (Value.int .i64 1)) fun v40n14 =>
     ifV v40n14 (
      (inside (evLoad Tryd.prog 25 v5n10)).bind fun v42n15 =>
      (inside (evBuild Tryd.prog 25 [])).bind fun v43n16 =>
      (inside (evCall2 Tryd.prog gt lf d 24 #[v42n15, v43n16])).bind fun v44n17 =>
      ifV v44n17 (
       (inside (evCall2 Tryd.prog gt lf d 8 #[])).bind fun v47n18 =>
       outK [v47n18]) (
       outK [(Value.bool false)])) (
      outK [(Value.bool false)])) (
     (inside (evCall2 Tryd.prog gt lf d 14 #[a1])).bind fun v30n19 =>
     optK (un2 Tryd.prog .not v30n19) fun v31n20 =>
     ifV v31n20 (
      optK (bin2 Tryd.prog .eql 27 v24n9 (Value.int .i64 1)) fun v40n21 =>
      ifV v40n21 (
       (inside (evLoad Tryd.prog 25 v5n10)).bind fun v42n22 =>
       (inside (evBuild Tryd.prog 25 [])).bind fun v43n23 =>
       (inside (evCall2 Tryd.prog gt lf d 24 #[v42n22, v43n23])).bind fun v44n24 =>
       ifV v44n24 (
        (inside (evCall2 Tryd.prog gt lf d 8 #[])).bind fun v47n25 =>
        outK [v47n25]) (
        outK [(Value.bool false)])) (
       outK [(Value.bool false)])) (
      (inside (evCall2 Tryd.prog gt lf d 11 #[a0, a1])).bind fun v36n26 =>
      optK (un2 Tryd.prog .not v36n26) fun v37n27 =>
      ifV v37n27 (
       optK (bin2 Tryd.prog .eql 27 v24n9 (Value.int .i64 1)) fun v40n28 =>
       ifV v40n28 (
        (inside (evLoad Tryd.prog 25 v5n10)).bind fun v42n29 =>
        (inside (evBuild Tryd.prog 25 [])).bind fun v43n30 =>
        (inside (evCall2 Tryd.prog gt lf d 24 #[v42n29, v43n30])).bind fun v44n31 =>
        ifV v44n31 (
         (inside (evCall2 Tryd.prog gt lf d 8 #[])).bind fun v47n32 =>
         outK [v47n32]) (
         outK [(Value.bool false)])) (
        outK [(Value.bool false)])) (
       optK (bin2 Tryd.prog .eql 27 v24n9 (Value.int .i64 0)) fun v50n33 =>
       ifV v50n33 (
        (inside (evLoad Tryd.prog 25 v5n10)).bind fun v52n34 =>
        (inside (evCall2 Tryd.prog gt lf d 26 #[v52n34])).bind fun v53n35 =>
        (inside (evCall2 Tryd.prog gt lf d 27 #[a0, a1])).bind fun v56n36 =>
        (inside (evCall2 Tryd.prog gt lf d 25 #[v53n35, v56n36])).bind fun v57n37 =>
        ifV v57n37 (
         (inside (evCall2 Tryd.prog gt lf d 8 #[])).bind fun v60n38 =>
         outK [v60n38]) (
         outK [(Value.bool false)])) (
        outK [(Value.bool false)])))))) (
   (inside (evCall2 Tryd.prog gt lf d 15 #[a0, a1])).bind fun v22n39 =>
   optK (evExtract v22n39 0) fun v23n40 =>
   optK (evExtract v22n39 1) fun v24n41 =>
   (inside (evAlloc Tryd.prog 25)).bind fun v5n42 =>
   (inside (evStore Tryd.prog 25 v5n42 v23n40)).bind fun u43 =>
   optK (len2 Tryd.prog #[22] [a0]) fun v26n44 =>
   optK (bin2 Tryd.prog .eql 3 v26n44 (Value.int .i64 0)) fun v27n45 =>
   ifV v27n45 (
    optK (bin2 Tryd.prog .eql 27 v24n41 (Value.int .i64 1)) fun v40n46 =>
    ifV v40n46 (
     (inside (evLoad Tryd.prog 25 v5n42)).bind fun v42n47 =>
     (inside (evBuild Tryd.prog 25 [])).bind fun v43n48 =>
     (inside (evCall2 Tryd.prog gt lf d 24 #[v42n47, v43n48])).bind fun v44n49 =>
     ifV v44n49 (
      (inside (evCall2 Tryd.prog gt lf d 8 #[])).bind fun v47n50 =>
      outK [v47n50]) (
      outK [(Value.bool false)])) (
     outK [(Value.bool false)])) (
    (inside (evCall2 Tryd.prog gt lf d 14 #[a1])).bind fun v30n51 =>
    optK (un2 Tryd.prog .not v30n51) fun v31n52 =>
    ifV v31n52 (
     optK (bin2 Tryd.prog .eql 27 v24n41 (Value.int .i64 1)) fun v40n53 =>
     ifV v40n53 (
      (inside (evLoad Tryd.prog 25 v5n42)).bind fun v42n54 =>
      (inside (evBuild Tryd.prog 25 [])).bind fun v43n55 =>
      (inside (evCall2 Tryd.prog gt lf d 24 #[v42n54, v43n55])).bind fun v44n56 =>
      ifV v44n56 (
       (inside (evCall2 Tryd.prog gt lf d 8 #[])).bind fun v47n57 =>
       outK [v47n57]) (
       outK [(Value.bool false)])) (
      outK [(Value.bool false)])) (
     (inside (evCall2 Tryd.prog gt lf d 11 #[a0, a1])).bind fun v36n58 =>
     optK (un2 Tryd.prog .not v36n58) fun v37n59 =>
     ifV v37n59 (
      optK (bin2 Tryd.prog .eql 27 v24n41 (Value.int .i64 1)) fun v40n60 =>
      ifV v40n60 (
       (inside (evLoad Tryd.prog 25 v5n42)).bind fun v42n61 =>
       (inside (evBuild Tryd.prog 25 [])).bind fun v43n62 =>
       (inside (evCall2 Tryd.prog gt lf d 24 #[v42n61, v43n62])).bind fun v44n63 =>
       ifV v44n63 (
        (inside (evCall2 Tryd.prog gt lf d 8 #[])).bind fun v47n64 =>
        outK [v47n64]) (
        outK [(Value.bool false)])) (
       outK [(Value.bool false)])) (
      optK (bin2 Tryd.prog .eql 27 v24n41 (Value.int .i64 0)) fun v50n65 =>
      ifV v50n65 (
       (inside (evLoad Tryd.prog 25 v5n42)).bind fun v52n66 =>
       (inside (evCall2 Tryd.prog gt lf d 26 #[v52n66])).bind fun v53n67 =>
       (inside (evCall2 Tryd.prog gt lf d 27 #[a0, a1])).bind fun v56n68 =>
       (inside (evCall2 Tryd.prog gt lf d 25 #[v53n67, v56n68])).bind fun v57n69 =>
       ifV v57n69 (
        (inside (evCall2 Tryd.prog gt lf d 8 #[])).bind fun v60n70 =>
        outK [v60n70]) (
        outK [(Value.bool false)])) (
       outK [(Value.bool false)]))))))
theorem sh_balerlaw12_TablesOf (lf d : Nat) (a0 a1 : Value) : evCall2 Tryd.prog gt lf (d + 1) 6 #[a0, a1] = inside (b_balerlaw12_TablesOf lf d a0 a1) := by kernel_rfl

noncomputable def lpA_tables_Cost (lf d fu : Nat) (k : Ex → Fr → M Value) (x0 x1 x3 x4 x5 x6 x19 x21 x22 x23 : Value) : M Value := loopK (fun s1 k1 => codeK Tryd.prog (evCall2 Tryd.prog gt lf d) (gt 9) lf (codeAt (bodyOf Tryd.prog 9) [true, true, true, false, true, false, false]) s1 k1) [0, 1, 3, 4, 5, 6, 19, 21, 22, 23] fu [(0, x0), (1, x1), (3, x3), (4, x4), (5, x5), (6, x6), (19, x19), (21, x21), (22, x22), (23, x23)] k
noncomputable def kcA_tables_Cost (lf d : Nat) : Ex → Fr → M Value := contAt Tryd.prog (evCall2 Tryd.prog gt lf d) (gt 9) lf (bodyOf Tryd.prog 9) [true, true, true, false, true, false] (endK Tryd.prog (resOf Tryd.prog 9))
noncomputable def lpA_balerref08_Groups (lf d fu : Nat) (k : Ex → Fr → M Value) (x0 x2 x3 x4 x7 x8 x9 : Value) : M Value := loopK (fun s1 k1 => codeK Tryd.prog (evCall2 Tryd.prog gt lf d) (gt 10) lf (codeAt (bodyOf Tryd.prog 10) [true, true, true, false, true, false, false]) s1 k1) [0, 2, 3, 4, 7, 8, 9] fu [(0, x0), (2, x2), (3, x3), (4, x4), (7, x7), (8, x8), (9, x9)] k
noncomputable def kcA_balerref08_Groups (lf d : Nat) : Ex → Fr → M Value := contAt Tryd.prog (evCall2 Tryd.prog gt lf d) (gt 10) lf (bodyOf Tryd.prog 10) [true, true, true, false, true, false] (endK Tryd.prog (resOf Tryd.prog 10))
noncomputable def b_balerref08_Groups (lf d : Nat) (a0 : Value) : M Value :=
 optK (len2 Tryd.prog #[22] [a0]) fun v8n1 =>
 lpA_balerref08_Groups lf d lf (kcA_balerref08_Groups lf d) a0 (Value.slice none 0 0) (Value.slice none 0 0) (Value.slice none 0 0) a0 v8n1 (Value.int .i64 0)
theorem sh_balerref08_Groups (lf d : Nat) (a0 : Value) : evCall2 Tryd.prog gt lf (d + 1) 10 #[a0] = inside (b_balerref08_Groups lf d a0) := by kernel_rfl
theorem succA_balerref08_Groups (lf d fu : Nat) (k : Ex → Fr → M Value) (x0 x2 x3 x4 x7 x8 x9 : Value) : lpA_balerref08_Groups lf d (fu + 1) k x0 x2 x3 x4 x7 x8 x9 =
 optK (bin2 Tryd.prog .lss 3 x9 x8) fun v10n2 =>
 ifV v10n2 (
  optK (evIndexAddr Tryd.prog 22 x7 x9) fun v12n3 =>
  (inside (evLoad Tryd.prog 3 v12n3)).bind fun v13n4 =>
  (inside (evBuildSlice Tryd.prog 22 1 [(0, v13n4)])).bind fun v16n5 =>
  (inside (evAppend Tryd.prog 22 x4 v16n5)).bind fun v17n6 =>
  optK (len2 Tryd.prog #[22] [v17n6]) fun v19n7 =>
  optK (bin2 Tryd.prog .eql 3 v19n7 (Value.int .i64 50)) fun v20n8 =>
  ifV v20n8 (
   (inside (evBuildSlice Tryd.prog 23 1 [(0, v17n6)])).bind fun v30n9 =>
   (inside (evAppend Tryd.prog 23 x3 v30n9)).bind fun v31n10 =>
   optK (bin2 Tryd.prog .add 3 x9 (Value.int .i64 1)) fun v32n11 =>
   lpA_balerref08_Groups lf d fu k x0 x2 v31n10 (Value.slice none 0 0) x7 x8 v32n11) (
   optK (bin2 Tryd.prog .add 3 x9 (Value.int .i64 1)) fun v23n12 =>
   optK (len2 Tryd.prog #[22] [x0]) fun v25n13 =>
   optK (bin2 Tryd.prog .eql 3 v23n12 v25n13) fun v26n14 =>
   ifV v26n14 (
    (inside (evBuildSlice Tryd.prog 23 1 [(0, v17n6)])).bind fun v30n15 =>
    (inside (evAppend Tryd.prog 23 x3 v30n15)).bind fun v31n16 =>
    optK (bin2 Tryd.prog .add 3 x9 (Value.int .i64 1)) fun v32n17 =>
    lpA_balerref08_Groups lf d fu k x0 x2 v31n16 (Value.slice none 0 0) x7 x8 v32n17) (
    optK (bin2 Tryd.prog .add 3 x9 (Value.int .i64 1)) fun v32n18 =>
    lpA_balerref08_Groups lf d fu k x0 x2 x3 v17n6 x7 x8 v32n18))) (
  k (Ex.exit 0) [(0, x0), (2, x2), (3, x3), (4, x4), (7, x7), (8, x8), (9, x9), (10, v10n2)]) := by kernel_rfl
theorem kcAa_balerref08_Groups (lf d : Nat) (y0 y2 y3 y4 y7 y8 y9 y10 : Value) : kcA_balerref08_Groups lf d (Ex.exit 0) [(0, y0), (2, y2), (3, y3), (4, y4), (7, y7), (8, y8), (9, y9), (10, y10)] =
 outK [y3] := by kernel_rfl

noncomputable def lpA_balerref08_Of (lf d fu : Nat) (k : Ex → Fr → M Value) (x0 x1 x4 x7 x8 x9 : Value) : M Value := loopK (fun s1 k1 => codeK Tryd.prog (evCall2 Tryd.prog gt lf d) (gt 11) lf (codeAt (bodyOf Tryd.prog 11) [true, false, true, false, false]) s1 k1) [0, 1, 4, 7, 8, 9] fu [(0, x0), (1, x1), (4, x4), (7, x7), (8, x8), (9, x9)] k
noncomputable def kcA_balerref08_Of (lf d : Nat) : Ex → Fr → M Value := contAt Tryd.prog (evCall2 Tryd.prog gt lf d) (gt 11) lf (bodyOf Tryd.prog 11) [true, false, true, false] (endK Tryd.prog (resOf Tryd.prog 11))
noncomputable def b_balerref08_Of (lf d : Nat) (a0 a1 : Value) : M Value :=
 optK (len2 Tryd.prog #[22] [a0]) fun v8n1 =>
 lpA_balerref08_Of lf d lf (kcA_balerref08_Of lf d) a0 a1 (Value.bool false) a0 v8n1 (Value.int .i64 0)
theorem sh_balerref08_Of (lf d : Nat) (a0 a1 : Value) : evCall2 Tryd.prog gt lf (d + 1) 11 #[a0, a1] = inside (b_balerref08_Of lf d a0 a1) := by kernel_rfl
theorem succA_balerref08_Of (lf d fu : Nat) (k : Ex → Fr → M Value) (x0 x1 x4 x7 x8 x9 : Value) : lpA_balerref08_Of lf d (fu + 1) k x0 x1 x4 x7 x8 x9 =
 optK (bin2 Tryd.prog .lss 3 x9 x8) fun v10n2 =>
 ifV v10n2 (
  optK (evIndexAddr Tryd.prog 22 x7 x9) fun v11n3 =>
  (inside (evLoad Tryd.prog 3 v11n3)).bind fun v12n4 =>
  optK (bin2 Tryd.prog .lss 3 v12n4 (Value.int .i64 0)) fun v14n5 =>
  ifV v14n5 (
   k Ex.ret [(0, x0), (1, x1), (4, (Value.bool false)), (6, v12n4), (7, x7), (8, x8), (9, x9), (10, v10n2), (19, (Value.bool true))]) (
   optK (bin2 Tryd.prog .geq 3 v12n4 x1) fun v18n6 =>
   ifV v18n6 (
    k Ex.ret [(0, x0), (1, x1), (4, (Value.bool false)), (6, v12n4), (7, x7), (8, x8), (9, x9), (10, v10n2), (19, v18n6)]) (
    optK (bin2 Tryd.prog .add 3 x9 (Value.int .i64 1)) fun v20n7 =>
    lpA_balerref08_Of lf d fu k x0 x1 x4 x7 x8 v20n7))) (
  k (Ex.exit 0) [(0, x0), (1, x1), (4, x4), (7, x7), (8, x8), (9, x9), (10, v10n2)]) := by kernel_rfl
theorem kcAa_balerref08_Of (lf d : Nat) (y0 y1 y4 y6 y7 y8 y9 y10 y19 : Value) : kcA_balerref08_Of lf d Ex.ret [(0, y0), (1, y1), (4, y4), (6, y6), (7, y7), (8, y8), (9, y9), (10, y10), (19, y19)] =
 outK [y4] := by kernel_rfl
theorem kcAb_balerref08_Of (lf d : Nat) (y0 y1 y4 y7 y8 y9 y10 : Value) : kcA_balerref08_Of lf d (Ex.exit 0) [(0, y0), (1, y1), (4, y4), (7, y7), (8, y8), (9, y9), (10, y10)] =
 outK [(Value.bool true)] := by kernel_rfl

noncomputable def lpA_balerref08_Cost (lf d fu : Nat) (k : Ex → Fr → M Value) (x0 x1 x4 x5 x8 x9 x10 : Value) : M Value := loopK (fun s1 k1 => codeK Tryd.prog (evCall2 Tryd.prog gt lf d) (gt 13) lf (codeAt (bodyOf Tryd.prog 13) [true, true, false, true, false, false]) s1 k1) [0, 1, 4, 5, 8, 9, 10] fu [(0, x0), (1, x1), (4, x4), (5, x5), (8, x8), (9, x9), (10, x10)] k
noncomputable def kcA_balerref08_Cost (lf d : Nat) : Ex → Fr → M Value := contAt Tryd.prog (evCall2 Tryd.prog gt lf d) (gt 13) lf (bodyOf Tryd.prog 13) [true, true, false, true, false] (endK Tryd.prog (resOf Tryd.prog 13))
noncomputable def lpB_balerref08_Cost (lf d fu : Nat) (k : Ex → Fr → M Value) (x0 x1 x4 x5 x6 x7 x8 x9 x10 x11 x17 x18 : Value) : M Value := loopK (fun s1 k1 => codeK Tryd.prog (evCall2 Tryd.prog gt lf d) (gt 13) lf (codeAt (bodyOf Tryd.prog 13) [true, true, false, true, false, false, true, true, false, false, true, true, false, false]) s1 k1) [0, 1, 4, 5, 6, 7, 8, 9, 10, 11, 17, 18] fu [(0, x0), (1, x1), (4, x4), (5, x5), (6, x6), (7, x7), (8, x8), (9, x9), (10, x10), (11, x11), (17, x17), (18, x18)] k
noncomputable def kcB_balerref08_Cost (lf d fu : Nat) (k : Ex → Fr → M Value) : Ex → Fr → M Value := contAt Tryd.prog (evCall2 Tryd.prog gt lf d) (gt 13) lf (codeAt (bodyOf Tryd.prog 13) [true, true, false, true, false, false]) [true, true, false, false, true, true, false] (againK (fun s1 => loopK (fun s1 k1 => codeK Tryd.prog (evCall2 Tryd.prog gt lf d) (gt 13) lf (codeAt (bodyOf Tryd.prog 13) [true, true, false, true, false, false]) s1 k1) [0, 1, 4, 5, 8, 9, 10] fu (s1.keep [0, 1, 4, 5, 8, 9, 10]) k) k)
noncomputable def b_balerref08_Cost (lf d : Nat) (a0 a1 : Value) : M Value :=
 optK (len2 Tryd.prog #[22] [a1]) fun v9n1 =>
 lpA_balerref08_Cost lf d lf (kcA_balerref08_Cost lf d) a0 a1 (Value.int .i64 0) (Value.int .i64 0) a1 v9n1 (Value.int .i64 0)
theorem sh_balerref08_Cost (lf d : Nat) (a0 a1 : Value) : evCall2 Tryd.prog gt lf (d + 1) 13 #[a0, a1] = inside (b_balerref08_Cost lf d a0 a1) := by kernel_rfl
theorem succA_balerref08_Cost (lf d fu : Nat) (k : Ex → Fr → M Value) (x0 x1 x4 x5 x8 x9 x10 : Value) : lpA_balerref08_Cost lf d (fu + 1) k x0 x1 x4 x5 x8 x9 x10 =
 optK (bin2 Tryd.prog .lss 3 x10 x9) fun v11n2 =>
 ifV v11n2 (
  optK (evIndexAddr Tryd.prog 22 x8 x10) fun v13n3 =>
  (inside (evLoad Tryd.prog 3 v13n3)).bind fun v14n4 =>
  (inside (evCall2 Tryd.prog gt lf d 32 #[x0, x10])).bind fun v17n5 =>
  lpB_balerref08_Cost lf d lf (kcB_balerref08_Cost lf d fu k) x0 x1 x4 x5 x10 v14n4 x8 x9 x10 v11n2 v17n5 (Value.int .i64 0)) (
  k (Ex.exit 0) [(0, x0), (1, x1), (4, x4), (5, x5), (8, x8), (9, x9), (10, x10), (11, v11n2)]) := by kernel_rfl
theorem kcAa_balerref08_Cost (lf d : Nat) (y0 y1 y4 y5 y8 y9 y10 y11 : Value) : kcA_balerref08_Cost lf d (Ex.exit 0) [(0, y0), (1, y1), (4, y4), (5, y5), (8, y8), (9, y9), (10, y10), (11, y11)] =
 outK [y5] := by kernel_rfl
theorem succB_balerref08_Cost (lf d fu : Nat) (k : Ex → Fr → M Value) (x0 x1 x4 x5 x6 x7 x8 x9 x10 x11 x17 x18 : Value) : lpB_balerref08_Cost lf d (fu + 1) k x0 x1 x4 x5 x6 x7 x8 x9 x10 x11 x17 x18 =
 optK (bin2 Tryd.prog .lss 3 x18 x17) fun v19n6 =>
 ifV v19n6 (
  optK (bin2 Tryd.prog .add 3 x5 x7) fun v22n7 =>
  (inside (evCall2 Tryd.prog gt lf d 33 #[v22n7])).bind fun v23n8 =>
  optK (bin2 Tryd.prog .add 3 x18 (Value.int .i64 1)) fun v24n9 =>
  lpB_balerref08_Cost lf d fu k x0 x1 x4 v23n8 x6 x7 x8 x9 x10 x11 x17 v24n9) (
  k (Ex.exit 2) [(0, x0), (1, x1), (4, x4), (5, x5), (6, x6), (7, x7), (8, x8), (9, x9), (10, x10), (11, x11), (17, x17), (18, x18), (19, v19n6)]) := by kernel_rfl
theorem kcBa_balerref08_Cost (lf d fu : Nat) (k : Ex → Fr → M Value) (y0 y1 y4 y5 y6 y7 y8 y9 y10 y11 y17 y18 y19 : Value) : kcB_balerref08_Cost lf d fu k (Ex.exit 2) [(0, y0), (1, y1), (4, y4), (5, y5), (6, y6), (7, y7), (8, y8), (9, y9), (10, y10), (11, y11), (17, y17), (18, y18), (19, y19)] =
 optK (bin2 Tryd.prog .add 3 y10 (Value.int .i64 1)) fun v25n10 =>
 lpA_balerref08_Cost lf d fu k y0 y1 y4 y5 y8 y9 v25n10 := by kernel_rfl

noncomputable def b_balerref08_Size (lf d : Nat) (a0 : Value) : M Value :=
 optK (bin2 Tryd.prog .geq 3 a0 (Value.int .i64 3)) fun v4n1 =>
 ifV v4n1 (
  optK (bin2 Tryd.prog .leq 3 a0 (Value.int .i64 258)) fun v7n2 =>
  outK [v7n2]) (
  outK [(Value.bool false)])
theorem sh_balerref08_Size (lf d : Nat) (a0 : Value) : evCall2 Tryd.prog gt lf (d + 1) 14 #[a0] = inside (b_balerref08_Size lf d a0) := by kernel_rfl

noncomputable def lpA_tables_Of (lf d fu : Nat) (k : Ex → Fr → M Value) (x0 x1 x4 x5 x6 x7 x8 x9 x18 x27 x40 : Value) : M Value := loopK (fun s1 k1 => codeK Tryd.prog (evCall2 Tryd.prog gt lf d) (gt 15) lf (codeAt (bodyOf Tryd.prog 15) [true, true, true, true, true, false, true, false, false]) s1 k1) [0, 1, 4, 5, 6, 7, 8, 9, 18, 27, 40] fu [(0, x0), (1, x1), (4, x4), (5, x5), (6, x6), (7, x7), (8, x8), (9, x9), (18, x18), (27, x27), (40, x40)] k
noncomputable def kcA_tables_Of (lf d : Nat) : Ex → Fr → M Value := contAt Tryd.prog (evCall2 Tryd.prog gt lf d) (gt 15) lf (bodyOf Tryd.prog 15) [true, true, true, true, true, false, true, false] (endK Tryd.prog (resOf Tryd.prog 15))
noncomputable def b_tables_Of (lf d : Nat) (a0 a1 : Value) : M Value :=
 (inside (evAlloc Tryd.prog 25)).bind fun v4n1 =>
 (inside (evCall2 Tryd.prog gt lf d 34 #[a0, a1])).bind fun v15n2 =>
 optK (evExtract v15n2 0) fun v16n3 =>
 optK (evExtract v15n2 1) fun v17n4 =>
 optK (bin2 Tryd.prog .neq 27 v17n4 (Value.int .i64 0)) fun v20n5 =>
 ifV v20n5 (
  (inside (evBuild Tryd.prog 25 [])).bind fun v26n6 =>
  (inside (evStore Tryd.prog 25 v4n1 v26n6)).bind fun u7 =>
  (evLoad Tryd.prog 25 v4n1).bind fun vrn8 =>
  outK [vrn8, (Value.int .i64 1)]) (
  optK (len2 Tryd.prog #[22] [a0]) fun v23n9 =>
  optK (bin2 Tryd.prog .eql 3 v23n9 (Value.int .i64 0)) fun v24n10 =>
  ifV v24n10 (
   (inside (evBuild Tryd.prog 25 [])).bind fun v26n11 =>
   (inside (evStore Tryd.prog 25 v4n1 v26n11)).bind fun u12 =>
   (evLoad Tryd.prog 25 v4n1).bind fun vrn13 =>
   outK [vrn13, (Value.int .i64 1)]) (
   optK (len2 Tryd.prog #[22] [a0]) fun v29n14 =>
   (inside (evCall2 Tryd.prog gt lf d 29 #[v29n14])).bind fun v30n15 =>
   optK (bin2 Tryd.prog .gtr 3 v30n15 (Value.int .i64 32767)) fun v31n16 =>
   ifV v31n16 (
    (inside (evBuild Tryd.prog 25 [])).bind fun v32n17 =>
    (inside (evStore Tryd.prog 25 v4n1 v32n17)).bind fun u18 =>
    (evLoad Tryd.prog 25 v4n1).bind fun vrn19 =>
    outK [vrn19, (Value.int .i64 2)]) (
    (inside (evCall2 Tryd.prog gt lf d 35 #[a0])).bind fun v34n20 =>
    optK (len2 Tryd.prog #[22] [a0]) fun v37n21 =>
    (inside (evCall2 Tryd.prog gt lf d 36 #[v16n3, v37n21])).bind fun v38n22 =>
    (inside (evBuild Tryd.prog 25 [(0, v38n22)])).bind fun v39n23 =>
    (inside (evAlloc Tryd.prog 25)).bind fun v9n24 =>
    (inside (evStore Tryd.prog 25 v9n24 v39n23)).bind fun u25 =>
    lpA_tables_Of lf d lf (kcA_tables_Of lf d) a0 a1 v4n1 (Value.int .i64 0) v16n3 v17n4 v34n20 v9n24 v24n10 v31n16 (Value.int .i64 0))))
theorem sh_tables_Of (lf d : Nat) (a0 a1 : Value) : evCall2 Tryd.prog gt lf (d + 1) 15 #[a0, a1] = inside (b_tables_Of lf d a0 a1) := by kernel_rfl
theorem succA_tables_Of (lf d fu : Nat) (k : Ex → Fr → M Value) (x0 x1 x4 x5 x6 x7 x8 x9 x18 x27 x40 : Value) : lpA_tables_Of lf d (fu + 1) k x0 x1 x4 x5 x6 x7 x8 x9 x18 x27 x40 =
 optK (bin2 Tryd.prog .lss 3 x40 (Value.int .i64 4)) fun v41n26 =>
 ifV v41n26 (
  optK (evFieldAddr Tryd.prog 25 x9 0) fun v44n27 =>
  (inside (evLoad Tryd.prog 23 v44n27)).bind fun v45n28 =>
  (inside (evCall2 Tryd.prog gt lf d 37 #[x8, v45n28, x1])).bind fun v47n29 =>
  optK (evExtract v47n29 0) fun v48n30 =>
  optK (evExtract v47n29 1) fun v49n31 =>
  (inside (evBuild Tryd.prog 25 [(0, v49n31), (1, v48n30)])).bind fun v52n32 =>
  (inside (evStore Tryd.prog 25 x9 v52n32)).bind fun u33 =>
  optK (bin2 Tryd.prog .add 3 x40 (Value.int .i64 1)) fun v53n34 =>
  lpA_tables_Of lf d fu k x0 x1 x4 x5 x6 x7 x8 x9 x18 x27 v53n34) (
  k (Ex.exit 1) [(0, x0), (1, x1), (4, x4), (5, x5), (6, x6), (7, x7), (8, x8), (9, x9), (18, x18), (27, x27), (40, x40), (41, v41n26)]) := by kernel_rfl
theorem kcAa_tables_Of (lf d : Nat) (y0 y1 y4 y5 y6 y7 y8 y9 y18 y27 y40 y41 : Value) : kcA_tables_Of lf d (Ex.exit 1) [(0, y0), (1, y1), (4, y4), (5, y5), (6, y6), (7, y7), (8, y8), (9, y9), (18, y18), (27, y27), (40, y40), (41, y41)] =
 (inside (evLoad Tryd.prog 25 y9)).bind fun v54n35 =>
 (inside (evStore Tryd.prog 25 y4 v54n35)).bind fun u36 =>
 (evLoad Tryd.prog 25 y4).bind fun vrn37 =>
 outK [vrn37, (Value.int .i64 0)] := by kernel_rfl

noncomputable def b_balerref12_Number (lf d : Nat) (a0 : Value) : M Value :=
 optK (bin2 Tryd.prog .lss 3 a0 (Value.int .i64 200)) fun v4n1 =>
 ifV v4n1 (
  outK [(Value.int .i64 2)]) (
  optK (bin2 Tryd.prog .lss 3 a0 (Value.int .i64 600)) fun v6n2 =>
  ifV v6n2 (
   outK [(Value.int .i64 3)]) (
   optK (bin2 Tryd.prog .lss 3 a0 (Value.int .i64 1200)) fun v8n3 =>
   ifV v8n3 (
    outK [(Value.int .i64 4)]) (
    optK (bin2 Tryd.prog .lss 3 a0 (Value.int .i64 2400)) fun v10n4 =>
    ifV v10n4 (
     outK [(Value.int .i64 5)]) (
     outK [(Value.int .i64 6)]))))
theorem sh_balerref12_Number (lf d : Nat) (a0 : Value) : evCall2 Tryd.prog gt lf (d + 1) 16 #[a0] = inside (b_balerref12_Number lf d a0) := by kernel_rfl

noncomputable def lpA_tables_Number (lf d fu : Nat) (k : Ex → Fr → M Value) (x0 x2 x3 x6 x7 : Value) : M Value := loopK (fun s1 k1 => codeK Tryd.prog (evCall2 Tryd.prog gt lf d) (gt 19) lf (codeAt (bodyOf Tryd.prog 19) [true, true, false, true, false, false]) s1 k1) [0, 2, 3, 6, 7] fu [(0, x0), (2, x2), (3, x3), (6, x6), (7, x7)] k
noncomputable def kcA_tables_Number (lf d : Nat) : Ex → Fr → M Value := contAt Tryd.prog (evCall2 Tryd.prog gt lf d) (gt 19) lf (bodyOf Tryd.prog 19) [true, true, false, true, false] (endK Tryd.prog (resOf Tryd.prog 19))
noncomputable def b_tables_Number (lf d : Nat) (a0 : Value) : M Value :=
 (inside (evLoad Tryd.prog 58 (Value.pointer (some ⟨0, 0, none⟩)))).bind fun v6n1 =>
 lpA_tables_Number lf d lf (kcA_tables_Number lf d) a0 (Value.int .i64 0) (Value.int .i64 2) v6n1 (Value.int .i64 0)
theorem sh_tables_Number (lf d : Nat) (a0 : Value) : evCall2 Tryd.prog gt lf (d + 1) 19 #[a0] = inside (b_tables_Number lf d a0) := by kernel_rfl
theorem succA_tables_Number (lf d fu : Nat) (k : Ex → Fr → M Value) (x0 x2 x3 x6 x7 : Value) : lpA_tables_Number lf d (fu + 1) k x0 x2 x3 x6 x7 =
 optK (bin2 Tryd.prog .lss 3 x7 (Value.int .i64 4)) fun v8n2 =>
 ifV v8n2 (
  optK (index2 Tryd.prog 58 x6 x7) fun v9n3 =>
  optK (bin2 Tryd.prog .geq 3 x0 v9n3) fun v12n4 =>
  ifV v12n4 (
   optK (bin2 Tryd.prog .add 3 x3 (Value.int .i64 1)) fun v14n5 =>
   optK (bin2 Tryd.prog .add 3 x7 (Value.int .i64 1)) fun v15n6 =>
   lpA_tables_Number lf d fu k x0 x2 v14n5 x6 v15n6) (
   optK (bin2 Tryd.prog .add 3 x7 (Value.int .i64 1)) fun v15n7 =>
   lpA_tables_Number lf d fu k x0 x2 x3 x6 v15n7)) (
  k (Ex.exit 0) [(0, x0), (2, x2), (3, x3), (6, x6), (7, x7), (8, v8n2)]) := by kernel_rfl
theorem kcAa_tables_Number (lf d : Nat) (y0 y2 y3 y6 y7 y8 : Value) : kcA_tables_Number lf d (Ex.exit 0) [(0, y0), (2, y2), (3, y3), (6, y6), (7, y7), (8, y8)] =
 outK [y3] := by kernel_rfl

noncomputable def lpA_balerref09_May (lf d fu : Nat) (k : Ex → Fr → M Value) (x0 x1 x2 x6 x9 x10 x11 : Value) : M Value := loopK (fun s1 k1 => codeK Tryd.prog (evCall2 Tryd.prog gt lf d) (gt 20) lf (codeAt (bodyOf Tryd.prog 20) [true, false, true, false, false]) s1 k1) [0, 1, 2, 6, 9, 10, 11] fu [(0, x0), (1, x1), (2, x2), (6, x6), (9, x9), (10, x10), (11, x11)] k
noncomputable def kcA_balerref09_May (lf d : Nat) : Ex → Fr → M Value := contAt Tryd.prog (evCall2 Tryd.prog gt lf d) (gt 20) lf (bodyOf Tryd.prog 20) [true, false, true, false] (endK Tryd.prog (resOf Tryd.prog 20))
noncomputable def b_balerref09_May (lf d : Nat) (a0 a1 a2 : Value) : M Value :=
 optK (len2 Tryd.prog #[22] [a0]) fun v10n1 =>
 lpA_balerref09_May lf d lf (kcA_balerref09_May lf d) a0 a1 a2 (Value.bool false) a0 v10n1 (Value.int .i64 0)
theorem sh_balerref09_May (lf d : Nat) (a0 a1 a2 : Value) : evCall2 Tryd.prog gt lf (d + 1) 20 #[a0, a1, a2] = inside (b_balerref09_May lf d a0 a1 a2) := by kernel_rfl
theorem succA_balerref09_May (lf d fu : Nat) (k : Ex → Fr → M Value) (x0 x1 x2 x6 x9 x10 x11 : Value) : lpA_balerref09_May lf d (fu + 1) k x0 x1 x2 x6 x9 x10 x11 =
 optK (bin2 Tryd.prog .lss 3 x11 x10) fun v12n2 =>
 ifV v12n2 (
  optK (evIndexAddr Tryd.prog 22 x9 x11) fun v13n3 =>
  (inside (evLoad Tryd.prog 3 v13n3)).bind fun v14n4 =>
  optK (bin2 Tryd.prog .lss 3 v14n4 x1) fun v17n5 =>
  ifV v17n5 (
   k Ex.ret [(0, x0), (1, x1), (2, x2), (6, (Value.bool false)), (8, v14n4), (9, x9), (10, x10), (11, x11), (12, v12n2), (22, (Value.bool true))]) (
   optK (bin2 Tryd.prog .gtr 3 v14n4 x2) fun v21n6 =>
   ifV v21n6 (
    k Ex.ret [(0, x0), (1, x1), (2, x2), (6, (Value.bool false)), (8, v14n4), (9, x9), (10, x10), (11, x11), (12, v12n2), (22, v21n6)]) (
    optK (bin2 Tryd.prog .add 3 x11 (Value.int .i64 1)) fun v23n7 =>
    lpA_balerref09_May lf d fu k x0 x1 x2 x6 x9 x10 v23n7))) (
  k (Ex.exit 0) [(0, x0), (1, x1), (2, x2), (6, x6), (9, x9), (10, x10), (11, x11), (12, v12n2)]) := by kernel_rfl
theorem kcAa_balerref09_May (lf d : Nat) (y0 y1 y2 y6 y8 y9 y10 y11 y12 y22 : Value) : kcA_balerref09_May lf d Ex.ret [(0, y0), (1, y1), (2, y2), (6, y6), (8, y8), (9, y9), (10, y10), (11, y11), (12, y12), (22, y22)] =
 outK [y6] := by kernel_rfl
theorem kcAb_balerref09_May (lf d : Nat) (y0 y1 y2 y6 y9 y10 y11 y12 : Value) : kcA_balerref09_May lf d (Ex.exit 0) [(0, y0), (1, y1), (2, y2), (6, y6), (9, y9), (10, y10), (11, y11), (12, y12)] =
 outK [(Value.bool true)] := by kernel_rfl

noncomputable def lpA_balerplain_Rows (lf d fu : Nat) (k : Ex → Fr → M Value) (x0 x1 x4 x10 x12 x13 : Value) : M Value := loopK (fun s1 k1 => codeK Tryd.prog (evCall2 Tryd.prog gt lf d) (gt 22) lf (codeAt (bodyOf Tryd.prog 22) [true, true, false, true, false, false]) s1 k1) [0, 1, 4, 10, 12, 13] fu [(0, x0), (1, x1), (4, x4), (10, x10), (12, x12), (13, x13)] k
noncomputable def kcA_balerplain_Rows (lf d : Nat) : Ex → Fr → M Value := contAt Tryd.prog (evCall2 Tryd.prog gt lf d) (gt 22) lf (bodyOf Tryd.prog 22) [true, true, false, true, false] (endK Tryd.prog (resOf Tryd.prog 22))
noncomputable def b_balerplain_Rows (lf d : Nat) (a0 a1 : Value) : M Value :=
 optK (len2 Tryd.prog #[23] [a0]) fun v7n1 =>
 optK (len2 Tryd.prog #[23] [a1]) fun v9n2 =>
 optK (bin2 Tryd.prog .neq 3 v7n1 v9n2) fun v10n3 =>
 ifV v10n3 (
  outK [(Value.bool false)]) (
  optK (len2 Tryd.prog #[23] [a0]) fun v12n4 =>
  lpA_balerplain_Rows lf d lf (kcA_balerplain_Rows lf d) a0 a1 (Value.bool false) v10n3 v12n4 (Value.int .i64 0))
theorem sh_balerplain_Rows (lf d : Nat) (a0 a1 : Value) : evCall2 Tryd.prog gt lf (d + 1) 22 #[a0, a1] = inside (b_balerplain_Rows lf d a0 a1) := by kernel_rfl
theorem succA_balerplain_Rows (lf d fu : Nat) (k : Ex → Fr → M Value) (x0 x1 x4 x10 x12 x13 : Value) : lpA_balerplain_Rows lf d (fu + 1) k x0 x1 x4 x10 x12 x13 =
 optK (bin2 Tryd.prog .lss 3 x13 x12) fun v14n5 =>
 ifV v14n5 (
  optK (evIndexAddr Tryd.prog 23 x0 x13) fun v18n6 =>
  (inside (evLoad Tryd.prog 22 v18n6)).bind fun v19n7 =>
  optK (evIndexAddr Tryd.prog 23 x1 x13) fun v22n8 =>
  (inside (evLoad Tryd.prog 22 v22n8)).bind fun v23n9 =>
  (inside (evCall2 Tryd.prog gt lf d 28 #[v19n7, v23n9])).bind fun v24n10 =>
  optK (un2 Tryd.prog .not v24n10) fun v25n11 =>
  ifV v25n11 (
   k Ex.ret [(0, x0), (1, x1), (4, (Value.bool false)), (5, x13), (10, x10), (12, x12), (13, x13), (14, v14n5), (25, v25n11)]) (
   optK (bin2 Tryd.prog .add 3 x13 (Value.int .i64 1)) fun v26n12 =>
   lpA_balerplain_Rows lf d fu k x0 x1 x4 x10 x12 v26n12)) (
  k (Ex.exit 0) [(0, x0), (1, x1), (4, x4), (10, x10), (12, x12), (13, x13), (14, v14n5)]) := by kernel_rfl
theorem kcAa_balerplain_Rows (lf d : Nat) (y0 y1 y4 y5 y10 y12 y13 y14 y25 : Value) : kcA_balerplain_Rows lf d Ex.ret [(0, y0), (1, y1), (4, y4), (5, y5), (10, y10), (12, y12), (13, y13), (14, y14), (25, y25)] =
 outK [y4] := by kernel_rfl
theorem kcAb_balerplain_Rows (lf d : Nat) (y0 y1 y4 y10 y12 y13 y14 : Value) : kcA_balerplain_Rows lf d (Ex.exit 0) [(0, y0), (1, y1), (4, y4), (10, y10), (12, y12), (13, y13), (14, y14)] =
 outK [(Value.bool true)] := by kernel_rfl

noncomputable def lpA_balerref12_First (lf d fu : Nat) (k : Ex → Fr → M Value) (x0 x1 x4 x5 x6 x14 x15 : Value) : M Value := loopK (fun s1 k1 => codeK Tryd.prog (evCall2 Tryd.prog gt lf d) (gt 23) lf (codeAt (bodyOf Tryd.prog 23) [true, true, true, false, true, false, false]) s1 k1) [0, 1, 4, 5, 6, 14, 15] fu [(0, x0), (1, x1), (4, x4), (5, x5), (6, x6), (14, x14), (15, x15)] k
noncomputable def kcA_balerref12_First (lf d : Nat) : Ex → Fr → M Value := contAt Tryd.prog (evCall2 Tryd.prog gt lf d) (gt 23) lf (bodyOf Tryd.prog 23) [true, true, true, false, true, false] (endK Tryd.prog (resOf Tryd.prog 23))
noncomputable def lpB_balerref12_First (lf d fu : Nat) (k : Ex → Fr → M Value) (x0 x1 x4 x5 x6 x7 x8 x9 x14 x15 x16 x18 x19 x20 : Value) : M Value := loopK (fun s1 k1 => codeK Tryd.prog (evCall2 Tryd.prog gt lf d) (gt 23) lf (codeAt (bodyOf Tryd.prog 23) [true, true, true, false, true, false, false, true, true, false, false, true, true, true, false, true, false, false]) s1 k1) [0, 1, 4, 5, 6, 7, 8, 9, 14, 15, 16, 18, 19, 20] fu [(0, x0), (1, x1), (4, x4), (5, x5), (6, x6), (7, x7), (8, x8), (9, x9), (14, x14), (15, x15), (16, x16), (18, x18), (19, x19), (20, x20)] k
noncomputable def kcB_balerref12_First (lf d fu : Nat) (k : Ex → Fr → M Value) : Ex → Fr → M Value := contAt Tryd.prog (evCall2 Tryd.prog gt lf d) (gt 23) lf (codeAt (bodyOf Tryd.prog 23) [true, true, true, false, true, false, false]) [true, true, false, false, true, true, true, false, true, false] (againK (fun s1 => loopK (fun s1 k1 => codeK Tryd.prog (evCall2 Tryd.prog gt lf d) (gt 23) lf (codeAt (bodyOf Tryd.prog 23) [true, true, true, false, true, false, false]) s1 k1) [0, 1, 4, 5, 6, 14, 15] fu (s1.keep [0, 1, 4, 5, 6, 14, 15]) k) k)
noncomputable def b_balerref12_First (lf d : Nat) (a0 a1 : Value) : M Value :=
 (inside (evCall2 Tryd.prog gt lf d 16 #[a1])).bind fun v13n1 =>
 lpA_balerref12_First lf d lf (kcA_balerref12_First lf d) a0 a1 (Value.slice none 0 0) v13n1 (Value.slice none 0 0) v13n1 (Value.int .i64 0)
theorem sh_balerref12_First (lf d : Nat) (a0 a1 : Value) : evCall2 Tryd.prog gt lf (d + 1) 23 #[a0, a1] = inside (b_balerref12_First lf d a0 a1) := by kernel_rfl
theorem succA_balerref12_First (lf d fu : Nat) (k : Ex → Fr → M Value) (x0 x1 x4 x5 x6 x14 x15 : Value) : lpA_balerref12_First lf d (fu + 1) k x0 x1 x4 x5 x6 x14 x15 =
 optK (bin2 Tryd.prog .lss 3 x15 x14) fun v16n2 =>
 ifV v16n2 (
  optK (len2 Tryd.prog #[22] [x0]) fun v19n3 =>
  lpB_balerref12_First lf d lf (kcB_balerref12_First lf d fu k) x0 x1 x4 x5 x6 x15 (Value.slice none 0 0) (Value.int .i64 0) x14 x15 v16n2 x0 v19n3 (Value.int .i64 0)) (
  k (Ex.exit 0) [(0, x0), (1, x1), (4, x4), (5, x5), (6, x6), (14, x14), (15, x15), (16, v16n2)]) := by kernel_rfl
theorem kcAa_balerref12_First (lf d : Nat) (y0 y1 y4 y5 y6 y14 y15 y16 : Value) : kcA_balerref12_First lf d (Ex.exit 0) [(0, y0), (1, y1), (4, y4), (5, y5), (6, y6), (14, y14), (15, y15), (16, y16)] =
 outK [y6] := by kernel_rfl
theorem succB_balerref12_First (lf d fu : Nat) (k : Ex → Fr → M Value) (x0 x1 x4 x5 x6 x7 x8 x9 x14 x15 x16 x18 x19 x20 : Value) : lpB_balerref12_First lf d (fu + 1) k x0 x1 x4 x5 x6 x7 x8 x9 x14 x15 x16 x18 x19 x20 =
 optK (bin2 Tryd.prog .lss 3 x20 x19) fun v21n4 =>
 ifV v21n4 (
  optK (evIndexAddr Tryd.prog 22 x18 x20) fun v22n5 =>
  (inside (evLoad Tryd.prog 3 v22n5)).bind fun v23n6 =>
  optK (bin2 Tryd.prog .sub 3 x1 (Value.int .i64 1)) fun v26n7 =>
  optK (bin2 Tryd.prog .gtr 3 x9 v26n7) fun v27n8 =>
  ifV v27n8 (
   optK (bin2 Tryd.prog .sub 3 x1 (Value.int .i64 1)) fun v29n9 =>
   optK (bin2 Tryd.prog .mul 3 v29n9 x5) fun v32n10 =>
   optK (bin2 Tryd.prog .quo 3 v32n10 x1) fun v34n11 =>
   optK (bin2 Tryd.prog .eql 3 v34n11 x7) fun v36n12 =>
   ifV v36n12 (
    (inside (evBuildSlice Tryd.prog 22 1 [(0, (Value.int .i64 0))])).bind fun v38n13 =>
    (inside (evAppend Tryd.prog 22 x8 v38n13)).bind fun v39n14 =>
    optK (bin2 Tryd.prog .add 3 v29n9 v23n6) fun v45n15 =>
    optK (bin2 Tryd.prog .add 3 x20 (Value.int .i64 1)) fun v46n16 =>
    lpB_balerref12_First lf d fu k x0 x1 x4 x5 x6 x7 v39n14 v45n15 x14 x15 x16 x18 x19 v46n16) (
    (inside (evBuildSlice Tryd.prog 22 1 [(0, (Value.int .i64 15))])).bind fun v41n17 =>
    (inside (evAppend Tryd.prog 22 x8 v41n17)).bind fun v42n18 =>
    optK (bin2 Tryd.prog .add 3 v29n9 v23n6) fun v45n19 =>
    optK (bin2 Tryd.prog .add 3 x20 (Value.int .i64 1)) fun v46n20 =>
    lpB_balerref12_First lf d fu k x0 x1 x4 x5 x6 x7 v42n18 v45n19 x14 x15 x16 x18 x19 v46n20)) (
   optK (bin2 Tryd.prog .mul 3 x9 x5) fun v32n21 =>
   optK (bin2 Tryd.prog .quo 3 v32n21 x1) fun v34n22 =>
   optK (bin2 Tryd.prog .eql 3 v34n22 x7) fun v36n23 =>
   ifV v36n23 (
    (inside (evBuildSlice Tryd.prog 22 1 [(0, (Value.int .i64 0))])).bind fun v38n24 =>
    (inside (evAppend Tryd.prog 22 x8 v38n24)).bind fun v39n25 =>
    optK (bin2 Tryd.prog .add 3 x9 v23n6) fun v45n26 =>
    optK (bin2 Tryd.prog .add 3 x20 (Value.int .i64 1)) fun v46n27 =>
    lpB_balerref12_First lf d fu k x0 x1 x4 x5 x6 x7 v39n25 v45n26 x14 x15 x16 x18 x19 v46n27) (
    (inside (evBuildSlice Tryd.prog 22 1 [(0, (Value.int .i64 15))])).bind fun v41n28 =>
    (inside (evAppend Tryd.prog 22 x8 v41n28)).bind fun v42n29 =>
    optK (bin2 Tryd.prog .add 3 x9 v23n6) fun v45n30 =>
    optK (bin2 Tryd.prog .add 3 x20 (Value.int .i64 1)) fun v46n31 =>
    lpB_balerref12_First lf d fu k x0 x1 x4 x5 x6 x7 v42n29 v45n30 x14 x15 x16 x18 x19 v46n31))) (
  k (Ex.exit 2) [(0, x0), (1, x1), (4, x4), (5, x5), (6, x6), (7, x7), (8, x8), (9, x9), (14, x14), (15, x15), (16, x16), (18, x18), (19, x19), (20, x20), (21, v21n4)]) := by kernel_rfl
theorem kcBa_balerref12_First (lf d fu : Nat) (k : Ex → Fr → M Value) (y0 y1 y4 y5 y6 y7 y8 y9 y14 y15 y16 y18 y19 y20 y21 : Value) : kcB_balerref12_First lf d fu k (Ex.exit 2) [(0, y0), (1, y1), (4, y4), (5, y5), (6, y6), (7, y7), (8, y8), (9, y9), (14, y14), (15, y15), (16, y16), (18, y18), (19, y19), (20, y20), (21, y21)] =
 (inside (evBuildSlice Tryd.prog 23 1 [(0, y8)])).bind fun v49n32 =>
 (inside (evAppend Tryd.prog 23 y6 v49n32)).bind fun v50n33 =>
 optK (bin2 Tryd.prog .add 3 y15 (Value.int .i64 1)) fun v51n34 =>
 lpA_balerref12_First lf d fu k y0 y1 y4 y5 v50n33 y14 v51n34 := by kernel_rfl

noncomputable def b_tables_Same (lf d : Nat) (a0 a1 : Value) : M Value :=
 (inside (evBox Tryd.prog 25 a0)).bind fun v2n1 =>
 (inside (evBox Tryd.prog 25 a1)).bind fun v3n2 =>
 optK (evFieldAddr Tryd.prog 25 v2n1 1) fun v5n3 =>
 (inside (evLoad Tryd.prog 22 v5n3)).bind fun v6n4 =>
 optK (evFieldAddr Tryd.prog 25 v3n2 1) fun v7n5 =>
 (inside (evLoad Tryd.prog 22 v7n5)).bind fun v8n6 =>
 (inside (evCall2 Tryd.prog gt lf d 41 #[v6n4, v8n6])).bind fun v9n7 =>
 ifV v9n7 (
  optK (evFieldAddr Tryd.prog 25 v2n1 0) fun v11n8 =>
  (inside (evLoad Tryd.prog 23 v11n8)).bind fun v12n9 =>
  optK (evFieldAddr Tryd.prog 25 v3n2 0) fun v13n10 =>
  (inside (evLoad Tryd.prog 23 v13n10)).bind fun v14n11 =>
  (inside (evCall2 Tryd.prog gt lf d 42 #[v12n9, v14n11, (Value.func (.func 43) #[] #[])])).bind fun v15n12 =>
  outK [v15n12]) (
  outK [(Value.bool false)])
theorem sh_tables_Same (lf d : Nat) (a0 a1 : Value) : evCall2 Tryd.prog gt lf (d + 1) 24 #[a0, a1] = inside (b_tables_Same lf d a0 a1) := by kernel_rfl

noncomputable def b_balerref12_Same (lf d : Nat) (a0 a1 : Value) : M Value :=
 (inside (evBox Tryd.prog 47 a0)).bind fun v2n1 =>
 (inside (evBox Tryd.prog 47 a1)).bind fun v3n2 =>
 optK (evFieldAddr Tryd.prog 47 v2n1 1) fun v5n3 =>
 (inside (evLoad Tryd.prog 22 v5n3)).bind fun v6n4 =>
 optK (evFieldAddr Tryd.prog 47 v3n2 1) fun v7n5 =>
 (inside (evLoad Tryd.prog 22 v7n5)).bind fun v8n6 =>
 (inside (evCall2 Tryd.prog gt lf d 28 #[v6n4, v8n6])).bind fun v9n7 =>
 ifV v9n7 (
  optK (evFieldAddr Tryd.prog 47 v2n1 0) fun v11n8 =>
  (inside (evLoad Tryd.prog 23 v11n8)).bind fun v12n9 =>
  optK (evFieldAddr Tryd.prog 47 v3n2 0) fun v13n10 =>
  (inside (evLoad Tryd.prog 23 v13n10)).bind fun v14n11 =>
  (inside (evCall2 Tryd.prog gt lf d 22 #[v12n9, v14n11])).bind fun v15n12 =>
  outK [v15n12]) (
  outK [(Value.bool false)])
theorem sh_balerref12_Same (lf d : Nat) (a0 a1 : Value) : evCall2 Tryd.prog gt lf (d + 1) 25 #[a0, a1] = inside (b_balerref12_Same lf d a0 a1) := by kernel_rfl

noncomputable def b_balerlaw12_ref (lf d : Nat) (a0 : Value) : M Value :=
 (inside (evBox Tryd.prog 25 a0)).bind fun v1n1 =>
 (inside (evAlloc Tryd.prog 47)).bind fun v2n2 =>
 optK (evFieldAddr Tryd.prog 25 v1n1 0) fun v3n3 =>
 (inside (evLoad Tryd.prog 23 v3n3)).bind fun v4n4 =>
 optK (evFieldAddr Tryd.prog 25 v1n1 1) fun v5n5 =>
 (inside (evLoad Tryd.prog 22 v5n5)).bind fun v6n6 =>
 (inside (evBuild Tryd.prog 47 [(0, v4n4), (1, v6n6)])).bind fun v7n7 =>
 (inside (evStore Tryd.prog 47 v2n2 v7n7)).bind fun u8 =>
 (evLoad Tryd.prog 47 v2n2).bind fun vrn9 =>
 outK [vrn9]
theorem sh_balerlaw12_ref (lf d : Nat) (a0 : Value) : evCall2 Tryd.prog gt lf (d + 1) 26 #[a0] = inside (b_balerlaw12_ref lf d a0) := by kernel_rfl

noncomputable def lpA_balerref12_Of (lf d fu : Nat) (k : Ex → Fr → M Value) (x0 x1 x4 x5 x6 x24 : Value) : M Value := loopK (fun s1 k1 => codeK Tryd.prog (evCall2 Tryd.prog gt lf d) (gt 27) lf (codeAt (bodyOf Tryd.prog 27) [true, true, true, false, true, false, false]) s1 k1) [0, 1, 4, 5, 6, 24] fu [(0, x0), (1, x1), (4, x4), (5, x5), (6, x6), (24, x24)] k
noncomputable def kcA_balerref12_Of (lf d : Nat) : Ex → Fr → M Value := contAt Tryd.prog (evCall2 Tryd.prog gt lf d) (gt 27) lf (bodyOf Tryd.prog 27) [true, true, true, false, true, false] (endK Tryd.prog (resOf Tryd.prog 27))
noncomputable def lpB_balerref12_Of (lf d fu : Nat) (k : Ex → Fr → M Value) (x0 x1 x4 x5 x6 x7 x24 x25 x26 x27 x28 : Value) : M Value := loopK (fun s1 k1 => codeK Tryd.prog (evCall2 Tryd.prog gt lf d) (gt 27) lf (codeAt (bodyOf Tryd.prog 27) [true, true, true, false, true, false, false, true, true, false, false, true, false, true, false, false]) s1 k1) [0, 1, 4, 5, 6, 7, 24, 25, 26, 27, 28] fu [(0, x0), (1, x1), (4, x4), (5, x5), (6, x6), (7, x7), (24, x24), (25, x25), (26, x26), (27, x27), (28, x28)] k
noncomputable def kcB_balerref12_Of (lf d fu : Nat) (k : Ex → Fr → M Value) : Ex → Fr → M Value := contAt Tryd.prog (evCall2 Tryd.prog gt lf d) (gt 27) lf (codeAt (bodyOf Tryd.prog 27) [true, true, true, false, true, false, false]) [true, true, false, false, true, false, true, false] (againK (fun s1 => loopK (fun s1 k1 => codeK Tryd.prog (evCall2 Tryd.prog gt lf d) (gt 27) lf (codeAt (bodyOf Tryd.prog 27) [true, true, true, false, true, false, false]) s1 k1) [0, 1, 4, 5, 6, 24] fu (s1.keep [0, 1, 4, 5, 6, 24]) k) k)
noncomputable def lpC_balerref12_Of (lf d fu : Nat) (k : Ex → Fr → M Value) (x0 x1 x4 x5 x6 x7 x10 x24 x25 x26 x27 x28 x29 x42 x43 : Value) : M Value := loopK (fun s1 k1 => codeK Tryd.prog (evCall2 Tryd.prog gt lf d) (gt 27) lf (codeAt (bodyOf Tryd.prog 27) [true, true, true, false, true, false, false, true, true, false, false, true, true, true, false, true, false, false]) s1 k1) [0, 1, 4, 5, 6, 7, 10, 24, 25, 26, 27, 28, 29, 42, 43] fu [(0, x0), (1, x1), (4, x4), (5, x5), (6, x6), (7, x7), (10, x10), (24, x24), (25, x25), (26, x26), (27, x27), (28, x28), (29, x29), (42, x42), (43, x43)] k
noncomputable def kcC_balerref12_Of (lf d fu : Nat) (k : Ex → Fr → M Value) : Ex → Fr → M Value := contAt Tryd.prog (evCall2 Tryd.prog gt lf d) (gt 27) lf (codeAt (bodyOf Tryd.prog 27) [true, true, true, false, true, false, false]) [true, true, false, false, true, true, true, false, true, false] (againK (fun s1 => loopK (fun s1 k1 => codeK Tryd.prog (evCall2 Tryd.prog gt lf d) (gt 27) lf (codeAt (bodyOf Tryd.prog 27) [true, true, true, false, true, false, false]) s1 k1) [0, 1, 4, 5, 6, 24] fu (s1.keep [0, 1, 4, 5, 6, 24]) k) k)
noncomputable def lpD_balerref12_Of (lf d fu : Nat) (k : Ex → Fr → M Value) (x0 x1 x4 x5 x6 x7 x10 x11 x12 x24 x25 x26 x27 x28 x29 x42 x43 x44 x46 x47 x48 : Value) : M Value := loopK (fun s1 k1 => codeK Tryd.prog (evCall2 Tryd.prog gt lf d) (gt 27) lf (codeAt (bodyOf Tryd.prog 27) [true, true, true, false, true, false, false, true, true, false, false, true, true, true, false, true, false, false, true, true, false, false, true, true, false, true, false, false]) s1 k1) [0, 1, 4, 5, 6, 7, 10, 11, 12, 24, 25, 26, 27, 28, 29, 42, 43, 44, 46, 47, 48] fu [(0, x0), (1, x1), (4, x4), (5, x5), (6, x6), (7, x7), (10, x10), (11, x11), (12, x12), (24, x24), (25, x25), (26, x26), (27, x27), (28, x28), (29, x29), (42, x42), (43, x43), (44, x44), (46, x46), (47, x47), (48, x48)] k
noncomputable def kcD_balerref12_Of (lf d fu : Nat) (k : Ex → Fr → M Value) : Ex → Fr → M Value := contAt Tryd.prog (evCall2 Tryd.prog gt lf d) (gt 27) lf (codeAt (bodyOf Tryd.prog 27) [true, true, true, false, true, false, false, true, true, false, false, true, true, true, false, true, false, false]) [true, true, false, false, true, true, false, true, false] (againK (fun s1 => loopK (fun s1 k1 => codeK Tryd.prog (evCall2 Tryd.prog gt lf d) (gt 27) lf (codeAt (bodyOf Tryd.prog 27) [true, true, true, false, true, false, false, true, true, false, false, true, true, true, false, true, false, false]) s1 k1) [0, 1, 4, 5, 6, 7, 10, 24, 25, 26, 27, 28, 29, 42, 43] fu (s1.keep [0, 1, 4, 5, 6, 7, 10, 24, 25, 26, 27, 28, 29, 42, 43]) k) k)
noncomputable def b_balerref12_Of (lf d : Nat) (a0 a1 : Value) : M Value :=
 (inside (evAlloc Tryd.prog 47)).bind fun v4n1 =>
 (inside (evCall2 Tryd.prog gt lf d 44 #[a0, a1])).bind fun v17n2 =>
 optK (len2 Tryd.prog #[22] [a0]) fun v19n3 =>
 (inside (evCall2 Tryd.prog gt lf d 23 #[v17n2, v19n3])).bind fun v20n4 =>
 (inside (evBuild Tryd.prog 47 [(0, v20n4)])).bind fun v21n5 =>
 (inside (evAlloc Tryd.prog 47)).bind fun v5n6 =>
 (inside (evStore Tryd.prog 47 v5n6 v21n5)).bind fun u7 =>
 (inside (evCall2 Tryd.prog gt lf d 10 #[a0])).bind fun v23n8 =>
 lpA_balerref12_Of lf d lf (kcA_balerref12_Of lf d) a0 a1 v4n1 v5n6 v23n8 (Value.int .i64 0)
theorem sh_balerref12_Of (lf d : Nat) (a0 a1 : Value) : evCall2 Tryd.prog gt lf (d + 1) 27 #[a0, a1] = inside (b_balerref12_Of lf d a0 a1) := by kernel_rfl
theorem succA_balerref12_Of (lf d fu : Nat) (k : Ex → Fr → M Value) (x0 x1 x4 x5 x6 x24 : Value) : lpA_balerref12_Of lf d (fu + 1) k x0 x1 x4 x5 x6 x24 =
 optK (bin2 Tryd.prog .lss 3 x24 (Value.int .i64 4)) fun v25n9 =>
 ifV v25n9 (
  optK (len2 Tryd.prog #[23] [x6]) fun v27n10 =>
  lpB_balerref12_Of lf d lf (kcB_balerref12_Of lf d fu k) x0 x1 x4 x5 x6 (Value.slice none 0 0) x24 v25n9 x6 v27n10 (Value.int .i64 0)) (
  k (Ex.exit 0) [(0, x0), (1, x1), (4, x4), (5, x5), (6, x6), (24, x24), (25, v25n9)]) := by kernel_rfl
theorem kcAa_balerref12_Of (lf d : Nat) (y0 y1 y4 y5 y6 y24 y25 : Value) : kcA_balerref12_Of lf d (Ex.exit 0) [(0, y0), (1, y1), (4, y4), (5, y5), (6, y6), (24, y24), (25, y25)] =
 (inside (evLoad Tryd.prog 47 y5)).bind fun v75n11 =>
 (inside (evStore Tryd.prog 47 y4 v75n11)).bind fun u12 =>
 (evLoad Tryd.prog 47 y4).bind fun vrn13 =>
 outK [vrn13] := by kernel_rfl
theorem succB_balerref12_Of (lf d fu : Nat) (k : Ex → Fr → M Value) (x0 x1 x4 x5 x6 x7 x24 x25 x26 x27 x28 : Value) : lpB_balerref12_Of lf d (fu + 1) k x0 x1 x4 x5 x6 x7 x24 x25 x26 x27 x28 =
 optK (bin2 Tryd.prog .lss 3 x28 x27) fun v29n14 =>
 ifV v29n14 (
  optK (evIndexAddr Tryd.prog 23 x26 x28) fun v30n15 =>
  (inside (evLoad Tryd.prog 22 v30n15)).bind fun v31n16 =>
  optK (evFieldAddr Tryd.prog 47 x5 0) fun v34n17 =>
  (inside (evLoad Tryd.prog 23 v34n17)).bind fun v35n18 =>
  (inside (evCall2 Tryd.prog gt lf d 45 #[v31n16, v35n18])).bind fun v36n19 =>
  (inside (evBuildSlice Tryd.prog 22 1 [(0, v36n19)])).bind fun v37n20 =>
  (inside (evAppend Tryd.prog 22 x7 v37n20)).bind fun v38n21 =>
  optK (bin2 Tryd.prog .add 3 x28 (Value.int .i64 1)) fun v39n22 =>
  lpB_balerref12_Of lf d fu k x0 x1 x4 x5 x6 v38n21 x24 x25 x26 x27 v39n22) (
  k (Ex.exit 2) [(0, x0), (1, x1), (4, x4), (5, x5), (6, x6), (7, x7), (24, x24), (25, x25), (26, x26), (27, x27), (28, x28), (29, v29n14)]) := by kernel_rfl
theorem kcBa_balerref12_Of (lf d fu : Nat) (k : Ex → Fr → M Value) (y0 y1 y4 y5 y6 y7 y24 y25 y26 y27 y28 y29 : Value) : kcB_balerref12_Of lf d fu k (Ex.exit 2) [(0, y0), (1, y1), (4, y4), (5, y5), (6, y6), (7, y7), (24, y24), (25, y25), (26, y26), (27, y27), (28, y28), (29, y29)] =
 optK (evFieldAddr Tryd.prog 47 y5 0) fun v40n23 =>
 (inside (evLoad Tryd.prog 23 v40n23)).bind fun v41n24 =>
 optK (len2 Tryd.prog #[23] [v41n24]) fun v42n25 =>
 lpC_balerref12_Of lf d lf (kcC_balerref12_Of lf d fu k) y0 y1 y4 y5 y6 y7 (Value.slice none 0 0) y24 y25 y26 y27 y28 y29 v42n25 (Value.int .i64 0) := by kernel_rfl
theorem succC_balerref12_Of (lf d fu : Nat) (k : Ex → Fr → M Value) (x0 x1 x4 x5 x6 x7 x10 x24 x25 x26 x27 x28 x29 x42 x43 : Value) : lpC_balerref12_Of lf d (fu + 1) k x0 x1 x4 x5 x6 x7 x10 x24 x25 x26 x27 x28 x29 x42 x43 =
 optK (bin2 Tryd.prog .lss 3 x43 x42) fun v44n26 =>
 ifV v44n26 (
  optK (len2 Tryd.prog #[23] [x6]) fun v47n27 =>
  lpD_balerref12_Of lf d lf (kcD_balerref12_Of lf d fu k) x0 x1 x4 x5 x6 x7 x10 x43 (Value.slice none 0 0) x24 x25 x26 x27 x28 x29 x42 x43 v44n26 x6 v47n27 (Value.int .i64 0)) (
  k (Ex.exit 4) [(0, x0), (1, x1), (4, x4), (5, x5), (6, x6), (7, x7), (10, x10), (24, x24), (25, x25), (26, x26), (27, x27), (28, x28), (29, x29), (42, x42), (43, x43), (44, v44n26)]) := by kernel_rfl
theorem kcCa_balerref12_Of (lf d fu : Nat) (k : Ex → Fr → M Value) (y0 y1 y4 y5 y6 y7 y10 y24 y25 y26 y27 y28 y29 y42 y43 y44 : Value) : kcC_balerref12_Of lf d fu k (Ex.exit 4) [(0, y0), (1, y1), (4, y4), (5, y5), (6, y6), (7, y7), (10, y10), (24, y24), (25, y25), (26, y26), (27, y27), (28, y28), (29, y29), (42, y42), (43, y43), (44, y44)] =
 (inside (evBuild Tryd.prog 47 [(0, y10), (1, y7)])).bind fun v73n28 =>
 (inside (evStore Tryd.prog 47 y5 v73n28)).bind fun u29 =>
 optK (bin2 Tryd.prog .add 3 y24 (Value.int .i64 1)) fun v74n30 =>
 lpA_balerref12_Of lf d fu k y0 y1 y4 y5 y6 v74n30 := by kernel_rfl
theorem succD_balerref12_Of (lf d fu : Nat) (k : Ex → Fr → M Value) (x0 x1 x4 x5 x6 x7 x10 x11 x12 x24 x25 x26 x27 x28 x29 x42 x43 x44 x46 x47 x48 : Value) : lpD_balerref12_Of lf d (fu + 1) k x0 x1 x4 x5 x6 x7 x10 x11 x12 x24 x25 x26 x27 x28 x29 x42 x43 x44 x46 x47 x48 =
 optK (bin2 Tryd.prog .lss 3 x48 x47) fun v49n31 =>
 ifV v49n31 (
  optK (evIndexAddr Tryd.prog 23 x46 x48) fun v51n32 =>
  (inside (evLoad Tryd.prog 22 v51n32)).bind fun v52n33 =>
  optK (evIndexAddr Tryd.prog 22 x7 x48) fun v55n34 =>
  (inside (evLoad Tryd.prog 3 v55n34)).bind fun v56n35 =>
  optK (bin2 Tryd.prog .eql 3 v56n35 x11) fun v58n36 =>
  ifV v58n36 (
   (inside (evAppend Tryd.prog 22 x12 v52n33)).bind fun v61n37 =>
   optK (bin2 Tryd.prog .add 3 x48 (Value.int .i64 1)) fun v62n38 =>
   lpD_balerref12_Of lf d fu k x0 x1 x4 x5 x6 x7 x10 x11 v61n37 x24 x25 x26 x27 x28 x29 x42 x43 x44 x46 x47 v62n38) (
   optK (bin2 Tryd.prog .add 3 x48 (Value.int .i64 1)) fun v62n39 =>
   lpD_balerref12_Of lf d fu k x0 x1 x4 x5 x6 x7 x10 x11 x12 x24 x25 x26 x27 x28 x29 x42 x43 x44 x46 x47 v62n39)) (
  k (Ex.exit 6) [(0, x0), (1, x1), (4, x4), (5, x5), (6, x6), (7, x7), (10, x10), (11, x11), (12, x12), (24, x24), (25, x25), (26, x26), (27, x27), (28, x28), (29, x29), (42, x42), (43, x43), (44, x44), (46, x46), (47, x47), (48, x48), (49, v49n31)]) := by kernel_rfl
theorem kcDa_balerref12_Of (lf d fu : Nat) (k : Ex → Fr → M Value) (y0 y1 y4 y5 y6 y7 y10 y11 y12 y24 y25 y26 y27 y28 y29 y42 y43 y44 y46 y47 y48 y49 : Value) : kcD_balerref12_Of lf d fu k (Ex.exit 6) [(0, y0), (1, y1), (4, y4), (5, y5), (6, y6), (7, y7), (10, y10), (11, y11), (12, y12), (24, y24), (25, y25), (26, y26), (27, y27), (28, y28), (29, y29), (42, y42), (43, y43), (44, y44), (46, y46), (47, y47), (48, y48), (49, y49)] =
 (inside (evCall2 Tryd.prog gt lf d 44 #[y12, y1])).bind fun v66n40 =>
 (inside (evCall2 Tryd.prog gt lf d 46 #[v66n40])).bind fun v67n41 =>
 (inside (evBuildSlice Tryd.prog 23 1 [(0, v67n41)])).bind fun v68n42 =>
 (inside (evAppend Tryd.prog 23 y10 v68n42)).bind fun v69n43 =>
 optK (bin2 Tryd.prog .add 3 y43 (Value.int .i64 1)) fun v70n44 =>
 lpC_balerref12_Of lf d fu k y0 y1 y4 y5 y6 y7 v69n43 y24 y25 y26 y27 y28 y29 y42 v70n44 := by kernel_rfl

noncomputable def lpA_balerplain_Ints (lf d fu : Nat) (k : Ex → Fr → M Value) (x0 x1 x4 x10 x12 x13 : Value) : M Value := loopK (fun s1 k1 => codeK Tryd.prog (evCall2 Tryd.prog gt lf d) (gt 28) lf (codeAt (bodyOf Tryd.prog 28) [true, true, false, true, false, false]) s1 k1) [0, 1, 4, 10, 12, 13] fu [(0, x0), (1, x1), (4, x4), (10, x10), (12, x12), (13, x13)] k
noncomputable def kcA_balerplain_Ints (lf d : Nat) : Ex → Fr → M Value := contAt Tryd.prog (evCall2 Tryd.prog gt lf d) (gt 28) lf (bodyOf Tryd.prog 28) [true, true, false, true, false] (endK Tryd.prog (resOf Tryd.prog 28))
noncomputable def b_balerplain_Ints (lf d : Nat) (a0 a1 : Value) : M Value :=
 optK (len2 Tryd.prog #[22] [a0]) fun v7n1 =>
 optK (len2 Tryd.prog #[22] [a1]) fun v9n2 =>
 optK (bin2 Tryd.prog .neq 3 v7n1 v9n2) fun v10n3 =>
 ifV v10n3 (
  outK [(Value.bool false)]) (
  optK (len2 Tryd.prog #[22] [a0]) fun v12n4 =>
  lpA_balerplain_Ints lf d lf (kcA_balerplain_Ints lf d) a0 a1 (Value.bool false) v10n3 v12n4 (Value.int .i64 0))
theorem sh_balerplain_Ints (lf d : Nat) (a0 a1 : Value) : evCall2 Tryd.prog gt lf (d + 1) 28 #[a0, a1] = inside (b_balerplain_Ints lf d a0 a1) := by kernel_rfl
theorem succA_balerplain_Ints (lf d fu : Nat) (k : Ex → Fr → M Value) (x0 x1 x4 x10 x12 x13 : Value) : lpA_balerplain_Ints lf d (fu + 1) k x0 x1 x4 x10 x12 x13 =
 optK (bin2 Tryd.prog .lss 3 x13 x12) fun v14n5 =>
 ifV v14n5 (
  optK (evIndexAddr Tryd.prog 22 x0 x13) fun v18n6 =>
  (inside (evLoad Tryd.prog 3 v18n6)).bind fun v19n7 =>
  optK (evIndexAddr Tryd.prog 22 x1 x13) fun v22n8 =>
  (inside (evLoad Tryd.prog 3 v22n8)).bind fun v23n9 =>
  optK (bin2 Tryd.prog .neq 3 v19n7 v23n9) fun v24n10 =>
  ifV v24n10 (
   k Ex.ret [(0, x0), (1, x1), (4, (Value.bool false)), (5, x13), (10, x10), (12, x12), (13, x13), (14, v14n5), (24, v24n10)]) (
   optK (bin2 Tryd.prog .add 3 x13 (Value.int .i64 1)) fun v25n11 =>
   lpA_balerplain_Ints lf d fu k x0 x1 x4 x10 x12 v25n11)) (
  k (Ex.exit 0) [(0, x0), (1, x1), (4, x4), (10, x10), (12, x12), (13, x13), (14, v14n5)]) := by kernel_rfl
theorem kcAa_balerplain_Ints (lf d : Nat) (y0 y1 y4 y5 y10 y12 y13 y14 y24 : Value) : kcA_balerplain_Ints lf d Ex.ret [(0, y0), (1, y1), (4, y4), (5, y5), (10, y10), (12, y12), (13, y13), (14, y14), (24, y24)] =
 outK [y4] := by kernel_rfl
theorem kcAb_balerplain_Ints (lf d : Nat) (y0 y1 y4 y10 y12 y13 y14 : Value) : kcA_balerplain_Ints lf d (Ex.exit 0) [(0, y0), (1, y1), (4, y4), (10, y10), (12, y12), (13, y13), (14, y14)] =
 outK [(Value.bool true)] := by kernel_rfl

noncomputable def b_freq_Groups (lf d : Nat) (a0 : Value) : M Value :=
 optK (bin2 Tryd.prog .leq 3 a0 (Value.int .i64 0)) fun v4n1 =>
 ifV v4n1 (
  outK [(Value.int .i64 0)]) (
  optK (bin2 Tryd.prog .sub 3 a0 (Value.int .i64 1)) fun v6n2 =>
  optK (bin2 Tryd.prog .quo 3 v6n2 (Value.int .i64 50)) fun v7n3 =>
  optK (bin2 Tryd.prog .add 3 v7n3 (Value.int .i64 1)) fun v8n4 =>
  outK [v8n4])
theorem sh_freq_Groups (lf d : Nat) (a0 : Value) : evCall2 Tryd.prog gt lf (d + 1) 29 #[a0] = inside (b_freq_Groups lf d a0) := by kernel_rfl

noncomputable def b_freq_Group (lf d : Nat) (a0 a1 : Value) : M Value :=
 optK (bin2 Tryd.prog .lss 3 a1 (Value.int .i64 0)) fun v7n1 =>
 ifV v7n1 (
  outK [(Value.slice none 0 0), (Value.int .i64 1)]) (
  optK (len2 Tryd.prog #[22] [a0]) fun v11n2 =>
  (inside (evCall2 Tryd.prog gt lf d 29 #[v11n2])).bind fun v12n3 =>
  optK (bin2 Tryd.prog .geq 3 a1 v12n3) fun v13n4 =>
  ifV v13n4 (
   outK [(Value.slice none 0 0), (Value.int .i64 1)]) (
   (inside (evCall2 Tryd.prog gt lf d 47 #[a0, a1, (Value.int .i64 50)])).bind fun v17n5 =>
   outK [v17n5, (Value.int .i64 0)]))
theorem sh_freq_Group (lf d : Nat) (a0 a1 : Value) : evCall2 Tryd.prog gt lf (d + 1) 30 #[a0, a1] = inside (b_freq_Group lf d a0 a1) := by kernel_rfl

noncomputable def lpA_freq_Cost (lf d fu : Nat) (k : Ex → Fr → M Value) (x0 x1 x4 x5 x6 x11 x12 x13 x14 : Value) : M Value := loopK (fun s1 k1 => codeK Tryd.prog (evCall2 Tryd.prog gt lf d) (gt 31) lf (codeAt (bodyOf Tryd.prog 31) [true, true, true, false, true, false, false]) s1 k1) [0, 1, 4, 5, 6, 11, 12, 13, 14] fu [(0, x0), (1, x1), (4, x4), (5, x5), (6, x6), (11, x11), (12, x12), (13, x13), (14, x14)] k
noncomputable def kcA_freq_Cost (lf d : Nat) : Ex → Fr → M Value := contAt Tryd.prog (evCall2 Tryd.prog gt lf d) (gt 31) lf (bodyOf Tryd.prog 31) [true, true, true, false, true, false] (endK Tryd.prog (resOf Tryd.prog 31))
noncomputable def b_freq_Cost (lf d : Nat) (a0 a1 : Value) : M Value :=
 (inside (evCall2 Tryd.prog gt lf d 48 #[a1])).bind fun v10n1 =>
 optK (un2 Tryd.prog .not v10n1) fun v11n2 =>
 ifV v11n2 (
  outK [(Value.int .i64 0), (Value.int .i64 1)]) (
  optK (len2 Tryd.prog #[22] [a0]) fun v13n3 =>
  lpA_freq_Cost lf d lf (kcA_freq_Cost lf d) a0 a1 (Value.int .i64 0) (Value.int .i64 0) (Value.int .i64 0) v11n2 a0 v13n3 (Value.int .i64 0))
theorem sh_freq_Cost (lf d : Nat) (a0 a1 : Value) : evCall2 Tryd.prog gt lf (d + 1) 31 #[a0, a1] = inside (b_freq_Cost lf d a0 a1) := by kernel_rfl
theorem succA_freq_Cost (lf d fu : Nat) (k : Ex → Fr → M Value) (x0 x1 x4 x5 x6 x11 x12 x13 x14 : Value) : lpA_freq_Cost lf d (fu + 1) k x0 x1 x4 x5 x6 x11 x12 x13 x14 =
 optK (bin2 Tryd.prog .lss 3 x14 x13) fun v15n4 =>
 ifV v15n4 (
  optK (evIndexAddr Tryd.prog 22 x12 x14) fun v16n5 =>
  (inside (evLoad Tryd.prog 3 v16n5)).bind fun v17n6 =>
  optK (bin2 Tryd.prog .lss 3 v17n6 (Value.int .i64 0)) fun v19n7 =>
  ifV v19n7 (
   k Ex.ret [(0, x0), (1, x1), (4, (Value.int .i64 0)), (5, (Value.int .i64 1)), (6, x6), (8, v17n6), (11, x11), (12, x12), (13, x13), (14, x14), (15, v15n4), (25, (Value.bool true))]) (
   optK (len2 Tryd.prog #[22] [x1]) fun v23n8 =>
   optK (bin2 Tryd.prog .geq 3 v17n6 v23n8) fun v24n9 =>
   ifV v24n9 (
    k Ex.ret [(0, x0), (1, x1), (4, (Value.int .i64 0)), (5, (Value.int .i64 1)), (6, x6), (8, v17n6), (11, x11), (12, x12), (13, x13), (14, x14), (15, v15n4), (25, v24n9)]) (
    optK (evIndexAddr Tryd.prog 22 x1 v17n6) fun v29n10 =>
    (inside (evLoad Tryd.prog 3 v29n10)).bind fun v30n11 =>
    (inside (evCall2 Tryd.prog gt lf d 49 #[x6, v30n11])).bind fun v31n12 =>
    optK (bin2 Tryd.prog .add 3 x14 (Value.int .i64 1)) fun v32n13 =>
    lpA_freq_Cost lf d fu k x0 x1 x4 x5 v31n12 x11 x12 x13 v32n13))) (
  k (Ex.exit 0) [(0, x0), (1, x1), (4, x4), (5, x5), (6, x6), (11, x11), (12, x12), (13, x13), (14, x14), (15, v15n4)]) := by kernel_rfl
theorem kcAa_freq_Cost (lf d : Nat) (y0 y1 y4 y5 y6 y8 y11 y12 y13 y14 y15 y25 : Value) : kcA_freq_Cost lf d Ex.ret [(0, y0), (1, y1), (4, y4), (5, y5), (6, y6), (8, y8), (11, y11), (12, y12), (13, y13), (14, y14), (15, y15), (25, y25)] =
 outK [y4, y5] := by kernel_rfl
theorem kcAb_freq_Cost (lf d : Nat) (y0 y1 y4 y5 y6 y11 y12 y13 y14 y15 : Value) : kcA_freq_Cost lf d (Ex.exit 0) [(0, y0), (1, y1), (4, y4), (5, y5), (6, y6), (11, y11), (12, y12), (13, y13), (14, y14), (15, y15)] =
 outK [y6, (Value.int .i64 0)] := by kernel_rfl

noncomputable def lpA_balerref08_count (lf d fu : Nat) (k : Ex → Fr → M Value) (x0 x1 x4 x5 x8 x9 x10 : Value) : M Value := loopK (fun s1 k1 => codeK Tryd.prog (evCall2 Tryd.prog gt lf d) (gt 32) lf (codeAt (bodyOf Tryd.prog 32) [true, true, false, true, false, false]) s1 k1) [0, 1, 4, 5, 8, 9, 10] fu [(0, x0), (1, x1), (4, x4), (5, x5), (8, x8), (9, x9), (10, x10)] k
noncomputable def kcA_balerref08_count (lf d : Nat) : Ex → Fr → M Value := contAt Tryd.prog (evCall2 Tryd.prog gt lf d) (gt 32) lf (bodyOf Tryd.prog 32) [true, true, false, true, false] (endK Tryd.prog (resOf Tryd.prog 32))
noncomputable def b_balerref08_count (lf d : Nat) (a0 a1 : Value) : M Value :=
 optK (len2 Tryd.prog #[22] [a0]) fun v9n1 =>
 lpA_balerref08_count lf d lf (kcA_balerref08_count lf d) a0 a1 (Value.int .i64 0) (Value.int .i64 0) a0 v9n1 (Value.int .i64 0)
theorem sh_balerref08_count (lf d : Nat) (a0 a1 : Value) : evCall2 Tryd.prog gt lf (d + 1) 32 #[a0, a1] = inside (b_balerref08_count lf d a0 a1) := by kernel_rfl
theorem succA_balerref08_count (lf d fu : Nat) (k : Ex → Fr → M Value) (x0 x1 x4 x5 x8 x9 x10 : Value) : lpA_balerref08_count lf d (fu + 1) k x0 x1 x4 x5 x8 x9 x10 =
 optK (bin2 Tryd.prog .lss 3 x10 x9) fun v11n2 =>
 ifV v11n2 (
  optK (evIndexAddr Tryd.prog 22 x8 x10) fun v12n3 =>
  (inside (evLoad Tryd.prog 3 v12n3)).bind fun v13n4 =>
  optK (bin2 Tryd.prog .eql 3 x1 v13n4) fun v16n5 =>
  ifV v16n5 (
   optK (bin2 Tryd.prog .add 3 x5 (Value.int .i64 1)) fun v18n6 =>
   optK (bin2 Tryd.prog .add 3 x10 (Value.int .i64 1)) fun v19n7 =>
   lpA_balerref08_count lf d fu k x0 x1 x4 v18n6 x8 x9 v19n7) (
   optK (bin2 Tryd.prog .add 3 x10 (Value.int .i64 1)) fun v19n8 =>
   lpA_balerref08_count lf d fu k x0 x1 x4 x5 x8 x9 v19n8)) (
  k (Ex.exit 0) [(0, x0), (1, x1), (4, x4), (5, x5), (8, x8), (9, x9), (10, x10), (11, v11n2)]) := by kernel_rfl
theorem kcAa_balerref08_count (lf d : Nat) (y0 y1 y4 y5 y8 y9 y10 y11 : Value) : kcA_balerref08_count lf d (Ex.exit 0) [(0, y0), (1, y1), (4, y4), (5, y5), (8, y8), (9, y9), (10, y10), (11, y11)] =
 outK [y5] := by kernel_rfl

noncomputable def b_balerref08_most (lf d : Nat) (a0 : Value) : M Value :=
 optK (bin2 Tryd.prog .gtr 3 a0 (Value.int .i64 1099511627776)) fun v4n1 =>
 ifV v4n1 (
  outK [(Value.int .i64 1099511627776)]) (
  outK [a0])
theorem sh_balerref08_most (lf d : Nat) (a0 : Value) : evCall2 Tryd.prog gt lf (d + 1) 33 #[a0] = inside (b_balerref08_most lf d a0) := by kernel_rfl

noncomputable def lpA_freq_Counts (lf d fu : Nat) (k : Ex → Fr → M Value) (x0 x1 x4 x5 x6 x14 x17 x18 x19 : Value) : M Value := loopK (fun s1 k1 => codeK Tryd.prog (evCall2 Tryd.prog gt lf d) (gt 34) lf (codeAt (bodyOf Tryd.prog 34) [true, true, true, false, true, false, false]) s1 k1) [0, 1, 4, 5, 6, 14, 17, 18, 19] fu [(0, x0), (1, x1), (4, x4), (5, x5), (6, x6), (14, x14), (17, x17), (18, x18), (19, x19)] k
noncomputable def kcA_freq_Counts (lf d : Nat) : Ex → Fr → M Value := contAt Tryd.prog (evCall2 Tryd.prog gt lf d) (gt 34) lf (bodyOf Tryd.prog 34) [true, true, true, false, true, false] (endK Tryd.prog (resOf Tryd.prog 34))
noncomputable def b_freq_Counts (lf d : Nat) (a0 a1 : Value) : M Value :=
 optK (bin2 Tryd.prog .lss 3 a1 (Value.int .i64 3)) fun v10n1 =>
 ifV v10n1 (
  outK [(Value.slice none 0 0), (Value.int .i64 1)]) (
  optK (bin2 Tryd.prog .gtr 3 a1 (Value.int .i64 258)) fun v13n2 =>
  ifV v13n2 (
   outK [(Value.slice none 0 0), (Value.int .i64 1)]) (
   (inside (evMakeSlice Tryd.prog 22 a1 a1)).bind fun v16n3 =>
   optK (len2 Tryd.prog #[22] [a0]) fun v18n4 =>
   lpA_freq_Counts lf d lf (kcA_freq_Counts lf d) a0 a1 (Value.slice none 0 0) (Value.int .i64 0) v16n3 v13n2 a0 v18n4 (Value.int .i64 0)))
theorem sh_freq_Counts (lf d : Nat) (a0 a1 : Value) : evCall2 Tryd.prog gt lf (d + 1) 34 #[a0, a1] = inside (b_freq_Counts lf d a0 a1) := by kernel_rfl
theorem succA_freq_Counts (lf d fu : Nat) (k : Ex → Fr → M Value) (x0 x1 x4 x5 x6 x14 x17 x18 x19 : Value) : lpA_freq_Counts lf d (fu + 1) k x0 x1 x4 x5 x6 x14 x17 x18 x19 =
 optK (bin2 Tryd.prog .lss 3 x19 x18) fun v20n5 =>
 ifV v20n5 (
  optK (evIndexAddr Tryd.prog 22 x17 x19) fun v21n6 =>
  (inside (evLoad Tryd.prog 3 v21n6)).bind fun v22n7 =>
  optK (bin2 Tryd.prog .lss 3 v22n7 (Value.int .i64 0)) fun v24n8 =>
  ifV v24n8 (
   k Ex.ret [(0, x0), (1, x1), (4, (Value.slice none 0 0)), (5, (Value.int .i64 1)), (6, x6), (8, v22n7), (14, x14), (17, x17), (18, x18), (19, x19), (20, v20n5), (29, (Value.bool true))]) (
   optK (bin2 Tryd.prog .geq 3 v22n7 x1) fun v28n9 =>
   ifV v28n9 (
    k Ex.ret [(0, x0), (1, x1), (4, (Value.slice none 0 0)), (5, (Value.int .i64 1)), (6, x6), (8, v22n7), (14, x14), (17, x17), (18, x18), (19, x19), (20, v20n5), (29, v28n9)]) (
    optK (evIndexAddr Tryd.prog 22 x6 v22n7) fun v32n10 =>
    (inside (evLoad Tryd.prog 3 v32n10)).bind fun v33n11 =>
    optK (bin2 Tryd.prog .add 3 v33n11 (Value.int .i64 1)) fun v34n12 =>
    optK (evIndexAddr Tryd.prog 22 x6 v22n7) fun v35n13 =>
    (inside (evStore Tryd.prog 3 v35n13 v34n12)).bind fun u14 =>
    optK (bin2 Tryd.prog .add 3 x19 (Value.int .i64 1)) fun v36n15 =>
    lpA_freq_Counts lf d fu k x0 x1 x4 x5 x6 x14 x17 x18 v36n15))) (
  k (Ex.exit 0) [(0, x0), (1, x1), (4, x4), (5, x5), (6, x6), (14, x14), (17, x17), (18, x18), (19, x19), (20, v20n5)]) := by kernel_rfl
theorem kcAa_freq_Counts (lf d : Nat) (y0 y1 y4 y5 y6 y8 y14 y17 y18 y19 y20 y29 : Value) : kcA_freq_Counts lf d Ex.ret [(0, y0), (1, y1), (4, y4), (5, y5), (6, y6), (8, y8), (14, y14), (17, y17), (18, y18), (19, y19), (20, y20), (29, y29)] =
 outK [y4, y5] := by kernel_rfl
theorem kcAb_freq_Counts (lf d : Nat) (y0 y1 y4 y5 y6 y14 y17 y18 y19 y20 : Value) : kcA_freq_Counts lf d (Ex.exit 0) [(0, y0), (1, y1), (4, y4), (5, y5), (6, y6), (14, y14), (17, y17), (18, y18), (19, y19), (20, y20)] =
 outK [y6, (Value.int .i64 0)] := by kernel_rfl

noncomputable def lpA_tables_groupsOf (lf d fu : Nat) (k : Ex → Fr → M Value) (x0 x2 x3 x9 x10 : Value) : M Value := loopK (fun s1 k1 => codeK Tryd.prog (evCall2 Tryd.prog gt lf d) (gt 35) lf (codeAt (bodyOf Tryd.prog 35) [true, true, false, true, false, false]) s1 k1) [0, 2, 3, 9, 10] fu [(0, x0), (2, x2), (3, x3), (9, x9), (10, x10)] k
noncomputable def kcA_tables_groupsOf (lf d : Nat) : Ex → Fr → M Value := contAt Tryd.prog (evCall2 Tryd.prog gt lf d) (gt 35) lf (bodyOf Tryd.prog 35) [true, true, false, true, false] (endK Tryd.prog (resOf Tryd.prog 35))
noncomputable def b_tables_groupsOf (lf d : Nat) (a0 : Value) : M Value :=
 optK (len2 Tryd.prog #[22] [a0]) fun v8n1 =>
 (inside (evCall2 Tryd.prog gt lf d 29 #[v8n1])).bind fun v9n2 =>
 lpA_tables_groupsOf lf d lf (kcA_tables_groupsOf lf d) a0 (Value.slice none 0 0) (Value.slice none 0 0) v9n2 (Value.int .i64 0)
theorem sh_tables_groupsOf (lf d : Nat) (a0 : Value) : evCall2 Tryd.prog gt lf (d + 1) 35 #[a0] = inside (b_tables_groupsOf lf d a0) := by kernel_rfl
theorem succA_tables_groupsOf (lf d fu : Nat) (k : Ex → Fr → M Value) (x0 x2 x3 x9 x10 : Value) : lpA_tables_groupsOf lf d (fu + 1) k x0 x2 x3 x9 x10 =
 optK (bin2 Tryd.prog .lss 3 x10 x9) fun v11n3 =>
 ifV v11n3 (
  (inside (evCall2 Tryd.prog gt lf d 30 #[x0, x10])).bind fun v16n4 =>
  optK (evExtract v16n4 0) fun v17n5 =>
  optK (evExtract v16n4 1) fun v18n6 =>
  (inside (evBuildSlice Tryd.prog 23 1 [(0, v17n5)])).bind fun v21n7 =>
  (inside (evAppend Tryd.prog 23 x3 v21n7)).bind fun v22n8 =>
  optK (bin2 Tryd.prog .add 3 x10 (Value.int .i64 1)) fun v23n9 =>
  lpA_tables_groupsOf lf d fu k x0 x2 v22n8 x9 v23n9) (
  k (Ex.exit 0) [(0, x0), (2, x2), (3, x3), (9, x9), (10, x10), (11, v11n3)]) := by kernel_rfl
theorem kcAa_tables_groupsOf (lf d : Nat) (y0 y2 y3 y9 y10 y11 : Value) : kcA_tables_groupsOf lf d (Ex.exit 0) [(0, y0), (2, y2), (3, y3), (9, y9), (10, y10), (11, y11)] =
 outK [y3] := by kernel_rfl

noncomputable def lpA_tables_first (lf d fu : Nat) (k : Ex → Fr → M Value) (x0 x1 x4 x5 x6 x18 x19 : Value) : M Value := loopK (fun s1 k1 => codeK Tryd.prog (evCall2 Tryd.prog gt lf d) (gt 36) lf (codeAt (bodyOf Tryd.prog 36) [true, true, true, false, true, false, false]) s1 k1) [0, 1, 4, 5, 6, 18, 19] fu [(0, x0), (1, x1), (4, x4), (5, x5), (6, x6), (18, x18), (19, x19)] k
noncomputable def kcA_tables_first (lf d : Nat) : Ex → Fr → M Value := contAt Tryd.prog (evCall2 Tryd.prog gt lf d) (gt 36) lf (bodyOf Tryd.prog 36) [true, true, true, false, true, false] (endK Tryd.prog (resOf Tryd.prog 36))
noncomputable def lpB_tables_first (lf d fu : Nat) (k : Ex → Fr → M Value) (x0 x1 x4 x5 x6 x8 x18 x19 x20 x29 x30 x31 : Value) : M Value := loopK (fun s1 k1 => codeK Tryd.prog (evCall2 Tryd.prog gt lf d) (gt 36) lf (codeAt (bodyOf Tryd.prog 36) [true, true, true, true, true, false, true, false, false]) s1 k1) [0, 1, 4, 5, 6, 8, 18, 19, 20, 29, 30, 31] fu [(0, x0), (1, x1), (4, x4), (5, x5), (6, x6), (8, x8), (18, x18), (19, x19), (20, x20), (29, x29), (30, x30), (31, x31)] k
noncomputable def kcB_tables_first (lf d : Nat) : Ex → Fr → M Value := contAt Tryd.prog (evCall2 Tryd.prog gt lf d) (gt 36) lf (bodyOf Tryd.prog 36) [true, true, true, true, true, false, true, false] (endK Tryd.prog (resOf Tryd.prog 36))
noncomputable def lpC_tables_first (lf d fu : Nat) (k : Ex → Fr → M Value) (x0 x1 x4 x5 x6 x8 x9 x10 x11 x18 x19 x20 x29 x30 x31 x32 x42 x43 : Value) : M Value := loopK (fun s1 k1 => codeK Tryd.prog (evCall2 Tryd.prog gt lf d) (gt 36) lf (codeAt (bodyOf Tryd.prog 36) [true, true, true, true, true, false, true, false, false, true, true, false, false, true, true, false, true, false, false]) s1 k1) [0, 1, 4, 5, 6, 8, 9, 10, 11, 18, 19, 20, 29, 30, 31, 32, 42, 43] fu [(0, x0), (1, x1), (4, x4), (5, x5), (6, x6), (8, x8), (9, x9), (10, x10), (11, x11), (18, x18), (19, x19), (20, x20), (29, x29), (30, x30), (31, x31), (32, x32), (42, x42), (43, x43)] k
noncomputable def kcC_tables_first (lf d fu : Nat) (k : Ex → Fr → M Value) : Ex → Fr → M Value := contAt Tryd.prog (evCall2 Tryd.prog gt lf d) (gt 36) lf (codeAt (bodyOf Tryd.prog 36) [true, true, true, true, true, false, true, false, false]) [true, true, false, false, true, true, false, true, false] (againK (fun s1 => loopK (fun s1 k1 => codeK Tryd.prog (evCall2 Tryd.prog gt lf d) (gt 36) lf (codeAt (bodyOf Tryd.prog 36) [true, true, true, true, true, false, true, false, false]) s1 k1) [0, 1, 4, 5, 6, 8, 18, 19, 20, 29, 30, 31] fu (s1.keep [0, 1, 4, 5, 6, 8, 18, 19, 20, 29, 30, 31]) k) k)
noncomputable def b_tables_first (lf d : Nat) (a0 a1 : Value) : M Value :=
 (inside (evCall2 Tryd.prog gt lf d 19 #[a1])).bind fun v14n1 =>
 (inside (evMakeSlice Tryd.prog 23 v14n1 v14n1)).bind fun v16n2 =>
 optK (len2 Tryd.prog #[23] [v16n2]) fun v18n3 =>
 lpA_tables_first lf d lf (kcA_tables_first lf d) a0 a1 (Value.slice none 0 0) v14n1 v16n2 v18n3 (Value.int .i64 0)
theorem sh_tables_first (lf d : Nat) (a0 a1 : Value) : evCall2 Tryd.prog gt lf (d + 1) 36 #[a0, a1] = inside (b_tables_first lf d a0 a1) := by kernel_rfl
theorem succA_tables_first (lf d fu : Nat) (k : Ex → Fr → M Value) (x0 x1 x4 x5 x6 x18 x19 : Value) : lpA_tables_first lf d (fu + 1) k x0 x1 x4 x5 x6 x18 x19 =
 optK (bin2 Tryd.prog .lss 3 x19 x18) fun v20n4 =>
 ifV v20n4 (
  optK (len2 Tryd.prog #[22] [x0]) fun v25n5 =>
  (inside (evMakeSlice Tryd.prog 22 v25n5 v25n5)).bind fun v26n6 =>
  optK (evIndexAddr Tryd.prog 23 x6 x19) fun v27n7 =>
  (inside (evStore Tryd.prog 22 v27n7 v26n6)).bind fun u8 =>
  optK (bin2 Tryd.prog .add 3 x19 (Value.int .i64 1)) fun v28n9 =>
  lpA_tables_first lf d fu k x0 x1 x4 x5 x6 x18 v28n9) (
  k (Ex.exit 0) [(0, x0), (1, x1), (4, x4), (5, x5), (6, x6), (18, x18), (19, x19), (20, v20n4)]) := by kernel_rfl
theorem kcAa_tables_first (lf d : Nat) (y0 y1 y4 y5 y6 y18 y19 y20 : Value) : kcA_tables_first lf d (Ex.exit 0) [(0, y0), (1, y1), (4, y4), (5, y5), (6, y6), (18, y18), (19, y19), (20, y20)] =
 optK (len2 Tryd.prog #[22] [y0]) fun v30n10 =>
 lpB_tables_first lf d lf (kcB_tables_first lf d) y0 y1 y4 y5 y6 (Value.int .i64 0) y18 y19 y20 y0 v30n10 (Value.int .i64 0) := by kernel_rfl
theorem succB_tables_first (lf d fu : Nat) (k : Ex → Fr → M Value) (x0 x1 x4 x5 x6 x8 x18 x19 x20 x29 x30 x31 : Value) : lpB_tables_first lf d (fu + 1) k x0 x1 x4 x5 x6 x8 x18 x19 x20 x29 x30 x31 =
 optK (bin2 Tryd.prog .lss 3 x31 x30) fun v32n11 =>
 ifV v32n11 (
  optK (evIndexAddr Tryd.prog 22 x29 x31) fun v34n12 =>
  (inside (evLoad Tryd.prog 3 v34n12)).bind fun v35n13 =>
  optK (bin2 Tryd.prog .mul 3 x8 x5) fun v38n14 =>
  optK (bin2 Tryd.prog .quo 3 v38n14 x1) fun v40n15 =>
  optK (len2 Tryd.prog #[23] [x6]) fun v42n16 =>
  lpC_tables_first lf d lf (kcC_tables_first lf d fu k) x0 x1 x4 x5 x6 x8 x31 v35n13 v40n15 x18 x19 x20 x29 x30 x31 v32n11 v42n16 (Value.int .i64 0)) (
  k (Ex.exit 2) [(0, x0), (1, x1), (4, x4), (5, x5), (6, x6), (8, x8), (18, x18), (19, x19), (20, x20), (29, x29), (30, x30), (31, x31), (32, v32n11)]) := by kernel_rfl
theorem kcBa_tables_first (lf d : Nat) (y0 y1 y4 y5 y6 y8 y18 y19 y20 y29 y30 y31 y32 : Value) : kcB_tables_first lf d (Ex.exit 2) [(0, y0), (1, y1), (4, y4), (5, y5), (6, y6), (8, y8), (18, y18), (19, y19), (20, y20), (29, y29), (30, y30), (31, y31), (32, y32)] =
 outK [y6] := by kernel_rfl
theorem succC_tables_first (lf d fu : Nat) (k : Ex → Fr → M Value) (x0 x1 x4 x5 x6 x8 x9 x10 x11 x18 x19 x20 x29 x30 x31 x32 x42 x43 : Value) : lpC_tables_first lf d (fu + 1) k x0 x1 x4 x5 x6 x8 x9 x10 x11 x18 x19 x20 x29 x30 x31 x32 x42 x43 =
 optK (bin2 Tryd.prog .lss 3 x43 x42) fun v44n17 =>
 ifV v44n17 (
  optK (bin2 Tryd.prog .neq 3 x43 x11) fun v48n18 =>
  ifV v48n18 (
   optK (evIndexAddr Tryd.prog 23 x6 x43) fun v51n19 =>
   (inside (evLoad Tryd.prog 22 v51n19)).bind fun v52n20 =>
   optK (evIndexAddr Tryd.prog 22 v52n20 x9) fun v54n21 =>
   (inside (evStore Tryd.prog 3 v54n21 (Value.int .i64 15))).bind fun u22 =>
   optK (bin2 Tryd.prog .add 3 x43 (Value.int .i64 1)) fun v55n23 =>
   lpC_tables_first lf d fu k x0 x1 x4 x5 x6 x8 x9 x10 x11 x18 x19 x20 x29 x30 x31 x32 x42 v55n23) (
   optK (bin2 Tryd.prog .add 3 x43 (Value.int .i64 1)) fun v55n24 =>
   lpC_tables_first lf d fu k x0 x1 x4 x5 x6 x8 x9 x10 x11 x18 x19 x20 x29 x30 x31 x32 x42 v55n24)) (
  k (Ex.exit 4) [(0, x0), (1, x1), (4, x4), (5, x5), (6, x6), (8, x8), (9, x9), (10, x10), (11, x11), (18, x18), (19, x19), (20, x20), (29, x29), (30, x30), (31, x31), (32, x32), (42, x42), (43, x43), (44, v44n17)]) := by kernel_rfl
theorem kcCa_tables_first (lf d fu : Nat) (k : Ex → Fr → M Value) (y0 y1 y4 y5 y6 y8 y9 y10 y11 y18 y19 y20 y29 y30 y31 y32 y42 y43 y44 : Value) : kcC_tables_first lf d fu k (Ex.exit 4) [(0, y0), (1, y1), (4, y4), (5, y5), (6, y6), (8, y8), (9, y9), (10, y10), (11, y11), (18, y18), (19, y19), (20, y20), (29, y29), (30, y30), (31, y31), (32, y32), (42, y42), (43, y43), (44, y44)] =
 optK (bin2 Tryd.prog .add 3 y8 y10) fun v58n25 =>
 optK (bin2 Tryd.prog .sub 3 y1 (Value.int .i64 1)) fun v60n26 =>
 optK (min2 [v58n25, v60n26]) fun v61n27 =>
 optK (bin2 Tryd.prog .add 3 y31 (Value.int .i64 1)) fun v62n28 =>
 lpB_tables_first lf d fu k y0 y1 y4 y5 y6 v61n27 y18 y19 y20 y29 y30 v62n28 := by kernel_rfl

noncomputable def lpA_tables_round (lf d fu : Nat) (k : Ex → Fr → M Value) (x0 x1 x2 x6 x7 x8 x9 x27 x28 : Value) : M Value := loopK (fun s1 k1 => codeK Tryd.prog (evCall2 Tryd.prog gt lf d) (gt 37) lf (codeAt (bodyOf Tryd.prog 37) [true, true, true, false, true, false, false]) s1 k1) [0, 1, 2, 6, 7, 8, 9, 27, 28] fu [(0, x0), (1, x1), (2, x2), (6, x6), (7, x7), (8, x8), (9, x9), (27, x27), (28, x28)] k
noncomputable def kcA_tables_round (lf d : Nat) : Ex → Fr → M Value := contAt Tryd.prog (evCall2 Tryd.prog gt lf d) (gt 37) lf (bodyOf Tryd.prog 37) [true, true, true, false, true, false] (endK Tryd.prog (resOf Tryd.prog 37))
noncomputable def lpB_tables_round (lf d fu : Nat) (k : Ex → Fr → M Value) (x0 x1 x2 x6 x7 x8 x9 x27 x28 x29 x37 x38 x39 : Value) : M Value := loopK (fun s1 k1 => codeK Tryd.prog (evCall2 Tryd.prog gt lf d) (gt 37) lf (codeAt (bodyOf Tryd.prog 37) [true, true, true, true, false, true, false, false]) s1 k1) [0, 1, 2, 6, 7, 8, 9, 27, 28, 29, 37, 38, 39] fu [(0, x0), (1, x1), (2, x2), (6, x6), (7, x7), (8, x8), (9, x9), (27, x27), (28, x28), (29, x29), (37, x37), (38, x38), (39, x39)] k
noncomputable def kcB_tables_round (lf d : Nat) : Ex → Fr → M Value := contAt Tryd.prog (evCall2 Tryd.prog gt lf d) (gt 37) lf (bodyOf Tryd.prog 37) [true, true, true, true, false, true, false] (endK Tryd.prog (resOf Tryd.prog 37))
noncomputable def lpC_tables_round (lf d fu : Nat) (k : Ex → Fr → M Value) (x0 x1 x2 x6 x7 x8 x9 x18 x27 x28 x29 x37 x38 x39 x40 x70 x71 x72 : Value) : M Value := loopK (fun s1 k1 => codeK Tryd.prog (evCall2 Tryd.prog gt lf d) (gt 37) lf (codeAt (bodyOf Tryd.prog 37) [true, true, true, true, true, true, false, true, false, false]) s1 k1) [0, 1, 2, 6, 7, 8, 9, 18, 27, 28, 29, 37, 38, 39, 40, 70, 71, 72] fu [(0, x0), (1, x1), (2, x2), (6, x6), (7, x7), (8, x8), (9, x9), (18, x18), (27, x27), (28, x28), (29, x29), (37, x37), (38, x38), (39, x39), (40, x40), (70, x70), (71, x71), (72, x72)] k
noncomputable def kcC_tables_round (lf d : Nat) : Ex → Fr → M Value := contAt Tryd.prog (evCall2 Tryd.prog gt lf d) (gt 37) lf (bodyOf Tryd.prog 37) [true, true, true, true, true, true, false, true, false] (endK Tryd.prog (resOf Tryd.prog 37))
noncomputable def b_tables_round (lf d : Nat) (a0 a1 a2 : Value) : M Value :=
 optK (len2 Tryd.prog #[23] [a1]) fun v24n1 =>
 (inside (evMakeSlice Tryd.prog 23 v24n1 v24n1)).bind fun v25n2 =>
 optK (len2 Tryd.prog #[23] [v25n2]) fun v27n3 =>
 lpA_tables_round lf d lf (kcA_tables_round lf d) a0 a1 a2 (Value.slice none 0 0) (Value.slice none 0 0) (Value.slice none 0 0) v25n2 v27n3 (Value.int .i64 0)
theorem sh_tables_round (lf d : Nat) (a0 a1 a2 : Value) : evCall2 Tryd.prog gt lf (d + 1) 37 #[a0, a1, a2] = inside (b_tables_round lf d a0 a1 a2) := by kernel_rfl
theorem succA_tables_round (lf d fu : Nat) (k : Ex → Fr → M Value) (x0 x1 x2 x6 x7 x8 x9 x27 x28 : Value) : lpA_tables_round lf d (fu + 1) k x0 x1 x2 x6 x7 x8 x9 x27 x28 =
 optK (bin2 Tryd.prog .lss 3 x28 x27) fun v29n4 =>
 ifV v29n4 (
  (inside (evMakeSlice Tryd.prog 22 x2 x2)).bind fun v34n5 =>
  optK (evIndexAddr Tryd.prog 23 x9 x28) fun v35n6 =>
  (inside (evStore Tryd.prog 22 v35n6 v34n5)).bind fun u7 =>
  optK (bin2 Tryd.prog .add 3 x28 (Value.int .i64 1)) fun v36n8 =>
  lpA_tables_round lf d fu k x0 x1 x2 x6 x7 x8 x9 x27 v36n8) (
  k (Ex.exit 0) [(0, x0), (1, x1), (2, x2), (6, x6), (7, x7), (8, x8), (9, x9), (27, x27), (28, x28), (29, v29n4)]) := by kernel_rfl
theorem kcAa_tables_round (lf d : Nat) (y0 y1 y2 y6 y7 y8 y9 y27 y28 y29 : Value) : kcA_tables_round lf d (Ex.exit 0) [(0, y0), (1, y1), (2, y2), (6, y6), (7, y7), (8, y8), (9, y9), (27, y27), (28, y28), (29, y29)] =
 optK (len2 Tryd.prog #[23] [y0]) fun v38n9 =>
 lpB_tables_round lf d lf (kcB_tables_round lf d) y0 y1 y2 y6 y7 y8 y9 y27 y28 y29 y0 v38n9 (Value.int .i64 0) := by kernel_rfl
theorem succB_tables_round (lf d fu : Nat) (k : Ex → Fr → M Value) (x0 x1 x2 x6 x7 x8 x9 x27 x28 x29 x37 x38 x39 : Value) : lpB_tables_round lf d (fu + 1) k x0 x1 x2 x6 x7 x8 x9 x27 x28 x29 x37 x38 x39 =
 optK (bin2 Tryd.prog .lss 3 x39 x38) fun v40n10 =>
 ifV v40n10 (
  optK (evIndexAddr Tryd.prog 23 x37 x39) fun v41n11 =>
  (inside (evLoad Tryd.prog 22 v41n11)).bind fun v42n12 =>
  (inside (evCall2 Tryd.prog gt lf d 50 #[v42n12, x1])).bind fun v45n13 =>
  (inside (evBuildSlice Tryd.prog 22 1 [(0, v45n13)])).bind fun v48n14 =>
  (inside (evAppend Tryd.prog 22 x8 v48n14)).bind fun v49n15 =>
  (inside (evCall2 Tryd.prog gt lf d 34 #[v42n12, x2])).bind fun v53n16 =>
  optK (evExtract v53n16 0) fun v54n17 =>
  optK (evExtract v53n16 1) fun v55n18 =>
  optK (evIndexAddr Tryd.prog 23 x9 v45n13) fun v59n19 =>
  (inside (evLoad Tryd.prog 22 v59n19)).bind fun v60n20 =>
  (inside (evCall2 Tryd.prog gt lf d 51 #[v60n20, v54n17])).bind fun v62n21 =>
  optK (evExtract v62n21 0) fun v63n22 =>
  optK (evExtract v62n21 1) fun v64n23 =>
  optK (evIndexAddr Tryd.prog 23 x9 v45n13) fun v68n24 =>
  (inside (evStore Tryd.prog 22 v68n24 v63n22)).bind fun u25 =>
  optK (bin2 Tryd.prog .add 3 x39 (Value.int .i64 1)) fun v69n26 =>
  lpB_tables_round lf d fu k x0 x1 x2 x6 x7 v49n15 x9 x27 x28 x29 x37 x38 v69n26) (
  k (Ex.exit 2) [(0, x0), (1, x1), (2, x2), (6, x6), (7, x7), (8, x8), (9, x9), (27, x27), (28, x28), (29, x29), (37, x37), (38, x38), (39, x39), (40, v40n10)]) := by kernel_rfl
theorem kcBa_tables_round (lf d : Nat) (y0 y1 y2 y6 y7 y8 y9 y27 y28 y29 y37 y38 y39 y40 : Value) : kcB_tables_round lf d (Ex.exit 2) [(0, y0), (1, y1), (2, y2), (6, y6), (7, y7), (8, y8), (9, y9), (27, y27), (28, y28), (29, y29), (37, y37), (38, y38), (39, y39), (40, y40)] =
 optK (len2 Tryd.prog #[23] [y9]) fun v71n27 =>
 lpC_tables_round lf d lf (kcC_tables_round lf d) y0 y1 y2 y6 y7 y8 y9 (Value.slice none 0 0) y27 y28 y29 y37 y38 y39 y40 y9 v71n27 (Value.int .i64 0) := by kernel_rfl
theorem succC_tables_round (lf d fu : Nat) (k : Ex → Fr → M Value) (x0 x1 x2 x6 x7 x8 x9 x18 x27 x28 x29 x37 x38 x39 x40 x70 x71 x72 : Value) : lpC_tables_round lf d (fu + 1) k x0 x1 x2 x6 x7 x8 x9 x18 x27 x28 x29 x37 x38 x39 x40 x70 x71 x72 =
 optK (bin2 Tryd.prog .lss 3 x72 x71) fun v73n28 =>
 ifV v73n28 (
  optK (evIndexAddr Tryd.prog 23 x70 x72) fun v74n29 =>
  (inside (evLoad Tryd.prog 22 v74n29)).bind fun v75n30 =>
  (inside (evCall2 Tryd.prog gt lf d 39 #[v75n30])).bind fun v78n31 =>
  optK (evExtract v78n31 0) fun v79n32 =>
  optK (evExtract v78n31 1) fun v80n33 =>
  (inside (evBuildSlice Tryd.prog 23 1 [(0, v79n32)])).bind fun v83n34 =>
  (inside (evAppend Tryd.prog 23 x18 v83n34)).bind fun v84n35 =>
  optK (bin2 Tryd.prog .add 3 x72 (Value.int .i64 1)) fun v85n36 =>
  lpC_tables_round lf d fu k x0 x1 x2 x6 x7 x8 x9 v84n35 x27 x28 x29 x37 x38 x39 x40 x70 x71 v85n36) (
  k (Ex.exit 4) [(0, x0), (1, x1), (2, x2), (6, x6), (7, x7), (8, x8), (9, x9), (18, x18), (27, x27), (28, x28), (29, x29), (37, x37), (38, x38), (39, x39), (40, x40), (70, x70), (71, x71), (72, x72), (73, v73n28)]) := by kernel_rfl
theorem kcCa_tables_round (lf d : Nat) (y0 y1 y2 y6 y7 y8 y9 y18 y27 y28 y29 y37 y38 y39 y40 y70 y71 y72 y73 : Value) : kcC_tables_round lf d (Ex.exit 4) [(0, y0), (1, y1), (2, y2), (6, y6), (7, y7), (8, y8), (9, y9), (18, y18), (27, y27), (28, y28), (29, y29), (37, y37), (38, y38), (39, y39), (40, y40), (70, y70), (71, y71), (72, y72), (73, y73)] =
 outK [y8, y18] := by kernel_rfl

noncomputable def lpA_lens_Of (lf d fu : Nat) (k : Ex → Fr → M Value) (x0 x2 x3 x4 x20 x24 x25 x26 : Value) : M Value := loopK (fun s1 k1 => codeK Tryd.prog (evCall2 Tryd.prog gt lf d) (gt 39) lf (codeAt (bodyOf Tryd.prog 39) [true, true, true, false, true, false, false]) s1 k1) [0, 2, 3, 4, 20, 24, 25, 26] fu [(0, x0), (2, x2), (3, x3), (4, x4), (20, x20), (24, x24), (25, x25), (26, x26)] k
noncomputable def kcA_lens_Of (lf d : Nat) : Ex → Fr → M Value := contAt Tryd.prog (evCall2 Tryd.prog gt lf d) (gt 39) lf (bodyOf Tryd.prog 39) [true, true, true, false, true, false] (endK Tryd.prog (resOf Tryd.prog 39))
noncomputable def lpB_lens_Of (lf d fu : Nat) (k : Ex → Fr → M Value) (x0 x2 x3 x4 x20 x24 x25 x26 x27 : Value) : M Value := loopK (fun s1 k1 => codeK Tryd.prog (evCall2 Tryd.prog gt lf d) (gt 39) lf (codeAt (bodyOf Tryd.prog 39) [true, true, true, true, false, false]) s1 k1) [0, 2, 3, 4, 20, 24, 25, 26, 27] fu [(0, x0), (2, x2), (3, x3), (4, x4), (20, x20), (24, x24), (25, x25), (26, x26), (27, x27)] k
noncomputable def kcB_lens_Of (lf d : Nat) : Ex → Fr → M Value := contAt Tryd.prog (evCall2 Tryd.prog gt lf d) (gt 39) lf (bodyOf Tryd.prog 39) [true, true, true, true, false] (endK Tryd.prog (resOf Tryd.prog 39))
noncomputable def b_lens_Of (lf d : Nat) (a0 : Value) : M Value :=
 optK (len2 Tryd.prog #[22] [a0]) fun v9n1 =>
 optK (bin2 Tryd.prog .lss 3 v9n1 (Value.int .i64 3)) fun v10n2 =>
 ifV v10n2 (
  outK [(Value.slice none 0 0), (Value.int .i64 1)]) (
  optK (len2 Tryd.prog #[22] [a0]) fun v13n3 =>
  optK (bin2 Tryd.prog .gtr 3 v13n3 (Value.int .i64 258)) fun v14n4 =>
  ifV v14n4 (
   outK [(Value.slice none 0 0), (Value.int .i64 1)]) (
   (inside (evCall2 Tryd.prog gt lf d 52 #[a0, (Value.int .i64 0), (Value.int .i64 1099511627776)])).bind fun v18n5 =>
   optK (un2 Tryd.prog .not v18n5) fun v19n6 =>
   ifV v19n6 (
    outK [(Value.slice none 0 0), (Value.int .i64 1)]) (
    optK (len2 Tryd.prog #[22] [a0]) fun v22n7 =>
    (inside (evMakeSlice Tryd.prog 22 v22n7 v22n7)).bind fun v23n8 =>
    optK (len2 Tryd.prog #[22] [a0]) fun v25n9 =>
    lpA_lens_Of lf d lf (kcA_lens_Of lf d) a0 (Value.slice none 0 0) (Value.int .i64 0) v23n8 v19n6 a0 v25n9 (Value.int .i64 0))))
theorem sh_lens_Of (lf d : Nat) (a0 : Value) : evCall2 Tryd.prog gt lf (d + 1) 39 #[a0] = inside (b_lens_Of lf d a0) := by kernel_rfl
theorem succA_lens_Of (lf d fu : Nat) (k : Ex → Fr → M Value) (x0 x2 x3 x4 x20 x24 x25 x26 : Value) : lpA_lens_Of lf d (fu + 1) k x0 x2 x3 x4 x20 x24 x25 x26 =
 optK (bin2 Tryd.prog .lss 3 x26 x25) fun v27n10 =>
 ifV v27n10 (
  optK (evIndexAddr Tryd.prog 22 x24 x26) fun v29n11 =>
  (inside (evLoad Tryd.prog 3 v29n11)).bind fun v30n12 =>
  optK (max2 [v30n12, (Value.int .i64 1)]) fun v34n13 =>
  optK (evIndexAddr Tryd.prog 22 x4 x26) fun v35n14 =>
  (inside (evStore Tryd.prog 3 v35n14 v34n13)).bind fun u15 =>
  optK (bin2 Tryd.prog .add 3 x26 (Value.int .i64 1)) fun v36n16 =>
  lpA_lens_Of lf d fu k x0 x2 x3 x4 x20 x24 x25 v36n16) (
  k (Ex.exit 0) [(0, x0), (2, x2), (3, x3), (4, x4), (20, x20), (24, x24), (25, x25), (26, x26), (27, v27n10)]) := by kernel_rfl
theorem kcAa_lens_Of (lf d : Nat) (y0 y2 y3 y4 y20 y24 y25 y26 y27 : Value) : kcA_lens_Of lf d (Ex.exit 0) [(0, y0), (2, y2), (3, y3), (4, y4), (20, y20), (24, y24), (25, y25), (26, y26), (27, y27)] =
 lpB_lens_Of lf d lf (kcB_lens_Of lf d) y0 y2 y3 y4 y20 y24 y25 y26 y27 := by kernel_rfl
theorem succB_lens_Of (lf d fu : Nat) (k : Ex → Fr → M Value) (x0 x2 x3 x4 x20 x24 x25 x26 x27 : Value) : lpB_lens_Of lf d (fu + 1) k x0 x2 x3 x4 x20 x24 x25 x26 x27 =
 (inside (evCall2 Tryd.prog gt lf d 53 #[x4])).bind fun v38n17 =>
 (inside (evCall2 Tryd.prog gt lf d 54 #[v38n17])).bind fun v40n18 =>
 optK (bin2 Tryd.prog .leq 3 v40n18 (Value.int .i64 20)) fun v41n19 =>
 ifV v41n19 (
  (inside (evCall2 Tryd.prog gt lf d 55 #[v38n17])).bind fun v43n20 =>
  k Ex.ret [(0, x0), (2, v43n20), (3, (Value.int .i64 0)), (4, x4), (7, v38n17), (20, x20), (24, x24), (25, x25), (26, x26), (27, x27), (41, v41n19)]) (
  (inside (evCall2 Tryd.prog gt lf d 56 #[x4])).bind fun v45n21 =>
  lpB_lens_Of lf d fu k x0 x2 x3 v45n21 x20 x24 x25 x26 x27) := by kernel_rfl
theorem kcBa_lens_Of (lf d : Nat) (y0 y2 y3 y4 y7 y20 y24 y25 y26 y27 y41 : Value) : kcB_lens_Of lf d Ex.ret [(0, y0), (2, y2), (3, y3), (4, y4), (7, y7), (20, y20), (24, y24), (25, y25), (26, y26), (27, y27), (41, y41)] =
 outK [y2, y3] := by kernel_rfl

noncomputable def lpA_slices_Equal_int_int (lf d fu : Nat) (k : Ex → Fr → M Value) (x0 x1 x4 x10 x12 x13 : Value) : M Value := loopK (fun s1 k1 => codeK Tryd.prog (evCall2 Tryd.prog gt lf d) (gt 41) lf (codeAt (bodyOf Tryd.prog 41) [true, true, false, true, false, false]) s1 k1) [0, 1, 4, 10, 12, 13] fu [(0, x0), (1, x1), (4, x4), (10, x10), (12, x12), (13, x13)] k
noncomputable def kcA_slices_Equal_int_int (lf d : Nat) : Ex → Fr → M Value := contAt Tryd.prog (evCall2 Tryd.prog gt lf d) (gt 41) lf (bodyOf Tryd.prog 41) [true, true, false, true, false] (endK Tryd.prog (resOf Tryd.prog 41))
noncomputable def b_slices_Equal_int_int (lf d : Nat) (a0 a1 : Value) : M Value :=
 optK (len2 Tryd.prog #[22] [a0]) fun v7n1 =>
 optK (len2 Tryd.prog #[22] [a1]) fun v9n2 =>
 optK (bin2 Tryd.prog .neq 3 v7n1 v9n2) fun v10n3 =>
 ifV v10n3 (
  outK [(Value.bool false)]) (
  optK (len2 Tryd.prog #[22] [a0]) fun v12n4 =>
  lpA_slices_Equal_int_int lf d lf (kcA_slices_Equal_int_int lf d) a0 a1 (Value.bool false) v10n3 v12n4 (Value.int .i64 0))
theorem sh_slices_Equal_int_int (lf d : Nat) (a0 a1 : Value) : evCall2 Tryd.prog gt lf (d + 1) 41 #[a0, a1] = inside (b_slices_Equal_int_int lf d a0 a1) := by kernel_rfl
theorem succA_slices_Equal_int_int (lf d fu : Nat) (k : Ex → Fr → M Value) (x0 x1 x4 x10 x12 x13 : Value) : lpA_slices_Equal_int_int lf d (fu + 1) k x0 x1 x4 x10 x12 x13 =
 optK (bin2 Tryd.prog .lss 3 x13 x12) fun v14n5 =>
 ifV v14n5 (
  optK (evIndexAddr Tryd.prog 22 x0 x13) fun v18n6 =>
  (inside (evLoad Tryd.prog 3 v18n6)).bind fun v19n7 =>
  optK (evIndexAddr Tryd.prog 22 x1 x13) fun v22n8 =>
  (inside (evLoad Tryd.prog 3 v22n8)).bind fun v23n9 =>
  optK (bin2 Tryd.prog .neq 3 v19n7 v23n9) fun v24n10 =>
  ifV v24n10 (
   k Ex.ret [(0, x0), (1, x1), (4, (Value.bool false)), (5, x13), (10, x10), (12, x12), (13, x13), (14, v14n5), (24, v24n10)]) (
   optK (bin2 Tryd.prog .add 3 x13 (Value.int .i64 1)) fun v25n11 =>
   lpA_slices_Equal_int_int lf d fu k x0 x1 x4 x10 x12 v25n11)) (
  k (Ex.exit 0) [(0, x0), (1, x1), (4, x4), (10, x10), (12, x12), (13, x13), (14, v14n5)]) := by kernel_rfl
theorem kcAa_slices_Equal_int_int (lf d : Nat) (y0 y1 y4 y5 y10 y12 y13 y14 y24 : Value) : kcA_slices_Equal_int_int lf d Ex.ret [(0, y0), (1, y1), (4, y4), (5, y5), (10, y10), (12, y12), (13, y13), (14, y14), (24, y24)] =
 outK [y4] := by kernel_rfl
theorem kcAb_slices_Equal_int_int (lf d : Nat) (y0 y1 y4 y10 y12 y13 y14 : Value) : kcA_slices_Equal_int_int lf d (Ex.exit 0) [(0, y0), (1, y1), (4, y4), (10, y10), (12, y12), (13, y13), (14, y14)] =
 outK [(Value.bool true)] := by kernel_rfl

noncomputable def lpA_slices_EqualFunc_int_int_int_int (lf d fu : Nat) (k : Ex → Fr → M Value) (x0 x1 x2 x6 x14 x15 x16 x17 : Value) : M Value := loopK (fun s1 k1 => codeK Tryd.prog (evCall2 Tryd.prog gt lf d) (gt 42) lf (codeAt (bodyOf Tryd.prog 42) [true, true, false, true, false, false]) s1 k1) [0, 1, 2, 6, 14, 15, 16, 17] fu [(0, x0), (1, x1), (2, x2), (6, x6), (14, x14), (15, x15), (16, x16), (17, x17)] k
noncomputable def kcA_slices_EqualFunc_int_int_int_int (lf d : Nat) : Ex → Fr → M Value := contAt Tryd.prog (evCall2 Tryd.prog gt lf d) (gt 42) lf (bodyOf Tryd.prog 42) [true, true, false, true, false] (endK Tryd.prog (resOf Tryd.prog 42))
noncomputable def b_slices_EqualFunc_int_int_int_int (lf d : Nat) (a0 a1 a2 : Value) : M Value :=
 optK (len2 Tryd.prog #[23] [a0]) fun v11n1 =>
 optK (len2 Tryd.prog #[23] [a1]) fun v13n2 =>
 optK (bin2 Tryd.prog .neq 3 v11n1 v13n2) fun v14n3 =>
 ifV v14n3 (
  outK [(Value.bool false)]) (
  optK (len2 Tryd.prog #[23] [a0]) fun v16n4 =>
  lpA_slices_EqualFunc_int_int_int_int lf d lf (kcA_slices_EqualFunc_int_int_int_int lf d) a0 a1 a2 (Value.bool false) v14n3 a0 v16n4 (Value.int .i64 0))
theorem sh_slices_EqualFunc_int_int_int_int (lf d : Nat) (a0 a1 a2 : Value) : evCall2 Tryd.prog gt lf (d + 1) 42 #[a0, a1, a2] = inside (b_slices_EqualFunc_int_int_int_int lf d a0 a1 a2) := by kernel_rfl
theorem succA_slices_EqualFunc_int_int_int_int (lf d fu : Nat) (k : Ex → Fr → M Value) (x0 x1 x2 x6 x14 x15 x16 x17 : Value) : lpA_slices_EqualFunc_int_int_int_int lf d (fu + 1) k x0 x1 x2 x6 x14 x15 x16 x17 =
 optK (bin2 Tryd.prog .lss 3 x17 x16) fun v18n5 =>
 ifV v18n5 (
  optK (evIndexAddr Tryd.prog 23 x15 x17) fun v20n6 =>
  (inside (evLoad Tryd.prog 22 v20n6)).bind fun v21n7 =>
  optK (evIndexAddr Tryd.prog 23 x1 x17) fun v24n8 =>
  (inside (evLoad Tryd.prog 22 v24n8)).bind fun v25n9 =>
  callV Tryd.prog (evCall2 Tryd.prog gt lf d) x2 [v21n7, v25n9] fun v29n10 =>
  optK (un2 Tryd.prog .not v29n10) fun v30n11 =>
  ifV v30n11 (
   k Ex.ret [(0, x0), (1, x1), (2, x2), (6, (Value.bool false)), (7, x17), (8, v21n7), (9, v25n9), (14, x14), (15, x15), (16, x16), (17, x17), (18, v18n5), (30, v30n11)]) (
   optK (bin2 Tryd.prog .add 3 x17 (Value.int .i64 1)) fun v31n12 =>
   lpA_slices_EqualFunc_int_int_int_int lf d fu k x0 x1 x2 x6 x14 x15 x16 v31n12)) (
  k (Ex.exit 0) [(0, x0), (1, x1), (2, x2), (6, x6), (14, x14), (15, x15), (16, x16), (17, x17), (18, v18n5)]) := by kernel_rfl
theorem kcAa_slices_EqualFunc_int_int_int_int (lf d : Nat) (y0 y1 y2 y6 y7 y8 y9 y14 y15 y16 y17 y18 y30 : Value) : kcA_slices_EqualFunc_int_int_int_int lf d Ex.ret [(0, y0), (1, y1), (2, y2), (6, y6), (7, y7), (8, y8), (9, y9), (14, y14), (15, y15), (16, y16), (17, y17), (18, y18), (30, y30)] =
 outK [y6] := by kernel_rfl
theorem kcAb_slices_EqualFunc_int_int_int_int (lf d : Nat) (y0 y1 y2 y6 y14 y15 y16 y17 y18 : Value) : kcA_slices_EqualFunc_int_int_int_int lf d (Ex.exit 0) [(0, y0), (1, y1), (2, y2), (6, y6), (14, y14), (15, y15), (16, y16), (17, y17), (18, y18)] =
 outK [(Value.bool true)] := by kernel_rfl

noncomputable def b_tables_Same_1 (lf d : Nat) (a0 a1 : Value) : M Value :=
 (inside (evCall2 Tryd.prog gt lf d 41 #[a0, a1])).bind fun v7n1 =>
 outK [v7n1]
theorem sh_tables_Same_1 (lf d : Nat) (a0 a1 : Value) : evCall2 Tryd.prog gt lf (d + 1) 43 #[a0, a1] = inside (b_tables_Same_1 lf d a0 a1) := by kernel_rfl

noncomputable def lpA_balerref08_Counts (lf d fu : Nat) (k : Ex → Fr → M Value) (x0 x1 x4 x5 x7 x8 : Value) : M Value := loopK (fun s1 k1 => codeK Tryd.prog (evCall2 Tryd.prog gt lf d) (gt 44) lf (codeAt (bodyOf Tryd.prog 44) [true, true, false, true, false, false]) s1 k1) [0, 1, 4, 5, 7, 8] fu [(0, x0), (1, x1), (4, x4), (5, x5), (7, x7), (8, x8)] k
noncomputable def kcA_balerref08_Counts (lf d : Nat) : Ex → Fr → M Value := contAt Tryd.prog (evCall2 Tryd.prog gt lf d) (gt 44) lf (bodyOf Tryd.prog 44) [true, true, false, true, false] (endK Tryd.prog (resOf Tryd.prog 44))
noncomputable def b_balerref08_Counts (lf d : Nat) (a0 a1 : Value) : M Value :=
 lpA_balerref08_Counts lf d lf (kcA_balerref08_Counts lf d) a0 a1 (Value.slice none 0 0) (Value.slice none 0 0) a1 (Value.int .i64 0)
theorem sh_balerref08_Counts (lf d : Nat) (a0 a1 : Value) : evCall2 Tryd.prog gt lf (d + 1) 44 #[a0, a1] = inside (b_balerref08_Counts lf d a0 a1) := by kernel_rfl
theorem succA_balerref08_Counts (lf d fu : Nat) (k : Ex → Fr → M Value) (x0 x1 x4 x5 x7 x8 : Value) : lpA_balerref08_Counts lf d (fu + 1) k x0 x1 x4 x5 x7 x8 =
 optK (bin2 Tryd.prog .lss 3 x8 x7) fun v9n1 =>
 ifV v9n1 (
  (inside (evCall2 Tryd.prog gt lf d 32 #[x0, x8])).bind fun v14n2 =>
  (inside (evBuildSlice Tryd.prog 22 1 [(0, v14n2)])).bind fun v15n3 =>
  (inside (evAppend Tryd.prog 22 x5 v15n3)).bind fun v16n4 =>
  optK (bin2 Tryd.prog .add 3 x8 (Value.int .i64 1)) fun v17n5 =>
  lpA_balerref08_Counts lf d fu k x0 x1 x4 v16n4 x7 v17n5) (
  k (Ex.exit 0) [(0, x0), (1, x1), (4, x4), (5, x5), (7, x7), (8, x8), (9, v9n1)]) := by kernel_rfl
theorem kcAa_balerref08_Counts (lf d : Nat) (y0 y1 y4 y5 y7 y8 y9 : Value) : kcA_balerref08_Counts lf d (Ex.exit 0) [(0, y0), (1, y1), (4, y4), (5, y5), (7, y7), (8, y8), (9, y9)] =
 outK [y5] := by kernel_rfl

noncomputable def lpA_balerref12_pick (lf d fu : Nat) (k : Ex → Fr → M Value) (x0 x1 x4 x5 x8 x9 x10 : Value) : M Value := loopK (fun s1 k1 => codeK Tryd.prog (evCall2 Tryd.prog gt lf d) (gt 45) lf (codeAt (bodyOf Tryd.prog 45) [true, true, false, true, false, false]) s1 k1) [0, 1, 4, 5, 8, 9, 10] fu [(0, x0), (1, x1), (4, x4), (5, x5), (8, x8), (9, x9), (10, x10)] k
noncomputable def kcA_balerref12_pick (lf d : Nat) : Ex → Fr → M Value := contAt Tryd.prog (evCall2 Tryd.prog gt lf d) (gt 45) lf (bodyOf Tryd.prog 45) [true, true, false, true, false] (endK Tryd.prog (resOf Tryd.prog 45))
noncomputable def b_balerref12_pick (lf d : Nat) (a0 a1 : Value) : M Value :=
 optK (len2 Tryd.prog #[23] [a1]) fun v9n1 =>
 lpA_balerref12_pick lf d lf (kcA_balerref12_pick lf d) a0 a1 (Value.int .i64 0) (Value.int .i64 0) a1 v9n1 (Value.int .i64 0)
theorem sh_balerref12_pick (lf d : Nat) (a0 a1 : Value) : evCall2 Tryd.prog gt lf (d + 1) 45 #[a0, a1] = inside (b_balerref12_pick lf d a0 a1) := by kernel_rfl
theorem succA_balerref12_pick (lf d fu : Nat) (k : Ex → Fr → M Value) (x0 x1 x4 x5 x8 x9 x10 : Value) : lpA_balerref12_pick lf d (fu + 1) k x0 x1 x4 x5 x8 x9 x10 =
 optK (bin2 Tryd.prog .lss 3 x10 x9) fun v11n2 =>
 ifV v11n2 (
  optK (evIndexAddr Tryd.prog 23 x8 x10) fun v13n3 =>
  (inside (evLoad Tryd.prog 22 v13n3)).bind fun v14n4 =>
  (timed (
   (inside (evCall2 Tryd.prog gt lf d 13 #[x0, v14n4])).bind fun v17n6 => M.ret v17n6)).bind fun vtn5 =>
  optK (evIndexAddr Tryd.prog 23 x1 x5) fun v21n7 =>
  (timed (
   (inside (evLoad Tryd.prog 22 v21n7)).bind fun v22n9 => M.ret v22n9)).bind fun vtn8 =>
  (timed (
   (inside (evCall2 Tryd.prog gt lf d 13 #[x0, vtn8.1])).bind fun v23n11 => M.ret v23n11)).bind fun vtn10 =>
  optK (bin2 Tryd.prog .lss 3 vtn5.1 vtn10.1) fun v24n12 =>
  chkT ((!(Tk.clash vtn5.2 vtn8.2) && true) && true) (
   ifV v24n12 (
    optK (bin2 Tryd.prog .add 3 x10 (Value.int .i64 1)) fun v26n13 =>
    lpA_balerref12_pick lf d fu k x0 x1 x4 x10 x8 x9 v26n13) (
    optK (bin2 Tryd.prog .add 3 x10 (Value.int .i64 1)) fun v26n14 =>
    lpA_balerref12_pick lf d fu k x0 x1 x4 x5 x8 x9 v26n14))) (
  k (Ex.exit 0) [(0, x0), (1, x1), (4, x4), (5, x5), (8, x8), (9, x9), (10, x10), (11, v11n2)]) := by kernel_rfl
theorem kcAa_balerref12_pick (lf d : Nat) (y0 y1 y4 y5 y8 y9 y10 y11 : Value) : kcA_balerref12_pick lf d (Ex.exit 0) [(0, y0), (1, y1), (4, y4), (5, y5), (8, y8), (9, y9), (10, y10), (11, y11)] =
 outK [y5] := by kernel_rfl

noncomputable def lpA_balerref09_Of (lf d fu : Nat) (k : Ex → Fr → M Value) (x0 x2 x3 x7 x8 x9 : Value) : M Value := loopK (fun s1 k1 => codeK Tryd.prog (evCall2 Tryd.prog gt lf d) (gt 46) lf (codeAt (bodyOf Tryd.prog 46) [true, true, false, true, false, false]) s1 k1) [0, 2, 3, 7, 8, 9] fu [(0, x0), (2, x2), (3, x3), (7, x7), (8, x8), (9, x9)] k
noncomputable def kcA_balerref09_Of (lf d : Nat) : Ex → Fr → M Value := contAt Tryd.prog (evCall2 Tryd.prog gt lf d) (gt 46) lf (bodyOf Tryd.prog 46) [true, true, false, true, false] (endK Tryd.prog (resOf Tryd.prog 46))
noncomputable def lpB_balerref09_Of (lf d fu : Nat) (k : Ex → Fr → M Value) (x0 x2 x3 x7 x8 x9 x10 x20 : Value) : M Value := loopK (fun s1 k1 => codeK Tryd.prog (evCall2 Tryd.prog gt lf d) (gt 46) lf (codeAt (bodyOf Tryd.prog 46) [true, true, true, false, true, false, false]) s1 k1) [0, 2, 3, 7, 8, 9, 10, 20] fu [(0, x0), (2, x2), (3, x3), (7, x7), (8, x8), (9, x9), (10, x10), (20, x20)] k
noncomputable def kcB_balerref09_Of (lf d : Nat) : Ex → Fr → M Value := contAt Tryd.prog (evCall2 Tryd.prog gt lf d) (gt 46) lf (bodyOf Tryd.prog 46) [true, true, true, false, true, false] (endK Tryd.prog (resOf Tryd.prog 46))
noncomputable def b_balerref09_Of (lf d : Nat) (a0 : Value) : M Value :=
 optK (len2 Tryd.prog #[22] [a0]) fun v8n1 =>
 lpA_balerref09_Of lf d lf (kcA_balerref09_Of lf d) a0 (Value.slice none 0 0) (Value.slice none 0 0) a0 v8n1 (Value.int .i64 0)
theorem sh_balerref09_Of (lf d : Nat) (a0 : Value) : evCall2 Tryd.prog gt lf (d + 1) 46 #[a0] = inside (b_balerref09_Of lf d a0) := by kernel_rfl
theorem succA_balerref09_Of (lf d fu : Nat) (k : Ex → Fr → M Value) (x0 x2 x3 x7 x8 x9 : Value) : lpA_balerref09_Of lf d (fu + 1) k x0 x2 x3 x7 x8 x9 =
 optK (bin2 Tryd.prog .lss 3 x9 x8) fun v10n2 =>
 ifV v10n2 (
  optK (evIndexAddr Tryd.prog 22 x7 x9) fun v11n3 =>
  (inside (evLoad Tryd.prog 3 v11n3)).bind fun v12n4 =>
  optK (bin2 Tryd.prog .eql 3 v12n4 (Value.int .i64 0)) fun v14n5 =>
  ifV v14n5 (
   (inside (evBuildSlice Tryd.prog 22 1 [(0, (Value.int .i64 1))])).bind fun v17n6 =>
   (inside (evAppend Tryd.prog 22 x3 v17n6)).bind fun v18n7 =>
   optK (bin2 Tryd.prog .add 3 x9 (Value.int .i64 1)) fun v19n8 =>
   lpA_balerref09_Of lf d fu k x0 x2 v18n7 x7 x8 v19n8) (
   (inside (evBuildSlice Tryd.prog 22 1 [(0, v12n4)])).bind fun v17n9 =>
   (inside (evAppend Tryd.prog 22 x3 v17n9)).bind fun v18n10 =>
   optK (bin2 Tryd.prog .add 3 x9 (Value.int .i64 1)) fun v19n11 =>
   lpA_balerref09_Of lf d fu k x0 x2 v18n10 x7 x8 v19n11)) (
  k (Ex.exit 0) [(0, x0), (2, x2), (3, x3), (7, x7), (8, x8), (9, x9), (10, v10n2)]) := by kernel_rfl
theorem kcAa_balerref09_Of (lf d : Nat) (y0 y2 y3 y7 y8 y9 y10 : Value) : kcA_balerref09_Of lf d (Ex.exit 0) [(0, y0), (2, y2), (3, y3), (7, y7), (8, y8), (9, y9), (10, y10)] =
 lpB_balerref09_Of lf d lf (kcB_balerref09_Of lf d) y0 y2 y3 y7 y8 y9 y10 (Value.int .i64 0) := by kernel_rfl
theorem succB_balerref09_Of (lf d fu : Nat) (k : Ex → Fr → M Value) (x0 x2 x3 x7 x8 x9 x10 x20 : Value) : lpB_balerref09_Of lf d (fu + 1) k x0 x2 x3 x7 x8 x9 x10 x20 =
 optK (bin2 Tryd.prog .lss 3 x20 (Value.int .i64 100)) fun v21n12 =>
 ifV v21n12 (
  (inside (evCall2 Tryd.prog gt lf d 57 #[x3])).bind fun v23n13 =>
  (inside (evCall2 Tryd.prog gt lf d 20 #[v23n13, (Value.int .i64 1), (Value.int .i64 20)])).bind fun v25n14 =>
  ifV v25n14 (
   k Ex.ret [(0, x0), (2, v23n13), (3, x3), (6, v23n13), (7, x7), (8, x8), (9, x9), (10, x10), (20, x20), (21, v21n12), (25, v25n14)]) (
   (inside (evCall2 Tryd.prog gt lf d 58 #[x3])).bind fun v28n15 =>
   optK (bin2 Tryd.prog .add 3 x20 (Value.int .i64 1)) fun v29n16 =>
   lpB_balerref09_Of lf d fu k x0 x2 v28n15 x7 x8 x9 x10 v29n16)) (
  k (Ex.exit 2) [(0, x0), (2, x2), (3, x3), (7, x7), (8, x8), (9, x9), (10, x10), (20, x20), (21, v21n12)]) := by kernel_rfl
theorem kcBa_balerref09_Of (lf d : Nat) (y0 y2 y3 y6 y7 y8 y9 y10 y20 y21 y25 : Value) : kcB_balerref09_Of lf d Ex.ret [(0, y0), (2, y2), (3, y3), (6, y6), (7, y7), (8, y8), (9, y9), (10, y10), (20, y20), (21, y21), (25, y25)] =
 outK [y2] := by kernel_rfl
noncomputable def b_freq_part_int (lf d : Nat) (a0 a1 a2 : Value) : M Value :=
 optK (bin2 Tryd.prog .mul 3 a1 a2) fun v10n1 =>
 optK (len2 Tryd.prog #[22] [a0]) fun v12n2 =>
 optK (bin2 Tryd.prog .add 3 a1 (Value.int .i64 1)) fun v14n3 =>
 optK (bin2 Tryd.prog .mul 3 v14n3 a2) fun v16n4 =>
 optK (min2 [v12n2, v16n4]) fun v17n5 =>
 slice2 Tryd.prog 22 a0 (some v10n1) (some v17n5) none fun v18n6 =>
 (inside (evCall2 Tryd.prog gt lf d 55 #[v18n6])).bind fun v19n7 =>
 outK [v19n7]
theorem sh_freq_part_int (lf d : Nat) (a0 a1 a2 : Value) : evCall2 Tryd.prog gt lf (d + 1) 47 #[a0, a1, a2] = inside (b_freq_part_int lf d a0 a1 a2) := by kernel_rfl

noncomputable def b_freq_all (lf d : Nat) (a0 : Value) : M Value :=
 (inside (evCall2 Tryd.prog gt lf d 59 #[a0, (Value.func (.func 60) #[] #[])])).bind fun v4n1 =>
 optK (un2 Tryd.prog .not v4n1) fun v5n2 =>
 outK [v5n2]
theorem sh_freq_all (lf d : Nat) (a0 : Value) : evCall2 Tryd.prog gt lf (d + 1) 48 #[a0] = inside (b_freq_all lf d a0) := by kernel_rfl

noncomputable def b_freq_together (lf d : Nat) (a0 a1 : Value) : M Value :=
 optK (bin2 Tryd.prog .add 3 a0 a1) fun v7n1 =>
 optK (min2 [v7n1, (Value.int .i64 1099511627776)]) fun v8n2 =>
 outK [v8n2]
theorem sh_freq_together (lf d : Nat) (a0 a1 : Value) : evCall2 Tryd.prog gt lf (d + 1) 49 #[a0, a1] = inside (b_freq_together lf d a0 a1) := by kernel_rfl

noncomputable def lpA_tables_pick (lf d fu : Nat) (k : Ex → Fr → M Value) (x0 x1 x4 x5 x6 x11 x12 x13 : Value) : M Value := loopK (fun s1 k1 => codeK Tryd.prog (evCall2 Tryd.prog gt lf d) (gt 50) lf (codeAt (bodyOf Tryd.prog 50) [true, true, false, true, false, false]) s1 k1) [0, 1, 4, 5, 6, 11, 12, 13] fu [(0, x0), (1, x1), (4, x4), (5, x5), (6, x6), (11, x11), (12, x12), (13, x13)] k
noncomputable def kcA_tables_pick (lf d : Nat) : Ex → Fr → M Value := contAt Tryd.prog (evCall2 Tryd.prog gt lf d) (gt 50) lf (bodyOf Tryd.prog 50) [true, true, false, true, false] (endK Tryd.prog (resOf Tryd.prog 50))
noncomputable def b_tables_pick (lf d : Nat) (a0 a1 : Value) : M Value :=
 optK (len2 Tryd.prog #[23] [a1]) fun v12n1 =>
 lpA_tables_pick lf d lf (kcA_tables_pick lf d) a0 a1 (Value.int .i64 0) (Value.int .i64 0) (Value.int .i64 1099511627776) a1 v12n1 (Value.int .i64 0)
theorem sh_tables_pick (lf d : Nat) (a0 a1 : Value) : evCall2 Tryd.prog gt lf (d + 1) 50 #[a0, a1] = inside (b_tables_pick lf d a0 a1) := by kernel_rfl
theorem succA_tables_pick (lf d fu : Nat) (k : Ex → Fr → M Value) (x0 x1 x4 x5 x6 x11 x12 x13 : Value) : lpA_tables_pick lf d (fu + 1) k x0 x1 x4 x5 x6 x11 x12 x13 =
 optK (bin2 Tryd.prog .lss 3 x13 x12) fun v14n2 =>
 ifV v14n2 (
  optK (evIndexAddr Tryd.prog 23 x11 x13) fun v16n3 =>
  (inside (evLoad Tryd.prog 22 v16n3)).bind fun v17n4 =>
  (inside (evCall2 Tryd.prog gt lf d 31 #[x0, v17n4])).bind fun v21n5 =>
  optK (evExtract v21n5 0) fun v22n6 =>
  optK (evExtract v21n5 1) fun v23n7 =>
  optK (bin2 Tryd.prog .lss 3 v22n6 x6) fun v26n8 =>
  ifV v26n8 (
   optK (bin2 Tryd.prog .add 3 x13 (Value.int .i64 1)) fun v29n9 =>
   lpA_tables_pick lf d fu k x0 x1 x4 x13 v22n6 x11 x12 v29n9) (
   optK (bin2 Tryd.prog .add 3 x13 (Value.int .i64 1)) fun v29n10 =>
   lpA_tables_pick lf d fu k x0 x1 x4 x5 x6 x11 x12 v29n10)) (
  k (Ex.exit 0) [(0, x0), (1, x1), (4, x4), (5, x5), (6, x6), (11, x11), (12, x12), (13, x13), (14, v14n2)]) := by kernel_rfl
theorem kcAa_tables_pick (lf d : Nat) (y0 y1 y4 y5 y6 y11 y12 y13 y14 : Value) : kcA_tables_pick lf d (Ex.exit 0) [(0, y0), (1, y1), (4, y4), (5, y5), (6, y6), (11, y11), (12, y12), (13, y13), (14, y14)] =
 outK [y5] := by kernel_rfl

noncomputable def lpA_freq_Add (lf d fu : Nat) (k : Ex → Fr → M Value) (x0 x1 x4 x5 x6 x22 x27 x28 : Value) : M Value := loopK (fun s1 k1 => codeK Tryd.prog (evCall2 Tryd.prog gt lf d) (gt 51) lf (codeAt (bodyOf Tryd.prog 51) [true, true, true, false, true, false, false]) s1 k1) [0, 1, 4, 5, 6, 22, 27, 28] fu [(0, x0), (1, x1), (4, x4), (5, x5), (6, x6), (22, x22), (27, x27), (28, x28)] k
noncomputable def kcA_freq_Add (lf d : Nat) : Ex → Fr → M Value := contAt Tryd.prog (evCall2 Tryd.prog gt lf d) (gt 51) lf (bodyOf Tryd.prog 51) [true, true, true, false, true, false] (endK Tryd.prog (resOf Tryd.prog 51))
noncomputable def b_freq_Add (lf d : Nat) (a0 a1 : Value) : M Value :=
 optK (len2 Tryd.prog #[22] [a0]) fun v9n1 =>
 optK (len2 Tryd.prog #[22] [a1]) fun v11n2 =>
 optK (bin2 Tryd.prog .neq 3 v9n1 v11n2) fun v12n3 =>
 ifV v12n3 (
  outK [(Value.slice none 0 0), (Value.int .i64 1)]) (
  (inside (evCall2 Tryd.prog gt lf d 48 #[a0])).bind fun v15n4 =>
  optK (un2 Tryd.prog .not v15n4) fun v16n5 =>
  ifV v16n5 (
   outK [(Value.slice none 0 0), (Value.int .i64 1)]) (
   (inside (evCall2 Tryd.prog gt lf d 48 #[a1])).bind fun v20n6 =>
   optK (un2 Tryd.prog .not v20n6) fun v21n7 =>
   ifV v21n7 (
    outK [(Value.slice none 0 0), (Value.int .i64 1)]) (
    optK (len2 Tryd.prog #[22] [a0]) fun v24n8 =>
    (inside (evMakeSlice Tryd.prog 22 v24n8 v24n8)).bind fun v25n9 =>
    optK (len2 Tryd.prog #[22] [v25n9]) fun v27n10 =>
    lpA_freq_Add lf d lf (kcA_freq_Add lf d) a0 a1 (Value.slice none 0 0) (Value.int .i64 0) v25n9 v21n7 v27n10 (Value.int .i64 0))))
theorem sh_freq_Add (lf d : Nat) (a0 a1 : Value) : evCall2 Tryd.prog gt lf (d + 1) 51 #[a0, a1] = inside (b_freq_Add lf d a0 a1) := by kernel_rfl
theorem succA_freq_Add (lf d fu : Nat) (k : Ex → Fr → M Value) (x0 x1 x4 x5 x6 x22 x27 x28 : Value) : lpA_freq_Add lf d (fu + 1) k x0 x1 x4 x5 x6 x22 x27 x28 =
 optK (bin2 Tryd.prog .lss 3 x28 x27) fun v29n11 =>
 ifV v29n11 (
  optK (evIndexAddr Tryd.prog 22 x0 x28) fun v35n12 =>
  (inside (evLoad Tryd.prog 3 v35n12)).bind fun v36n13 =>
  optK (evIndexAddr Tryd.prog 22 x1 x28) fun v39n14 =>
  (inside (evLoad Tryd.prog 3 v39n14)).bind fun v40n15 =>
  (inside (evCall2 Tryd.prog gt lf d 49 #[v36n13, v40n15])).bind fun v41n16 =>
  optK (evIndexAddr Tryd.prog 22 x6 x28) fun v42n17 =>
  (inside (evStore Tryd.prog 3 v42n17 v41n16)).bind fun u18 =>
  optK (bin2 Tryd.prog .add 3 x28 (Value.int .i64 1)) fun v43n19 =>
  lpA_freq_Add lf d fu k x0 x1 x4 x5 x6 x22 x27 v43n19) (
  k (Ex.exit 0) [(0, x0), (1, x1), (4, x4), (5, x5), (6, x6), (22, x22), (27, x27), (28, x28), (29, v29n11)]) := by kernel_rfl
theorem kcAa_freq_Add (lf d : Nat) (y0 y1 y4 y5 y6 y22 y27 y28 y29 : Value) : kcA_freq_Add lf d (Ex.exit 0) [(0, y0), (1, y1), (4, y4), (5, y5), (6, y6), (22, y22), (27, y27), (28, y28), (29, y29)] =
 outK [y6, (Value.int .i64 0)] := by kernel_rfl

noncomputable def b_lens_between (lf d : Nat) (a0 a1 a2 : Value) : M Value :=
 (inside (evBox Tryd.prog 3 a1)).bind fun v4n1 =>
 (inside (evBox Tryd.prog 3 a2)).bind fun v5n2 =>
 (inside (evCall2 Tryd.prog gt lf d 59 #[a0, (Value.func (Go.Fn.func 62) #[] #[v4n1, v5n2])])).bind fun v9n3 =>
 optK (un2 Tryd.prog .not v9n3) fun v10n4 =>
 outK [v10n4]
theorem sh_lens_between (lf d : Nat) (a0 a1 a2 : Value) : evCall2 Tryd.prog gt lf (d + 1) 52 #[a0, a1, a2] = inside (b_lens_between lf d a0 a1 a2) := by kernel_rfl

noncomputable def lpA_lens_depths (lf d fu : Nat) (k : Ex → Fr → M Value) (x0 x2 x3 x11 x12 : Value) : M Value := loopK (fun s1 k1 => codeK Tryd.prog (evCall2 Tryd.prog gt lf d) (gt 53) lf (codeAt (bodyOf Tryd.prog 53) [true, true, false, true, false, false]) s1 k1) [0, 2, 3, 11, 12] fu [(0, x0), (2, x2), (3, x3), (11, x11), (12, x12)] k
noncomputable def kcA_lens_depths (lf d : Nat) : Ex → Fr → M Value := contAt Tryd.prog (evCall2 Tryd.prog gt lf d) (gt 53) lf (bodyOf Tryd.prog 53) [true, true, false, true, false] (endK Tryd.prog (resOf Tryd.prog 53))
noncomputable def lpB_lens_depths (lf d fu : Nat) (k : Ex → Fr → M Value) (x0 x2 x3 x5 x6 x11 x12 x13 : Value) : M Value := loopK (fun s1 k1 => codeK Tryd.prog (evCall2 Tryd.prog gt lf d) (gt 53) lf (codeAt (bodyOf Tryd.prog 53) [true, true, true, true, false, true, false, false]) s1 k1) [0, 2, 3, 5, 6, 11, 12, 13] fu [(0, x0), (2, x2), (3, x3), (5, x5), (6, x6), (11, x11), (12, x12), (13, x13)] k
noncomputable def kcB_lens_depths (lf d : Nat) : Ex → Fr → M Value := contAt Tryd.prog (evCall2 Tryd.prog gt lf d) (gt 53) lf (bodyOf Tryd.prog 53) [true, true, true, true, false, true, false] (endK Tryd.prog (resOf Tryd.prog 53))
noncomputable def b_lens_depths (lf d : Nat) (a0 : Value) : M Value :=
 (inside (evCall2 Tryd.prog gt lf d 63 #[a0])).bind fun v8n1 =>
 optK (len2 Tryd.prog #[22] [a0]) fun v10n2 =>
 optK (bin2 Tryd.prog .sub 3 v10n2 (Value.int .i64 1)) fun v11n3 =>
 lpA_lens_depths lf d lf (kcA_lens_depths lf d) a0 (Value.slice none 0 0) v8n1 v11n3 (Value.int .i64 0)
theorem sh_lens_depths (lf d : Nat) (a0 : Value) : evCall2 Tryd.prog gt lf (d + 1) 53 #[a0] = inside (b_lens_depths lf d a0) := by kernel_rfl
theorem succA_lens_depths (lf d fu : Nat) (k : Ex → Fr → M Value) (x0 x2 x3 x11 x12 : Value) : lpA_lens_depths lf d (fu + 1) k x0 x2 x3 x11 x12 =
 optK (bin2 Tryd.prog .lss 3 x12 x11) fun v13n4 =>
 ifV v13n4 (
  (inside (evCall2 Tryd.prog gt lf d 64 #[x3])).bind fun v15n5 =>
  (inside (evCall2 Tryd.prog gt lf d 64 #[x3])).bind fun v19n6 =>
  (inside (evCall2 Tryd.prog gt lf d 65 #[x3, v15n5, v19n6])).bind fun v20n7 =>
  optK (bin2 Tryd.prog .add 3 x12 (Value.int .i64 1)) fun v21n8 =>
  lpA_lens_depths lf d fu k x0 x2 x3 x11 v21n8) (
  k (Ex.exit 0) [(0, x0), (2, x2), (3, x3), (11, x11), (12, x12), (13, v13n4)]) := by kernel_rfl
theorem kcAa_lens_depths (lf d : Nat) (y0 y2 y3 y11 y12 y13 : Value) : kcA_lens_depths lf d (Ex.exit 0) [(0, y0), (2, y2), (3, y3), (11, y11), (12, y12), (13, y13)] =
 optK (nil2 y3) fun v23n9 =>
 optK (evFieldAddr Tryd.prog 72 v23n9 0) fun v24n10 =>
 (inside (evLoad Tryd.prog 22 v24n10)).bind fun v25n11 =>
 optK (len2 Tryd.prog #[22] [v25n11]) fun v26n12 =>
 (inside (evMakeSlice Tryd.prog 22 v26n12 v26n12)).bind fun v27n13 =>
 optK (len2 Tryd.prog #[22] [v27n13]) fun v29n14 =>
 optK (bin2 Tryd.prog .sub 3 v29n14 (Value.int .i64 2)) fun v30n15 =>
 lpB_lens_depths lf d lf (kcB_lens_depths lf d) y0 y2 y3 v27n13 v30n15 y11 y12 y13 := by kernel_rfl
theorem succB_lens_depths (lf d fu : Nat) (k : Ex → Fr → M Value) (x0 x2 x3 x5 x6 x11 x12 x13 : Value) : lpB_lens_depths lf d (fu + 1) k x0 x2 x3 x5 x6 x11 x12 x13 =
 optK (bin2 Tryd.prog .geq 3 x6 (Value.int .i64 0)) fun v32n16 =>
 ifV v32n16 (
  optK (nil2 x3) fun v39n17 =>
  optK (evFieldAddr Tryd.prog 72 v39n17 1) fun v40n18 =>
  (inside (evLoad Tryd.prog 22 v40n18)).bind fun v41n19 =>
  optK (evIndexAddr Tryd.prog 22 v41n19 x6) fun v43n20 =>
  (inside (evLoad Tryd.prog 3 v43n20)).bind fun v44n21 =>
  optK (evIndexAddr Tryd.prog 22 x5 v44n21) fun v45n22 =>
  (inside (evLoad Tryd.prog 3 v45n22)).bind fun v46n23 =>
  optK (bin2 Tryd.prog .add 3 v46n23 (Value.int .i64 1)) fun v47n24 =>
  optK (evIndexAddr Tryd.prog 22 x5 x6) fun v48n25 =>
  (inside (evStore Tryd.prog 3 v48n25 v47n24)).bind fun u26 =>
  optK (bin2 Tryd.prog .sub 3 x6 (Value.int .i64 1)) fun v34n27 =>
  lpB_lens_depths lf d fu k x0 x2 x3 x5 v34n27 x11 x12 x13) (
  k (Ex.exit 2) [(0, x0), (2, x2), (3, x3), (5, x5), (6, x6), (11, x11), (12, x12), (13, x13), (32, v32n16)]) := by kernel_rfl
theorem kcBa_lens_depths (lf d : Nat) (y0 y2 y3 y5 y6 y11 y12 y13 y32 : Value) : kcB_lens_depths lf d (Ex.exit 2) [(0, y0), (2, y2), (3, y3), (5, y5), (6, y6), (11, y11), (12, y12), (13, y13), (32, y32)] =
 optK (len2 Tryd.prog #[22] [y0]) fun v51n28 =>
 slice2 Tryd.prog 22 y5 none (some v51n28) none fun v52n29 =>
 outK [v52n29] := by kernel_rfl

noncomputable def lpA_lens_Longest (lf d fu : Nat) (k : Ex → Fr → M Value) (x0 x2 x3 x6 x7 x8 : Value) : M Value := loopK (fun s1 k1 => codeK Tryd.prog (evCall2 Tryd.prog gt lf d) (gt 54) lf (codeAt (bodyOf Tryd.prog 54) [true, true, false, true, false, false]) s1 k1) [0, 2, 3, 6, 7, 8] fu [(0, x0), (2, x2), (3, x3), (6, x6), (7, x7), (8, x8)] k
noncomputable def kcA_lens_Longest (lf d : Nat) : Ex → Fr → M Value := contAt Tryd.prog (evCall2 Tryd.prog gt lf d) (gt 54) lf (bodyOf Tryd.prog 54) [true, true, false, true, false] (endK Tryd.prog (resOf Tryd.prog 54))
noncomputable def b_lens_Longest (lf d : Nat) (a0 : Value) : M Value :=
 optK (len2 Tryd.prog #[22] [a0]) fun v7n1 =>
 lpA_lens_Longest lf d lf (kcA_lens_Longest lf d) a0 (Value.int .i64 0) (Value.int .i64 0) a0 v7n1 (Value.int .i64 0)
theorem sh_lens_Longest (lf d : Nat) (a0 : Value) : evCall2 Tryd.prog gt lf (d + 1) 54 #[a0] = inside (b_lens_Longest lf d a0) := by kernel_rfl
theorem succA_lens_Longest (lf d fu : Nat) (k : Ex → Fr → M Value) (x0 x2 x3 x6 x7 x8 : Value) : lpA_lens_Longest lf d (fu + 1) k x0 x2 x3 x6 x7 x8 =
 optK (bin2 Tryd.prog .lss 3 x8 x7) fun v9n2 =>
 ifV v9n2 (
  optK (evIndexAddr Tryd.prog 22 x6 x8) fun v10n3 =>
  (inside (evLoad Tryd.prog 3 v10n3)).bind fun v11n4 =>
  optK (max2 [x3, v11n4]) fun v14n5 =>
  optK (bin2 Tryd.prog .add 3 x8 (Value.int .i64 1)) fun v15n6 =>
  lpA_lens_Longest lf d fu k x0 x2 v14n5 x6 x7 v15n6) (
  k (Ex.exit 0) [(0, x0), (2, x2), (3, x3), (6, x6), (7, x7), (8, x8), (9, v9n2)]) := by kernel_rfl
theorem kcAa_lens_Longest (lf d : Nat) (y0 y2 y3 y6 y7 y8 y9 : Value) : kcA_lens_Longest lf d (Ex.exit 0) [(0, y0), (2, y2), (3, y3), (6, y6), (7, y7), (8, y8), (9, y9)] =
 outK [y3] := by kernel_rfl

noncomputable def b_slices_Clone_int_int (lf d : Nat) (a0 : Value) : M Value :=
 optK (bin2 Tryd.prog .eql 22 a0 (Value.slice none 0 0)) fun v4n1 =>
 ifV v4n1 (
  outK [(Value.slice none 0 0)]) (
  (inside (evBuildSlice Tryd.prog 22 0 [])).bind fun v5n2 =>
  (inside (evAppend Tryd.prog 22 v5n2 a0)).bind fun v7n3 =>
  outK [v7n3])
theorem sh_slices_Clone_int_int (lf d : Nat) (a0 : Value) : evCall2 Tryd.prog gt lf (d + 1) 55 #[a0] = inside (b_slices_Clone_int_int lf d a0) := by kernel_rfl

noncomputable def lpA_lens_Halved (lf d fu : Nat) (k : Ex → Fr → M Value) (x0 x2 x3 x9 x10 x11 : Value) : M Value := loopK (fun s1 k1 => codeK Tryd.prog (evCall2 Tryd.prog gt lf d) (gt 56) lf (codeAt (bodyOf Tryd.prog 56) [true, true, false, true, false, false]) s1 k1) [0, 2, 3, 9, 10, 11] fu [(0, x0), (2, x2), (3, x3), (9, x9), (10, x10), (11, x11)] k
noncomputable def kcA_lens_Halved (lf d : Nat) : Ex → Fr → M Value := contAt Tryd.prog (evCall2 Tryd.prog gt lf d) (gt 56) lf (bodyOf Tryd.prog 56) [true, true, false, true, false] (endK Tryd.prog (resOf Tryd.prog 56))
noncomputable def b_lens_Halved (lf d : Nat) (a0 : Value) : M Value :=
 optK (len2 Tryd.prog #[22] [a0]) fun v7n1 =>
 (inside (evMakeSlice Tryd.prog 22 v7n1 v7n1)).bind fun v8n2 =>
 optK (len2 Tryd.prog #[22] [a0]) fun v10n3 =>
 lpA_lens_Halved lf d lf (kcA_lens_Halved lf d) a0 (Value.slice none 0 0) v8n2 a0 v10n3 (Value.int .i64 0)
theorem sh_lens_Halved (lf d : Nat) (a0 : Value) : evCall2 Tryd.prog gt lf (d + 1) 56 #[a0] = inside (b_lens_Halved lf d a0) := by kernel_rfl
theorem succA_lens_Halved (lf d fu : Nat) (k : Ex → Fr → M Value) (x0 x2 x3 x9 x10 x11 : Value) : lpA_lens_Halved lf d (fu + 1) k x0 x2 x3 x9 x10 x11 =
 optK (bin2 Tryd.prog .lss 3 x11 x10) fun v12n4 =>
 ifV v12n4 (
  optK (evIndexAddr Tryd.prog 22 x9 x11) fun v14n5 =>
  (inside (evLoad Tryd.prog 3 v14n5)).bind fun v15n6 =>
  optK (max2 [v15n6, (Value.int .i64 0)]) fun v19n7 =>
  optK (bin2 Tryd.prog .quo 3 v19n7 (Value.int .i64 2)) fun v20n8 =>
  optK (bin2 Tryd.prog .add 3 v20n8 (Value.int .i64 1)) fun v21n9 =>
  optK (evIndexAddr Tryd.prog 22 x3 x11) fun v22n10 =>
  (inside (evStore Tryd.prog 3 v22n10 v21n9)).bind fun u11 =>
  optK (bin2 Tryd.prog .add 3 x11 (Value.int .i64 1)) fun v23n12 =>
  lpA_lens_Halved lf d fu k x0 x2 x3 x9 x10 v23n12) (
  k (Ex.exit 0) [(0, x0), (2, x2), (3, x3), (9, x9), (10, x10), (11, x11), (12, v12n4)]) := by kernel_rfl
theorem kcAa_lens_Halved (lf d : Nat) (y0 y2 y3 y9 y10 y11 y12 : Value) : kcA_lens_Halved lf d (Ex.exit 0) [(0, y0), (2, y2), (3, y3), (9, y9), (10, y10), (11, y11), (12, y12)] =
 outK [y3] := by kernel_rfl

noncomputable def lpA_balerref09_Depths (lf d fu : Nat) (k : Ex → Fr → M Value) (x0 x2 x3 x4 x18 x19 x20 : Value) : M Value := loopK (fun s1 k1 => codeK Tryd.prog (evCall2 Tryd.prog gt lf d) (gt 57) lf (codeAt (bodyOf Tryd.prog 57) [true, true, true, false, true, false, false]) s1 k1) [0, 2, 3, 4, 18, 19, 20] fu [(0, x0), (2, x2), (3, x3), (4, x4), (18, x18), (19, x19), (20, x20)] k
noncomputable def kcA_balerref09_Depths (lf d : Nat) : Ex → Fr → M Value := contAt Tryd.prog (evCall2 Tryd.prog gt lf d) (gt 57) lf (bodyOf Tryd.prog 57) [true, true, true, false, true, false] (endK Tryd.prog (resOf Tryd.prog 57))
noncomputable def lpB_balerref09_Depths (lf d fu : Nat) (k : Ex → Fr → M Value) (x0 x2 x3 x4 x7 x8 x18 x19 x20 x21 : Value) : M Value := loopK (fun s1 k1 => codeK Tryd.prog (evCall2 Tryd.prog gt lf d) (gt 57) lf (codeAt (bodyOf Tryd.prog 57) [true, true, true, true, true, true, false, false, false]) s1 k1) [0, 2, 3, 4, 7, 8, 18, 19, 20, 21] fu [(0, x0), (2, x2), (3, x3), (4, x4), (7, x7), (8, x8), (18, x18), (19, x19), (20, x20), (21, x21)] k
noncomputable def kcB_balerref09_Depths (lf d : Nat) : Ex → Fr → M Value := contAt Tryd.prog (evCall2 Tryd.prog gt lf d) (gt 57) lf (bodyOf Tryd.prog 57) [true, true, true, true, true, true, false, false] (endK Tryd.prog (resOf Tryd.prog 57))
noncomputable def lpC_balerref09_Depths (lf d fu : Nat) (k : Ex → Fr → M Value) (x0 x2 x3 x4 x7 x8 x9 x10 x11 x12 x13 x18 x19 x20 x21 x39 x66 x67 x68 : Value) : M Value := loopK (fun s1 k1 => codeK Tryd.prog (evCall2 Tryd.prog gt lf d) (gt 57) lf (codeAt (bodyOf Tryd.prog 57) [true, true, true, true, true, true, false, false, false, true, false, true, true, true, true, true, true, true, true, true, false, true, false, false]) s1 k1) [0, 2, 3, 4, 7, 8, 9, 10, 11, 12, 13, 18, 19, 20, 21, 39, 66, 67, 68] fu [(0, x0), (2, x2), (3, x3), (4, x4), (7, x7), (8, x8), (9, x9), (10, x10), (11, x11), (12, x12), (13, x13), (18, x18), (19, x19), (20, x20), (21, x21), (39, x39), (66, x66), (67, x67), (68, x68)] k
noncomputable def kcC_balerref09_Depths (lf d fu : Nat) (k : Ex → Fr → M Value) : Ex → Fr → M Value := contAt Tryd.prog (evCall2 Tryd.prog gt lf d) (gt 57) lf (codeAt (bodyOf Tryd.prog 57) [true, true, true, true, true, true, false, false, false]) [true, false, true, true, true, true, true, true, true, true, true, false, true, false] (againK (fun s1 => loopK (fun s1 k1 => codeK Tryd.prog (evCall2 Tryd.prog gt lf d) (gt 57) lf (codeAt (bodyOf Tryd.prog 57) [true, true, true, true, true, true, false, false, false]) s1 k1) [0, 2, 3, 4, 7, 8, 18, 19, 20, 21] fu (s1.keep [0, 2, 3, 4, 7, 8, 18, 19, 20, 21]) k) k)
noncomputable def b_balerref09_Depths (lf d : Nat) (a0 : Value) : M Value :=
 optK (len2 Tryd.prog #[22] [a0]) fun v17n1 =>
 optK (len2 Tryd.prog #[22] [a0]) fun v19n2 =>
 lpA_balerref09_Depths lf d lf (kcA_balerref09_Depths lf d) a0 (Value.slice none 0 0) v17n1 (Value.slice none 0 0) a0 v19n2 (Value.int .i64 0)
theorem sh_balerref09_Depths (lf d : Nat) (a0 : Value) : evCall2 Tryd.prog gt lf (d + 1) 57 #[a0] = inside (b_balerref09_Depths lf d a0) := by kernel_rfl
theorem succA_balerref09_Depths (lf d fu : Nat) (k : Ex → Fr → M Value) (x0 x2 x3 x4 x18 x19 x20 : Value) : lpA_balerref09_Depths lf d (fu + 1) k x0 x2 x3 x4 x18 x19 x20 =
 optK (bin2 Tryd.prog .lss 3 x20 x19) fun v21n3 =>
 ifV v21n3 (
  optK (evIndexAddr Tryd.prog 22 x18 x20) fun v23n4 =>
  (inside (evLoad Tryd.prog 3 v23n4)).bind fun v24n5 =>
  (inside (evBuildSlice Tryd.prog 22 1 [(0, x20)])).bind fun v29n6 =>
  (inside (evBuild Tryd.prog 75 [(0, v24n5), (1, x20), (2, v29n6)])).bind fun v30n7 =>
  (inside (evBuildSlice Tryd.prog 73 1 [(0, v30n7)])).bind fun v31n8 =>
  (inside (evAppend Tryd.prog 73 x4 v31n8)).bind fun v32n9 =>
  optK (bin2 Tryd.prog .add 3 x20 (Value.int .i64 1)) fun v33n10 =>
  lpA_balerref09_Depths lf d fu k x0 x2 x3 v32n9 x18 x19 v33n10) (
  k (Ex.exit 0) [(0, x0), (2, x2), (3, x3), (4, x4), (18, x18), (19, x19), (20, x20), (21, v21n3)]) := by kernel_rfl
theorem kcAa_balerref09_Depths (lf d : Nat) (y0 y2 y3 y4 y18 y19 y20 y21 : Value) : kcA_balerref09_Depths lf d (Ex.exit 0) [(0, y0), (2, y2), (3, y3), (4, y4), (18, y18), (19, y19), (20, y20), (21, y21)] =
 (inside (evMakeSlice Tryd.prog 22 y3 y3)).bind fun v35n11 =>
 lpB_balerref09_Depths lf d lf (kcB_balerref09_Depths lf d) y0 y2 y3 y4 v35n11 y3 y18 y19 y20 y21 := by kernel_rfl
theorem succB_balerref09_Depths (lf d fu : Nat) (k : Ex → Fr → M Value) (x0 x2 x3 x4 x7 x8 x18 x19 x20 x21 : Value) : lpB_balerref09_Depths lf d (fu + 1) k x0 x2 x3 x4 x7 x8 x18 x19 x20 x21 =
 optK (len2 Tryd.prog #[73] [x4]) fun v38n12 =>
 optK (bin2 Tryd.prog .gtr 3 v38n12 (Value.int .i64 1)) fun v39n13 =>
 ifV v39n13 (
  (inside (evCall2 Tryd.prog gt lf d 66 #[x4])).bind fun v41n14 =>
  optK (evIndexAddr Tryd.prog 73 x4 v41n14) fun v44n15 =>
  (inside (evLoad Tryd.prog 75 v44n15)).bind fun v45n16 =>
  (inside (evAlloc Tryd.prog 75)).bind fun v10n17 =>
  (inside (evStore Tryd.prog 75 v10n17 v45n16)).bind fun u18 =>
  (inside (evCall2 Tryd.prog gt lf d 67 #[x4, v41n14])).bind fun v48n19 =>
  (inside (evCall2 Tryd.prog gt lf d 66 #[v48n19])).bind fun v50n20 =>
  optK (evIndexAddr Tryd.prog 73 v48n19 v50n20) fun v53n21 =>
  (inside (evLoad Tryd.prog 75 v53n21)).bind fun v54n22 =>
  (inside (evAlloc Tryd.prog 75)).bind fun v12n23 =>
  (inside (evStore Tryd.prog 75 v12n23 v54n22)).bind fun u24 =>
  (inside (evCall2 Tryd.prog gt lf d 67 #[v48n19, v50n20])).bind fun v57n25 =>
  optK (evFieldAddr Tryd.prog 75 v10n17 2) fun v59n26 =>
  (inside (evLoad Tryd.prog 22 v59n26)).bind fun v60n27 =>
  (inside (evAppend Tryd.prog 22 (Value.slice none 0 0) v60n27)).bind fun v61n28 =>
  optK (evFieldAddr Tryd.prog 75 v12n23 2) fun v63n29 =>
  (inside (evLoad Tryd.prog 22 v63n29)).bind fun v64n30 =>
  (inside (evAppend Tryd.prog 22 v61n28 v64n30)).bind fun v65n31 =>
  optK (len2 Tryd.prog #[22] [v65n31]) fun v67n32 =>
  lpC_balerref09_Depths lf d lf (kcC_balerref09_Depths lf d fu k) x0 x2 x3 v57n25 x7 x8 v41n14 v10n17 v50n20 v12n23 v65n31 x18 x19 x20 x21 v39n13 v65n31 v67n32 (Value.int .i64 0)) (
  k (Ex.exit 2) [(0, x0), (2, x2), (3, x3), (4, x4), (7, x7), (8, x8), (18, x18), (19, x19), (20, x20), (21, x21), (39, v39n13)]) := by kernel_rfl
theorem kcBa_balerref09_Depths (lf d : Nat) (y0 y2 y3 y4 y7 y8 y18 y19 y20 y21 y39 : Value) : kcB_balerref09_Depths lf d (Ex.exit 2) [(0, y0), (2, y2), (3, y3), (4, y4), (7, y7), (8, y8), (18, y18), (19, y19), (20, y20), (21, y21), (39, y39)] =
 outK [y7] := by kernel_rfl
theorem succC_balerref09_Depths (lf d fu : Nat) (k : Ex → Fr → M Value) (x0 x2 x3 x4 x7 x8 x9 x10 x11 x12 x13 x18 x19 x20 x21 x39 x66 x67 x68 : Value) : lpC_balerref09_Depths lf d (fu + 1) k x0 x2 x3 x4 x7 x8 x9 x10 x11 x12 x13 x18 x19 x20 x21 x39 x66 x67 x68 =
 optK (bin2 Tryd.prog .lss 3 x68 x67) fun v69n33 =>
 ifV v69n33 (
  optK (evIndexAddr Tryd.prog 22 x66 x68) fun v70n34 =>
  (inside (evLoad Tryd.prog 3 v70n34)).bind fun v71n35 =>
  optK (evIndexAddr Tryd.prog 22 x7 v71n35) fun v74n36 =>
  (inside (evLoad Tryd.prog 3 v74n36)).bind fun v75n37 =>
  optK (bin2 Tryd.prog .add 3 v75n37 (Value.int .i64 1)) fun v76n38 =>
  optK (evIndexAddr Tryd.prog 22 x7 v71n35) fun v77n39 =>
  (inside (evStore Tryd.prog 3 v77n39 v76n38)).bind fun u40 =>
  optK (bin2 Tryd.prog .add 3 x68 (Value.int .i64 1)) fun v78n41 =>
  lpC_balerref09_Depths lf d fu k x0 x2 x3 x4 x7 x8 x9 x10 x11 x12 x13 x18 x19 x20 x21 x39 x66 x67 v78n41) (
  k (Ex.exit 4) [(0, x0), (2, x2), (3, x3), (4, x4), (7, x7), (8, x8), (9, x9), (10, x10), (11, x11), (12, x12), (13, x13), (18, x18), (19, x19), (20, x20), (21, x21), (39, x39), (66, x66), (67, x67), (68, x68), (69, v69n33)]) := by kernel_rfl
theorem kcCa_balerref09_Depths (lf d fu : Nat) (k : Ex → Fr → M Value) (y0 y2 y3 y4 y7 y8 y9 y10 y11 y12 y13 y18 y19 y20 y21 y39 y66 y67 y68 y69 : Value) : kcC_balerref09_Depths lf d fu k (Ex.exit 4) [(0, y0), (2, y2), (3, y3), (4, y4), (7, y7), (8, y8), (9, y9), (10, y10), (11, y11), (12, y12), (13, y13), (18, y18), (19, y19), (20, y20), (21, y21), (39, y39), (66, y66), (67, y67), (68, y68), (69, y69)] =
 optK (evFieldAddr Tryd.prog 75 y10 0) fun v80n42 =>
 (inside (evLoad Tryd.prog 3 v80n42)).bind fun v81n43 =>
 optK (evFieldAddr Tryd.prog 75 y12 0) fun v82n44 =>
 (inside (evLoad Tryd.prog 3 v82n44)).bind fun v83n45 =>
 optK (bin2 Tryd.prog .add 3 v81n43 v83n45) fun v84n46 =>
 (inside (evBuild Tryd.prog 75 [(0, v84n46), (1, y8), (2, y13)])).bind fun v87n47 =>
 (inside (evBuildSlice Tryd.prog 73 1 [(0, v87n47)])).bind fun v88n48 =>
 (inside (evAppend Tryd.prog 73 y4 v88n48)).bind fun v89n49 =>
 optK (bin2 Tryd.prog .add 3 y8 (Value.int .i64 1)) fun v91n50 =>
 lpB_balerref09_Depths lf d fu k y0 y2 y3 v89n49 y7 v91n50 y18 y19 y20 y21 := by kernel_rfl

noncomputable def lpA_balerref09_Halved (lf d fu : Nat) (k : Ex → Fr → M Value) (x0 x2 x3 x6 x7 x8 : Value) : M Value := loopK (fun s1 k1 => codeK Tryd.prog (evCall2 Tryd.prog gt lf d) (gt 58) lf (codeAt (bodyOf Tryd.prog 58) [true, true, false, true, false, false]) s1 k1) [0, 2, 3, 6, 7, 8] fu [(0, x0), (2, x2), (3, x3), (6, x6), (7, x7), (8, x8)] k
noncomputable def kcA_balerref09_Halved (lf d : Nat) : Ex → Fr → M Value := contAt Tryd.prog (evCall2 Tryd.prog gt lf d) (gt 58) lf (bodyOf Tryd.prog 58) [true, true, false, true, false] (endK Tryd.prog (resOf Tryd.prog 58))
noncomputable def b_balerref09_Halved (lf d : Nat) (a0 : Value) : M Value :=
 optK (len2 Tryd.prog #[22] [a0]) fun v7n1 =>
 lpA_balerref09_Halved lf d lf (kcA_balerref09_Halved lf d) a0 (Value.slice none 0 0) (Value.slice none 0 0) a0 v7n1 (Value.int .i64 0)
theorem sh_balerref09_Halved (lf d : Nat) (a0 : Value) : evCall2 Tryd.prog gt lf (d + 1) 58 #[a0] = inside (b_balerref09_Halved lf d a0) := by kernel_rfl
theorem succA_balerref09_Halved (lf d fu : Nat) (k : Ex → Fr → M Value) (x0 x2 x3 x6 x7 x8 : Value) : lpA_balerref09_Halved lf d (fu + 1) k x0 x2 x3 x6 x7 x8 =
 optK (bin2 Tryd.prog .lss 3 x8 x7) fun v9n2 =>
 ifV v9n2 (
  optK (evIndexAddr Tryd.prog 22 x6 x8) fun v10n3 =>
  (inside (evLoad Tryd.prog 3 v10n3)).bind fun v11n4 =>
  optK (bin2 Tryd.prog .lss 3 v11n4 (Value.int .i64 0)) fun v13n5 =>
  ifV v13n5 (
   optK (bin2 Tryd.prog .quo 3 (Value.int .i64 0) (Value.int .i64 2)) fun v16n6 =>
   optK (bin2 Tryd.prog .add 3 v16n6 (Value.int .i64 1)) fun v17n7 =>
   (inside (evBuildSlice Tryd.prog 22 1 [(0, v17n7)])).bind fun v18n8 =>
   (inside (evAppend Tryd.prog 22 x3 v18n8)).bind fun v19n9 =>
   optK (bin2 Tryd.prog .add 3 x8 (Value.int .i64 1)) fun v20n10 =>
   lpA_balerref09_Halved lf d fu k x0 x2 v19n9 x6 x7 v20n10) (
   optK (bin2 Tryd.prog .quo 3 v11n4 (Value.int .i64 2)) fun v16n11 =>
   optK (bin2 Tryd.prog .add 3 v16n11 (Value.int .i64 1)) fun v17n12 =>
   (inside (evBuildSlice Tryd.prog 22 1 [(0, v17n12)])).bind fun v18n13 =>
   (inside (evAppend Tryd.prog 22 x3 v18n13)).bind fun v19n14 =>
   optK (bin2 Tryd.prog .add 3 x8 (Value.int .i64 1)) fun v20n15 =>
   lpA_balerref09_Halved lf d fu k x0 x2 v19n14 x6 x7 v20n15)) (
  k (Ex.exit 0) [(0, x0), (2, x2), (3, x3), (6, x6), (7, x7), (8, x8), (9, v9n2)]) := by kernel_rfl
theorem kcAa_balerref09_Halved (lf d : Nat) (y0 y2 y3 y6 y7 y8 y9 : Value) : kcA_balerref09_Halved lf d (Ex.exit 0) [(0, y0), (2, y2), (3, y3), (6, y6), (7, y7), (8, y8), (9, y9)] =
 outK [y3] := by kernel_rfl

noncomputable def b_slices_ContainsFunc_int_int (lf d : Nat) (a0 a1 : Value) : M Value :=
 (inside (evCall2 Tryd.prog gt lf d 68 #[a0, a1])).bind fun v7n1 =>
 optK (bin2 Tryd.prog .geq 3 v7n1 (Value.int .i64 0)) fun v8n2 =>
 outK [v8n2]
theorem sh_slices_ContainsFunc_int_int (lf d : Nat) (a0 a1 : Value) : evCall2 Tryd.prog gt lf (d + 1) 59 #[a0, a1] = inside (b_slices_ContainsFunc_int_int lf d a0 a1) := by kernel_rfl

noncomputable def b_freq_all_1 (lf d : Nat) (a0 : Value) : M Value :=
 (inside (evCall2 Tryd.prog gt lf d 61 #[a0])).bind fun v4n1 =>
 optK (un2 Tryd.prog .not v4n1) fun v5n2 =>
 outK [v5n2]
theorem sh_freq_all_1 (lf d : Nat) (a0 : Value) : evCall2 Tryd.prog gt lf (d + 1) 60 #[a0] = inside (b_freq_all_1 lf d a0) := by kernel_rfl

noncomputable def b_freq_may (lf d : Nat) (a0 : Value) : M Value :=
 optK (bin2 Tryd.prog .geq 3 a0 (Value.int .i64 0)) fun v4n1 =>
 ifV v4n1 (
  optK (bin2 Tryd.prog .leq 3 a0 (Value.int .i64 1099511627776)) fun v7n2 =>
  outK [v7n2]) (
  outK [(Value.bool false)])
theorem sh_freq_may (lf d : Nat) (a0 : Value) : evCall2 Tryd.prog gt lf (d + 1) 61 #[a0] = inside (b_freq_may lf d a0) := by kernel_rfl

noncomputable def b_lens_between_1 (lf d : Nat) (a0 a1 a2 : Value) : M Value :=
 (inside (evLoad Tryd.prog 3 a1)).bind fun v6n1 =>
 optK (bin2 Tryd.prog .lss 3 a0 v6n1) fun v7n2 =>
 ifV v7n2 (
  outK [(Value.bool true)]) (
  (inside (evLoad Tryd.prog 3 a2)).bind fun v10n3 =>
  optK (bin2 Tryd.prog .gtr 3 a0 v10n3) fun v11n4 =>
  outK [v11n4])
theorem sh_lens_between_1 (lf d : Nat) (a0 a1 a2 : Value) : evCall2 Tryd.prog gt lf (d + 1) 62 #[a0, a1, a2] = inside (b_lens_between_1 lf d a0 a1 a2) := by kernel_rfl

noncomputable def lpA_lens_treesOf (lf d fu : Nat) (k : Ex → Fr → M Value) (x0 x1 x2 x3 x12 x13 : Value) : M Value := loopK (fun s1 k1 => codeK Tryd.prog (evCall2 Tryd.prog gt lf d) (gt 63) lf (codeAt (bodyOf Tryd.prog 63) [true, true, false, true, false, false]) s1 k1) [0, 1, 2, 3, 12, 13] fu [(0, x0), (1, x1), (2, x2), (3, x3), (12, x12), (13, x13)] k
noncomputable def kcA_lens_treesOf (lf d : Nat) : Ex → Fr → M Value := contAt Tryd.prog (evCall2 Tryd.prog gt lf d) (gt 63) lf (bodyOf Tryd.prog 63) [true, true, false, true, false] (endK Tryd.prog (resOf Tryd.prog 63))
noncomputable def b_lens_treesOf (lf d : Nat) (a0 : Value) : M Value :=
 (inside (evBox Tryd.prog 22 a0)).bind fun v1n1 =>
 (timed (
  (inside (evLoad Tryd.prog 22 v1n1)).bind fun v5n3 => M.ret v5n3)).bind fun vtn2 =>
 (timed (
  (inside (evCall2 Tryd.prog gt lf d 55 #[vtn2.1])).bind fun v6n5 => M.ret v6n5)).bind fun vtn4 =>
 (timed (
  (inside (evLoad Tryd.prog 22 v1n1)).bind fun v7n7 => M.ret v7n7)).bind fun vtn6 =>
 optK (len2 Tryd.prog #[22] [vtn6.1]) fun v8n8 =>
 (inside (evBuild Tryd.prog 72 [(0, vtn4.1), (3, v8n8)])).bind fun v9n9 =>
 (timed (
  (inside (evBox Tryd.prog 72 v9n9)).bind fun v10n11 => M.ret v10n11)).bind fun vtn10 =>
 chkT ((!(Tk.clash vtn4.2 vtn6.2) && true) && true) (
  (inside (evLoad Tryd.prog 22 v1n1)).bind fun v11n12 =>
  optK (len2 Tryd.prog #[22] [v11n12]) fun v12n13 =>
  lpA_lens_treesOf lf d lf (kcA_lens_treesOf lf d) a0 v1n1 (Value.pointer none) vtn10.1 v12n13 (Value.int .i64 0))
theorem sh_lens_treesOf (lf d : Nat) (a0 : Value) : evCall2 Tryd.prog gt lf (d + 1) 63 #[a0] = inside (b_lens_treesOf lf d a0) := by kernel_rfl
theorem succA_lens_treesOf (lf d fu : Nat) (k : Ex → Fr → M Value) (x0 x1 x2 x3 x12 x13 : Value) : lpA_lens_treesOf lf d (fu + 1) k x0 x1 x2 x3 x12 x13 =
 optK (bin2 Tryd.prog .lss 3 x13 x12) fun v14n14 =>
 ifV v14n14 (
  optK (nil2 x3) fun v18n15 =>
  optK (evFieldAddr Tryd.prog 72 v18n15 2) fun v19n16 =>
  (inside (evLoad Tryd.prog 22 v19n16)).bind fun v20n17 =>
  (inside (evBuildSlice Tryd.prog 22 1 [(0, x13)])).bind fun v22n18 =>
  (inside (evAppend Tryd.prog 22 v20n17 v22n18)).bind fun v23n19 =>
  optK (nil2 x3) fun v24n20 =>
  optK (evFieldAddr Tryd.prog 72 v24n20 2) fun v25n21 =>
  (inside (evStore Tryd.prog 22 v25n21 v23n19)).bind fun u22 =>
  optK (nil2 x3) fun v28n23 =>
  optK (evFieldAddr Tryd.prog 72 v28n23 1) fun v29n24 =>
  (inside (evLoad Tryd.prog 22 v29n24)).bind fun v30n25 =>
  (inside (evBuildSlice Tryd.prog 22 1 [(0, (Value.int .i64 (-1)))])).bind fun v31n26 =>
  (inside (evAppend Tryd.prog 22 v30n25 v31n26)).bind fun v32n27 =>
  optK (nil2 x3) fun v33n28 =>
  optK (evFieldAddr Tryd.prog 72 v33n28 1) fun v34n29 =>
  (inside (evStore Tryd.prog 22 v34n29 v32n27)).bind fun u30 =>
  optK (bin2 Tryd.prog .add 3 x13 (Value.int .i64 1)) fun v35n31 =>
  lpA_lens_treesOf lf d fu k x0 x1 x2 x3 x12 v35n31) (
  k (Ex.exit 0) [(0, x0), (1, x1), (2, x2), (3, x3), (12, x12), (13, x13), (14, v14n14)]) := by kernel_rfl
theorem kcAa_lens_treesOf (lf d : Nat) (y0 y1 y2 y3 y12 y13 y14 : Value) : kcA_lens_treesOf lf d (Ex.exit 0) [(0, y0), (1, y1), (2, y2), (3, y3), (12, y12), (13, y13), (14, y14)] =
 optK (nil2 y3) fun v37n32 =>
 optK (evFieldAddr Tryd.prog 72 v37n32 2) fun v38n33 =>
 (inside (evLoad Tryd.prog 22 v38n33)).bind fun v39n34 =>
 (inside (evCall2 Tryd.prog gt lf d 69 #[v39n34, (Value.func (Go.Fn.func 70) #[] #[y1])])).bind fun v41n35 =>
 outK [y3] := by kernel_rfl

noncomputable def b_lens_trees_least (lf d : Nat) (a0 : Value) : M Value :=
 optK (nil2 a0) fun v5n1 =>
 optK (evFieldAddr Tryd.prog 72 v5n1 3) fun v6n2 =>
 (inside (evLoad Tryd.prog 3 v6n2)).bind fun v7n3 =>
 optK (nil2 a0) fun v9n4 =>
 optK (evFieldAddr Tryd.prog 72 v9n4 0) fun v10n5 =>
 (inside (evLoad Tryd.prog 22 v10n5)).bind fun v11n6 =>
 optK (len2 Tryd.prog #[22] [v11n6]) fun v12n7 =>
 optK (bin2 Tryd.prog .eql 3 v7n3 v12n7) fun v13n8 =>
 ifV v13n8 (
  optK (nil2 a0) fun v48n9 =>
  optK (evFieldAddr Tryd.prog 72 v48n9 2) fun v49n10 =>
  (inside (evLoad Tryd.prog 22 v49n10)).bind fun v50n11 =>
  optK (evIndexAddr Tryd.prog 22 v50n11 (Value.int .i64 0)) fun v51n12 =>
  (inside (evLoad Tryd.prog 3 v51n12)).bind fun v52n13 =>
  optK (nil2 a0) fun v55n14 =>
  optK (evFieldAddr Tryd.prog 72 v55n14 2) fun v56n15 =>
  (inside (evLoad Tryd.prog 22 v56n15)).bind fun v57n16 =>
  slice2 Tryd.prog 22 v57n16 (some (Value.int .i64 1)) none none fun v58n17 =>
  optK (nil2 a0) fun v59n18 =>
  optK (evFieldAddr Tryd.prog 72 v59n18 2) fun v60n19 =>
  (inside (evStore Tryd.prog 22 v60n19 v58n17)).bind fun u20 =>
  outK [v52n13]) (
  optK (nil2 a0) fun v16n21 =>
  optK (evFieldAddr Tryd.prog 72 v16n21 2) fun v17n22 =>
  (inside (evLoad Tryd.prog 22 v17n22)).bind fun v18n23 =>
  optK (len2 Tryd.prog #[22] [v18n23]) fun v19n24 =>
  optK (bin2 Tryd.prog .gtr 3 v19n24 (Value.int .i64 0)) fun v20n25 =>
  ifV v20n25 (
   optK (nil2 a0) fun v23n26 =>
   optK (evFieldAddr Tryd.prog 72 v23n26 0) fun v24n27 =>
   (inside (evLoad Tryd.prog 22 v24n27)).bind fun v25n28 =>
   optK (nil2 a0) fun v27n29 =>
   optK (evFieldAddr Tryd.prog 72 v27n29 2) fun v28n30 =>
   (inside (evLoad Tryd.prog 22 v28n30)).bind fun v29n31 =>
   optK (evIndexAddr Tryd.prog 22 v29n31 (Value.int .i64 0)) fun v30n32 =>
   (inside (evLoad Tryd.prog 3 v30n32)).bind fun v31n33 =>
   optK (evIndexAddr Tryd.prog 22 v25n28 v31n33) fun v32n34 =>
   (inside (evLoad Tryd.prog 3 v32n34)).bind fun v33n35 =>
   optK (nil2 a0) fun v35n36 =>
   optK (evFieldAddr Tryd.prog 72 v35n36 0) fun v36n37 =>
   (inside (evLoad Tryd.prog 22 v36n37)).bind fun v37n38 =>
   optK (nil2 a0) fun v39n39 =>
   optK (evFieldAddr Tryd.prog 72 v39n39 3) fun v40n40 =>
   (inside (evLoad Tryd.prog 3 v40n40)).bind fun v41n41 =>
   optK (evIndexAddr Tryd.prog 22 v37n38 v41n41) fun v42n42 =>
   (inside (evLoad Tryd.prog 3 v42n42)).bind fun v43n43 =>
   optK (bin2 Tryd.prog .leq 3 v33n35 v43n43) fun v44n44 =>
   ifV v44n44 (
    optK (nil2 a0) fun v48n45 =>
    optK (evFieldAddr Tryd.prog 72 v48n45 2) fun v49n46 =>
    (inside (evLoad Tryd.prog 22 v49n46)).bind fun v50n47 =>
    optK (evIndexAddr Tryd.prog 22 v50n47 (Value.int .i64 0)) fun v51n48 =>
    (inside (evLoad Tryd.prog 3 v51n48)).bind fun v52n49 =>
    optK (nil2 a0) fun v55n50 =>
    optK (evFieldAddr Tryd.prog 72 v55n50 2) fun v56n51 =>
    (inside (evLoad Tryd.prog 22 v56n51)).bind fun v57n52 =>
    slice2 Tryd.prog 22 v57n52 (some (Value.int .i64 1)) none none fun v58n53 =>
    optK (nil2 a0) fun v59n54 =>
    optK (evFieldAddr Tryd.prog 72 v59n54 2) fun v60n55 =>
    (inside (evStore Tryd.prog 22 v60n55 v58n53)).bind fun u56 =>
    outK [v52n49]) (
    optK (nil2 a0) fun v63n57 =>
    optK (evFieldAddr Tryd.prog 72 v63n57 3) fun v64n58 =>
    (inside (evLoad Tryd.prog 3 v64n58)).bind fun v65n59 =>
    optK (bin2 Tryd.prog .add 3 v65n59 (Value.int .i64 1)) fun v66n60 =>
    optK (nil2 a0) fun v67n61 =>
    optK (evFieldAddr Tryd.prog 72 v67n61 3) fun v68n62 =>
    (inside (evStore Tryd.prog 3 v68n62 v66n60)).bind fun u63 =>
    optK (nil2 a0) fun v70n64 =>
    optK (evFieldAddr Tryd.prog 72 v70n64 3) fun v71n65 =>
    (inside (evLoad Tryd.prog 3 v71n65)).bind fun v72n66 =>
    optK (bin2 Tryd.prog .sub 3 v72n66 (Value.int .i64 1)) fun v73n67 =>
    outK [v73n67])) (
   optK (nil2 a0) fun v63n68 =>
   optK (evFieldAddr Tryd.prog 72 v63n68 3) fun v64n69 =>
   (inside (evLoad Tryd.prog 3 v64n69)).bind fun v65n70 =>
   optK (bin2 Tryd.prog .add 3 v65n70 (Value.int .i64 1)) fun v66n71 =>
   optK (nil2 a0) fun v67n72 =>
   optK (evFieldAddr Tryd.prog 72 v67n72 3) fun v68n73 =>
   (inside (evStore Tryd.prog 3 v68n73 v66n71)).bind fun u74 =>
   optK (nil2 a0) fun v70n75 =>
   optK (evFieldAddr Tryd.prog 72 v70n75 3) fun v71n76 =>
   (inside (evLoad Tryd.prog 3 v71n76)).bind fun v72n77 =>
   optK (bin2 Tryd.prog .sub 3 v72n77 (Value.int .i64 1)) fun v73n78 =>
   outK [v73n78]))
theorem sh_lens_trees_least (lf d : Nat) (a0 : Value) : evCall2 Tryd.prog gt lf (d + 1) 64 #[a0] = inside (b_lens_trees_least lf d a0) := by kernel_rfl

noncomputable def b_lens_trees_join (lf d : Nat) (a0 a1 a2 : Value) : M Value :=
 optK (nil2 a0) fun v7n1 =>
 optK (evFieldAddr Tryd.prog 72 v7n1 1) fun v8n2 =>
 (inside (evLoad Tryd.prog 22 v8n2)).bind fun v9n3 =>
 optK (nil2 a0) fun v12n4 =>
 optK (evFieldAddr Tryd.prog 72 v12n4 0) fun v13n5 =>
 (inside (evLoad Tryd.prog 22 v13n5)).bind fun v14n6 =>
 optK (len2 Tryd.prog #[22] [v14n6]) fun v15n7 =>
 optK (evIndexAddr Tryd.prog 22 v9n3 a1) fun v16n8 =>
 (inside (evStore Tryd.prog 3 v16n8 v15n7)).bind fun u9 =>
 optK (nil2 a0) fun v18n10 =>
 optK (evFieldAddr Tryd.prog 72 v18n10 1) fun v19n11 =>
 (inside (evLoad Tryd.prog 22 v19n11)).bind fun v20n12 =>
 optK (nil2 a0) fun v23n13 =>
 optK (evFieldAddr Tryd.prog 72 v23n13 0) fun v24n14 =>
 (inside (evLoad Tryd.prog 22 v24n14)).bind fun v25n15 =>
 optK (len2 Tryd.prog #[22] [v25n15]) fun v26n16 =>
 optK (evIndexAddr Tryd.prog 22 v20n12 a2) fun v27n17 =>
 (inside (evStore Tryd.prog 3 v27n17 v26n16)).bind fun u18 =>
 optK (nil2 a0) fun v30n19 =>
 optK (evFieldAddr Tryd.prog 72 v30n19 0) fun v31n20 =>
 (inside (evLoad Tryd.prog 22 v31n20)).bind fun v32n21 =>
 optK (nil2 a0) fun v34n22 =>
 optK (evFieldAddr Tryd.prog 72 v34n22 0) fun v35n23 =>
 (inside (evLoad Tryd.prog 22 v35n23)).bind fun v36n24 =>
 optK (evIndexAddr Tryd.prog 22 v36n24 a1) fun v38n25 =>
 (inside (evLoad Tryd.prog 3 v38n25)).bind fun v39n26 =>
 optK (nil2 a0) fun v41n27 =>
 optK (evFieldAddr Tryd.prog 72 v41n27 0) fun v42n28 =>
 (inside (evLoad Tryd.prog 22 v42n28)).bind fun v43n29 =>
 optK (evIndexAddr Tryd.prog 22 v43n29 a2) fun v45n30 =>
 (inside (evLoad Tryd.prog 3 v45n30)).bind fun v46n31 =>
 optK (bin2 Tryd.prog .add 3 v39n26 v46n31) fun v47n32 =>
 (inside (evBuildSlice Tryd.prog 22 1 [(0, v47n32)])).bind fun v48n33 =>
 (inside (evAppend Tryd.prog 22 v32n21 v48n33)).bind fun v49n34 =>
 optK (nil2 a0) fun v50n35 =>
 optK (evFieldAddr Tryd.prog 72 v50n35 0) fun v51n36 =>
 (inside (evStore Tryd.prog 22 v51n36 v49n34)).bind fun u37 =>
 optK (nil2 a0) fun v54n38 =>
 optK (evFieldAddr Tryd.prog 72 v54n38 1) fun v55n39 =>
 (inside (evLoad Tryd.prog 22 v55n39)).bind fun v56n40 =>
 (inside (evBuildSlice Tryd.prog 22 1 [(0, (Value.int .i64 (-1)))])).bind fun v57n41 =>
 (inside (evAppend Tryd.prog 22 v56n40 v57n41)).bind fun v58n42 =>
 optK (nil2 a0) fun v59n43 =>
 optK (evFieldAddr Tryd.prog 72 v59n43 1) fun v60n44 =>
 (inside (evStore Tryd.prog 22 v60n44 v58n42)).bind fun u45 =>
 outK []
theorem sh_lens_trees_join (lf d : Nat) (a0 a1 a2 : Value) : evCall2 Tryd.prog gt lf (d + 1) 65 #[a0, a1, a2] = inside (b_lens_trees_join lf d a0 a1 a2) := by kernel_rfl

noncomputable def lpA_balerref09_least (lf d fu : Nat) (k : Ex → Fr → M Value) (x0 x2 x3 x6 x7 x8 : Value) : M Value := loopK (fun s1 k1 => codeK Tryd.prog (evCall2 Tryd.prog gt lf d) (gt 66) lf (codeAt (bodyOf Tryd.prog 66) [true, true, false, true, false, false]) s1 k1) [0, 2, 3, 6, 7, 8] fu [(0, x0), (2, x2), (3, x3), (6, x6), (7, x7), (8, x8)] k
noncomputable def kcA_balerref09_least (lf d : Nat) : Ex → Fr → M Value := contAt Tryd.prog (evCall2 Tryd.prog gt lf d) (gt 66) lf (bodyOf Tryd.prog 66) [true, true, false, true, false] (endK Tryd.prog (resOf Tryd.prog 66))
noncomputable def b_balerref09_least (lf d : Nat) (a0 : Value) : M Value :=
 optK (len2 Tryd.prog #[73] [a0]) fun v7n1 =>
 lpA_balerref09_least lf d lf (kcA_balerref09_least lf d) a0 (Value.int .i64 0) (Value.int .i64 0) a0 v7n1 (Value.int .i64 0)
theorem sh_balerref09_least (lf d : Nat) (a0 : Value) : evCall2 Tryd.prog gt lf (d + 1) 66 #[a0] = inside (b_balerref09_least lf d a0) := by kernel_rfl
theorem succA_balerref09_least (lf d fu : Nat) (k : Ex → Fr → M Value) (x0 x2 x3 x6 x7 x8 : Value) : lpA_balerref09_least lf d (fu + 1) k x0 x2 x3 x6 x7 x8 =
 optK (bin2 Tryd.prog .lss 3 x8 x7) fun v9n2 =>
 ifV v9n2 (
  optK (evIndexAddr Tryd.prog 73 x6 x8) fun v11n3 =>
  (inside (evLoad Tryd.prog 75 v11n3)).bind fun v12n4 =>
  (inside (evAlloc Tryd.prog 75)).bind fun v5n5 =>
  (inside (evStore Tryd.prog 75 v5n5 v12n4)).bind fun u6 =>
  (inside (evLoad Tryd.prog 75 v5n5)).bind fun v13n7 =>
  optK (evIndexAddr Tryd.prog 73 x0 x3) fun v16n8 =>
  (inside (evLoad Tryd.prog 75 v16n8)).bind fun v17n9 =>
  (inside (evCall2 Tryd.prog gt lf d 72 #[v13n7, v17n9])).bind fun v18n10 =>
  ifV v18n10 (
   optK (bin2 Tryd.prog .add 3 x8 (Value.int .i64 1)) fun v20n11 =>
   lpA_balerref09_least lf d fu k x0 x2 x8 x6 x7 v20n11) (
   optK (bin2 Tryd.prog .add 3 x8 (Value.int .i64 1)) fun v20n12 =>
   lpA_balerref09_least lf d fu k x0 x2 x3 x6 x7 v20n12)) (
  k (Ex.exit 0) [(0, x0), (2, x2), (3, x3), (6, x6), (7, x7), (8, x8), (9, v9n2)]) := by kernel_rfl
theorem kcAa_balerref09_least (lf d : Nat) (y0 y2 y3 y6 y7 y8 y9 : Value) : kcA_balerref09_least lf d (Ex.exit 0) [(0, y0), (2, y2), (3, y3), (6, y6), (7, y7), (8, y8), (9, y9)] =
 outK [y3] := by kernel_rfl

noncomputable def lpA_balerref09_without (lf d fu : Nat) (k : Ex → Fr → M Value) (x0 x1 x4 x5 x8 x9 x10 : Value) : M Value := loopK (fun s1 k1 => codeK Tryd.prog (evCall2 Tryd.prog gt lf d) (gt 67) lf (codeAt (bodyOf Tryd.prog 67) [true, true, false, true, false, false]) s1 k1) [0, 1, 4, 5, 8, 9, 10] fu [(0, x0), (1, x1), (4, x4), (5, x5), (8, x8), (9, x9), (10, x10)] k
noncomputable def kcA_balerref09_without (lf d : Nat) : Ex → Fr → M Value := contAt Tryd.prog (evCall2 Tryd.prog gt lf d) (gt 67) lf (bodyOf Tryd.prog 67) [true, true, false, true, false] (endK Tryd.prog (resOf Tryd.prog 67))
noncomputable def b_balerref09_without (lf d : Nat) (a0 a1 : Value) : M Value :=
 optK (len2 Tryd.prog #[73] [a0]) fun v9n1 =>
 lpA_balerref09_without lf d lf (kcA_balerref09_without lf d) a0 a1 (Value.slice none 0 0) (Value.slice none 0 0) a0 v9n1 (Value.int .i64 0)
theorem sh_balerref09_without (lf d : Nat) (a0 a1 : Value) : evCall2 Tryd.prog gt lf (d + 1) 67 #[a0, a1] = inside (b_balerref09_without lf d a0 a1) := by kernel_rfl
theorem succA_balerref09_without (lf d fu : Nat) (k : Ex → Fr → M Value) (x0 x1 x4 x5 x8 x9 x10 : Value) : lpA_balerref09_without lf d (fu + 1) k x0 x1 x4 x5 x8 x9 x10 =
 optK (bin2 Tryd.prog .lss 3 x10 x9) fun v11n2 =>
 ifV v11n2 (
  optK (evIndexAddr Tryd.prog 73 x8 x10) fun v13n3 =>
  (inside (evLoad Tryd.prog 75 v13n3)).bind fun v14n4 =>
  (inside (evAlloc Tryd.prog 75)).bind fun v7n5 =>
  (inside (evStore Tryd.prog 75 v7n5 v14n4)).bind fun u6 =>
  optK (bin2 Tryd.prog .neq 3 x10 x1) fun v17n7 =>
  ifV v17n7 (
   (inside (evLoad Tryd.prog 75 v7n5)).bind fun v19n8 =>
   (inside (evBuildSlice Tryd.prog 73 1 [(0, v19n8)])).bind fun v20n9 =>
   (inside (evAppend Tryd.prog 73 x5 v20n9)).bind fun v21n10 =>
   optK (bin2 Tryd.prog .add 3 x10 (Value.int .i64 1)) fun v22n11 =>
   lpA_balerref09_without lf d fu k x0 x1 x4 v21n10 x8 x9 v22n11) (
   optK (bin2 Tryd.prog .add 3 x10 (Value.int .i64 1)) fun v22n12 =>
   lpA_balerref09_without lf d fu k x0 x1 x4 x5 x8 x9 v22n12)) (
  k (Ex.exit 0) [(0, x0), (1, x1), (4, x4), (5, x5), (8, x8), (9, x9), (10, x10), (11, v11n2)]) := by kernel_rfl
theorem kcAa_balerref09_without (lf d : Nat) (y0 y1 y4 y5 y8 y9 y10 y11 : Value) : kcA_balerref09_without lf d (Ex.exit 0) [(0, y0), (1, y1), (4, y4), (5, y5), (8, y8), (9, y9), (10, y10), (11, y11)] =
 outK [y5] := by kernel_rfl

noncomputable def lpA_slices_IndexFunc_int_int (lf d fu : Nat) (k : Ex → Fr → M Value) (x0 x1 x4 x7 x8 : Value) : M Value := loopK (fun s1 k1 => codeK Tryd.prog (evCall2 Tryd.prog gt lf d) (gt 68) lf (codeAt (bodyOf Tryd.prog 68) [true, false, true, false, false]) s1 k1) [0, 1, 4, 7, 8] fu [(0, x0), (1, x1), (4, x4), (7, x7), (8, x8)] k
noncomputable def kcA_slices_IndexFunc_int_int (lf d : Nat) : Ex → Fr → M Value := contAt Tryd.prog (evCall2 Tryd.prog gt lf d) (gt 68) lf (bodyOf Tryd.prog 68) [true, false, true, false] (endK Tryd.prog (resOf Tryd.prog 68))
noncomputable def b_slices_IndexFunc_int_int (lf d : Nat) (a0 a1 : Value) : M Value :=
 optK (len2 Tryd.prog #[22] [a0]) fun v7n1 =>
 lpA_slices_IndexFunc_int_int lf d lf (kcA_slices_IndexFunc_int_int lf d) a0 a1 (Value.int .i64 0) v7n1 (Value.int .i64 0)
theorem sh_slices_IndexFunc_int_int (lf d : Nat) (a0 a1 : Value) : evCall2 Tryd.prog gt lf (d + 1) 68 #[a0, a1] = inside (b_slices_IndexFunc_int_int lf d a0 a1) := by kernel_rfl
theorem succA_slices_IndexFunc_int_int (lf d fu : Nat) (k : Ex → Fr → M Value) (x0 x1 x4 x7 x8 : Value) : lpA_slices_IndexFunc_int_int lf d (fu + 1) k x0 x1 x4 x7 x8 =
 optK (bin2 Tryd.prog .lss 3 x8 x7) fun v9n2 =>
 ifV v9n2 (
  optK (evIndexAddr Tryd.prog 22 x0 x8) fun v14n3 =>
  (inside (evLoad Tryd.prog 3 v14n3)).bind fun v15n4 =>
  callV Tryd.prog (evCall2 Tryd.prog gt lf d) x1 [v15n4] fun v16n5 =>
  ifV v16n5 (
   k Ex.ret [(0, x0), (1, x1), (4, x8), (5, x8), (7, x7), (8, x8), (9, v9n2), (16, v16n5)]) (
   optK (bin2 Tryd.prog .add 3 x8 (Value.int .i64 1)) fun v18n6 =>
   lpA_slices_IndexFunc_int_int lf d fu k x0 x1 x4 x7 v18n6)) (
  k (Ex.exit 0) [(0, x0), (1, x1), (4, x4), (7, x7), (8, x8), (9, v9n2)]) := by kernel_rfl
theorem kcAa_slices_IndexFunc_int_int (lf d : Nat) (y0 y1 y4 y5 y7 y8 y9 y16 : Value) : kcA_slices_IndexFunc_int_int lf d Ex.ret [(0, y0), (1, y1), (4, y4), (5, y5), (7, y7), (8, y8), (9, y9), (16, y16)] =
 outK [y4] := by kernel_rfl
theorem kcAb_slices_IndexFunc_int_int (lf d : Nat) (y0 y1 y4 y7 y8 y9 : Value) : kcA_slices_IndexFunc_int_int lf d (Ex.exit 0) [(0, y0), (1, y1), (4, y4), (7, y7), (8, y8), (9, y9)] =
 outK [(Value.int .i64 (-1))] := by kernel_rfl

noncomputable def b_slices_SortStableFunc_int_int (lf d : Nat) (a0 a1 : Value) : M Value :=
 optK (len2 Tryd.prog #[22] [a0]) fun v6n1 =>
 (inside (evCall2 Tryd.prog gt lf d 73 #[a0, v6n1, a1])).bind fun v8n2 =>
 outK []
theorem sh_slices_SortStableFunc_int_int (lf d : Nat) (a0 a1 : Value) : evCall2 Tryd.prog gt lf (d + 1) 69 #[a0, a1] = inside (b_slices_SortStableFunc_int_int lf d a0 a1) := by kernel_rfl

noncomputable def b_lens_treesOf_1 (lf d : Nat) (a0 a1 a2 : Value) : M Value :=
 (inside (evLoad Tryd.prog 22 a2)).bind fun v6n1 =>
 optK (evIndexAddr Tryd.prog 22 v6n1 a0) fun v8n2 =>
 (inside (evLoad Tryd.prog 3 v8n2)).bind fun v9n3 =>
 (inside (evLoad Tryd.prog 22 a2)).bind fun v10n4 =>
 optK (evIndexAddr Tryd.prog 22 v10n4 a1) fun v12n5 =>
 (inside (evLoad Tryd.prog 3 v12n5)).bind fun v13n6 =>
 (inside (evCall2 Tryd.prog gt lf d 71 #[v9n3, v13n6])).bind fun v14n7 =>
 outK [v14n7]
theorem sh_lens_treesOf_1 (lf d : Nat) (a0 a1 a2 : Value) : evCall2 Tryd.prog gt lf (d + 1) 70 #[a0, a1, a2] = inside (b_lens_treesOf_1 lf d a0 a1 a2) := by kernel_rfl

noncomputable def b_cmp_Compare_int (lf d : Nat) (a0 a1 : Value) : M Value :=
 (inside (evCall2 Tryd.prog gt lf d 74 #[a0])).bind fun v8n1 =>
 (inside (evCall2 Tryd.prog gt lf d 74 #[a1])).bind fun v10n2 =>
 ifV v8n1 (
  ifV v10n2 (
   outK [(Value.int .i64 0)]) (
   outK [(Value.int .i64 (-1))])) (
  ifV v10n2 (
   outK [(Value.int .i64 1)]) (
   optK (bin2 Tryd.prog .lss 3 a0 a1) fun v16n3 =>
   ifV v16n3 (
    outK [(Value.int .i64 (-1))]) (
    optK (bin2 Tryd.prog .gtr 3 a0 a1) fun v19n4 =>
    ifV v19n4 (
     outK [(Value.int .i64 1)]) (
     outK [(Value.int .i64 0)]))))
theorem sh_cmp_Compare_int (lf d : Nat) (a0 a1 : Value) : evCall2 Tryd.prog gt lf (d + 1) 71 #[a0, a1] = inside (b_cmp_Compare_int lf d a0 a1) := by kernel_rfl

noncomputable def b_balerref09_less (lf d : Nat) (a0 a1 : Value) : M Value :=
 (inside (evBox Tryd.prog 75 a0)).bind fun v2n1 =>
 (inside (evBox Tryd.prog 75 a1)).bind fun v3n2 =>
 optK (evFieldAddr Tryd.prog 75 v2n1 0) fun v5n3 =>
 (inside (evLoad Tryd.prog 3 v5n3)).bind fun v6n4 =>
 optK (evFieldAddr Tryd.prog 75 v3n2 0) fun v7n5 =>
 (inside (evLoad Tryd.prog 3 v7n5)).bind fun v8n6 =>
 optK (bin2 Tryd.prog .lss 3 v6n4 v8n6) fun v9n7 =>
 ifV v9n7 (
  outK [(Value.bool true)]) (
  optK (evFieldAddr Tryd.prog 75 v2n1 0) fun v11n8 =>
  (inside (evLoad Tryd.prog 3 v11n8)).bind fun v12n9 =>
  optK (evFieldAddr Tryd.prog 75 v3n2 0) fun v13n10 =>
  (inside (evLoad Tryd.prog 3 v13n10)).bind fun v14n11 =>
  optK (bin2 Tryd.prog .eql 3 v12n9 v14n11) fun v15n12 =>
  ifV v15n12 (
   optK (evFieldAddr Tryd.prog 75 v2n1 1) fun v17n13 =>
   (inside (evLoad Tryd.prog 3 v17n13)).bind fun v18n14 =>
   optK (evFieldAddr Tryd.prog 75 v3n2 1) fun v19n15 =>
   (inside (evLoad Tryd.prog 3 v19n15)).bind fun v20n16 =>
   optK (bin2 Tryd.prog .lss 3 v18n14 v20n16) fun v21n17 =>
   outK [v21n17]) (
   outK [(Value.bool false)]))
theorem sh_balerref09_less (lf d : Nat) (a0 a1 : Value) : evCall2 Tryd.prog gt lf (d + 1) 72 #[a0, a1] = inside (b_balerref09_less lf d a0 a1) := by kernel_rfl

noncomputable def lpA_slices_stableCmpFunc_int (lf d fu : Nat) (k : Ex → Fr → M Value) (x0 x1 x2 x6 x7 x8 : Value) : M Value := loopK (fun s1 k1 => codeK Tryd.prog (evCall2 Tryd.prog gt lf d) (gt 73) lf (codeAt (bodyOf Tryd.prog 73) [true, true, false, false, false]) s1 k1) [0, 1, 2, 6, 7, 8] fu [(0, x0), (1, x1), (2, x2), (6, x6), (7, x7), (8, x8)] k
noncomputable def kcA_slices_stableCmpFunc_int (lf d : Nat) : Ex → Fr → M Value := contAt Tryd.prog (evCall2 Tryd.prog gt lf d) (gt 73) lf (bodyOf Tryd.prog 73) [true, true, false, false] (endK Tryd.prog (resOf Tryd.prog 73))
noncomputable def lpB_slices_stableCmpFunc_int (lf d fu : Nat) (k : Ex → Fr → M Value) (x0 x1 x2 x6 x7 x8 x13 : Value) : M Value := loopK (fun s1 k1 => codeK Tryd.prog (evCall2 Tryd.prog gt lf d) (gt 73) lf (codeAt (bodyOf Tryd.prog 73) [true, true, true, true, false, false]) s1 k1) [0, 1, 2, 6, 7, 8, 13] fu [(0, x0), (1, x1), (2, x2), (6, x6), (7, x7), (8, x8), (13, x13)] k
noncomputable def kcB_slices_stableCmpFunc_int (lf d : Nat) : Ex → Fr → M Value := contAt Tryd.prog (evCall2 Tryd.prog gt lf d) (gt 73) lf (bodyOf Tryd.prog 73) [true, true, true, true, false] (endK Tryd.prog (resOf Tryd.prog 73))
noncomputable def lpC_slices_stableCmpFunc_int (lf d fu : Nat) (k : Ex → Fr → M Value) (x0 x1 x2 x6 x7 x8 x13 x30 : Value) : M Value := loopK (fun s1 k1 => codeK Tryd.prog (evCall2 Tryd.prog gt lf d) (gt 73) lf (codeAt (bodyOf Tryd.prog 73) [true, true, true, true, false, false, true, false, true, false, false, false]) s1 k1) [0, 1, 2, 6, 7, 8, 13, 30] fu [(0, x0), (1, x1), (2, x2), (6, x6), (7, x7), (8, x8), (13, x13), (30, x30)] k
noncomputable def kcC_slices_stableCmpFunc_int (lf d fu : Nat) (k : Ex → Fr → M Value) : Ex → Fr → M Value := contAt Tryd.prog (evCall2 Tryd.prog gt lf d) (gt 73) lf (codeAt (bodyOf Tryd.prog 73) [true, true, true, true, false, false]) [true, false, true, false, false] (againK (fun s1 => loopK (fun s1 k1 => codeK Tryd.prog (evCall2 Tryd.prog gt lf d) (gt 73) lf (codeAt (bodyOf Tryd.prog 73) [true, true, true, true, false, false]) s1 k1) [0, 1, 2, 6, 7, 8, 13] fu (s1.keep [0, 1, 2, 6, 7, 8, 13]) k) k)
noncomputable def b_slices_stableCmpFunc_int (lf d : Nat) (a0 a1 a2 : Value) : M Value :=
 lpA_slices_stableCmpFunc_int lf d lf (kcA_slices_stableCmpFunc_int lf d) a0 a1 a2 (Value.int .i64 20) (Value.int .i64 0) (Value.int .i64 20)
theorem sh_slices_stableCmpFunc_int (lf d : Nat) (a0 a1 a2 : Value) : evCall2 Tryd.prog gt lf (d + 1) 73 #[a0, a1, a2] = inside (b_slices_stableCmpFunc_int lf d a0 a1 a2) := by kernel_rfl
theorem succA_slices_stableCmpFunc_int (lf d fu : Nat) (k : Ex → Fr → M Value) (x0 x1 x2 x6 x7 x8 : Value) : lpA_slices_stableCmpFunc_int lf d (fu + 1) k x0 x1 x2 x6 x7 x8 =
 optK (bin2 Tryd.prog .leq 3 x8 x1) fun v13n1 =>
 ifV v13n1 (
  (inside (evCall2 Tryd.prog gt lf d 75 #[x0, x7, x8, x2])).bind fun v18n2 =>
  optK (bin2 Tryd.prog .add 3 x8 x6) fun v22n3 =>
  lpA_slices_stableCmpFunc_int lf d fu k x0 x1 x2 x6 x8 v22n3) (
  k (Ex.exit 0) [(0, x0), (1, x1), (2, x2), (6, x6), (7, x7), (8, x8), (13, v13n1)]) := by kernel_rfl
theorem kcAa_slices_stableCmpFunc_int (lf d : Nat) (y0 y1 y2 y6 y7 y8 y13 : Value) : kcA_slices_stableCmpFunc_int lf d (Ex.exit 0) [(0, y0), (1, y1), (2, y2), (6, y6), (7, y7), (8, y8), (13, y13)] =
 (inside (evCall2 Tryd.prog gt lf d 75 #[y0, y7, y1, y2])).bind fun v27n4 =>
 lpB_slices_stableCmpFunc_int lf d lf (kcB_slices_stableCmpFunc_int lf d) y0 y1 y2 y6 y7 y8 y13 := by kernel_rfl
theorem succB_slices_stableCmpFunc_int (lf d fu : Nat) (k : Ex → Fr → M Value) (x0 x1 x2 x6 x7 x8 x13 : Value) : lpB_slices_stableCmpFunc_int lf d (fu + 1) k x0 x1 x2 x6 x7 x8 x13 =
 optK (bin2 Tryd.prog .lss 3 x6 x1) fun v30n5 =>
 ifV v30n5 (
  optK (bin2 Tryd.prog .mul 3 (Value.int .i64 2) x6) fun v32n6 =>
  lpC_slices_stableCmpFunc_int lf d lf (kcC_slices_stableCmpFunc_int lf d fu k) x0 x1 x2 x6 (Value.int .i64 0) v32n6 x13 v30n5) (
  k (Ex.exit 2) [(0, x0), (1, x1), (2, x2), (6, x6), (7, x7), (8, x8), (13, x13), (30, v30n5)]) := by kernel_rfl
theorem kcBa_slices_stableCmpFunc_int (lf d : Nat) (y0 y1 y2 y6 y7 y8 y13 y30 : Value) : kcB_slices_stableCmpFunc_int lf d (Ex.exit 2) [(0, y0), (1, y1), (2, y2), (6, y6), (7, y7), (8, y8), (13, y13), (30, y30)] =
 outK [] := by kernel_rfl
theorem succC_slices_stableCmpFunc_int (lf d fu : Nat) (k : Ex → Fr → M Value) (x0 x1 x2 x6 x7 x8 x13 x30 : Value) : lpC_slices_stableCmpFunc_int lf d (fu + 1) k x0 x1 x2 x6 x7 x8 x13 x30 =
 optK (bin2 Tryd.prog .leq 3 x8 x1) fun v35n7 =>
 ifV v35n7 (
  optK (bin2 Tryd.prog .add 3 x7 x6) fun v40n8 =>
  (inside (evCall2 Tryd.prog gt lf d 76 #[x0, x7, v40n8, x8, x2])).bind fun v43n9 =>
  optK (bin2 Tryd.prog .mul 3 (Value.int .i64 2) x6) fun v47n10 =>
  optK (bin2 Tryd.prog .add 3 x8 v47n10) fun v48n11 =>
  lpC_slices_stableCmpFunc_int lf d fu k x0 x1 x2 x6 x8 v48n11 x13 x30) (
  k (Ex.exit 4) [(0, x0), (1, x1), (2, x2), (6, x6), (7, x7), (8, x8), (13, x13), (30, x30), (35, v35n7)]) := by kernel_rfl
theorem kcCa_slices_stableCmpFunc_int (lf d fu : Nat) (k : Ex → Fr → M Value) (y0 y1 y2 y6 y7 y8 y13 y30 y35 : Value) : kcC_slices_stableCmpFunc_int lf d fu k (Ex.exit 4) [(0, y0), (1, y1), (2, y2), (6, y6), (7, y7), (8, y8), (13, y13), (30, y30), (35, y35)] =
 optK (bin2 Tryd.prog .add 3 y7 y6) fun v51n12 =>
 optK (bin2 Tryd.prog .lss 3 v51n12 y1) fun v54n13 =>
 ifV v54n13 (
  (inside (evCall2 Tryd.prog gt lf d 76 #[y0, y7, v51n12, y1, y2])).bind fun v60n14 =>
  optK (bin2 Tryd.prog .mul 3 y6 (Value.int .i64 2)) fun v62n15 =>
  lpB_slices_stableCmpFunc_int lf d fu k y0 y1 y2 v62n15 y7 y8 y13) (
  optK (bin2 Tryd.prog .mul 3 y6 (Value.int .i64 2)) fun v62n16 =>
  lpB_slices_stableCmpFunc_int lf d fu k y0 y1 y2 v62n16 y7 y8 y13) := by kernel_rfl

noncomputable def b_cmp_isNaN_int (lf d : Nat) (a0 : Value) : M Value :=
 optK (bin2 Tryd.prog .neq 3 a0 a0) fun v5n1 =>
 outK [v5n1]
theorem sh_cmp_isNaN_int (lf d : Nat) (a0 : Value) : evCall2 Tryd.prog gt lf (d + 1) 74 #[a0] = inside (b_cmp_isNaN_int lf d a0) := by kernel_rfl

noncomputable def lpA_slices_insertionSortCmpFunc_int (lf d fu : Nat) (k : Ex → Fr → M Value) (x0 x1 x2 x3 x8 : Value) : M Value := loopK (fun s1 k1 => codeK Tryd.prog (evCall2 Tryd.prog gt lf d) (gt 75) lf (codeAt (bodyOf Tryd.prog 75) [true, false, false]) s1 k1) [0, 1, 2, 3, 8] fu [(0, x0), (1, x1), (2, x2), (3, x3), (8, x8)] k
noncomputable def kcA_slices_insertionSortCmpFunc_int (lf d : Nat) : Ex → Fr → M Value := contAt Tryd.prog (evCall2 Tryd.prog gt lf d) (gt 75) lf (bodyOf Tryd.prog 75) [true, false] (endK Tryd.prog (resOf Tryd.prog 75))
noncomputable def lpB_slices_insertionSortCmpFunc_int (lf d fu : Nat) (k : Ex → Fr → M Value) (x0 x1 x2 x3 x8 x9 x14 : Value) : M Value := loopK (fun s1 k1 => codeK Tryd.prog (evCall2 Tryd.prog gt lf d) (gt 75) lf (codeAt (bodyOf Tryd.prog 75) [true, false, false, true, false, false, true, false, false]) s1 k1) [0, 1, 2, 3, 8, 9, 14] fu [(0, x0), (1, x1), (2, x2), (3, x3), (8, x8), (9, x9), (14, x14)] k
noncomputable def kcB_slices_insertionSortCmpFunc_int (lf d fu : Nat) (k : Ex → Fr → M Value) : Ex → Fr → M Value := contAt Tryd.prog (evCall2 Tryd.prog gt lf d) (gt 75) lf (codeAt (bodyOf Tryd.prog 75) [true, false, false]) [true, false, false, true, false] (againK (fun s1 => loopK (fun s1 k1 => codeK Tryd.prog (evCall2 Tryd.prog gt lf d) (gt 75) lf (codeAt (bodyOf Tryd.prog 75) [true, false, false]) s1 k1) [0, 1, 2, 3, 8] fu (s1.keep [0, 1, 2, 3, 8]) k) k)
noncomputable def b_slices_insertionSortCmpFunc_int (lf d : Nat) (a0 a1 a2 a3 : Value) : M Value :=
 optK (bin2 Tryd.prog .add 3 a1 (Value.int .i64 1)) fun v11n1 =>
 lpA_slices_insertionSortCmpFunc_int lf d lf (kcA_slices_insertionSortCmpFunc_int lf d) a0 a1 a2 a3 v11n1
theorem sh_slices_insertionSortCmpFunc_int (lf d : Nat) (a0 a1 a2 a3 : Value) : evCall2 Tryd.prog gt lf (d + 1) 75 #[a0, a1, a2, a3] = inside (b_slices_insertionSortCmpFunc_int lf d a0 a1 a2 a3) := by kernel_rfl
theorem succA_slices_insertionSortCmpFunc_int (lf d fu : Nat) (k : Ex → Fr → M Value) (x0 x1 x2 x3 x8 : Value) : lpA_slices_insertionSortCmpFunc_int lf d (fu + 1) k x0 x1 x2 x3 x8 =
 optK (bin2 Tryd.prog .lss 3 x8 x2) fun v14n2 =>
 ifV v14n2 (
  lpB_slices_insertionSortCmpFunc_int lf d lf (kcB_slices_insertionSortCmpFunc_int lf d fu k) x0 x1 x2 x3 x8 x8 v14n2) (
  k (Ex.exit 0) [(0, x0), (1, x1), (2, x2), (3, x3), (8, x8), (14, v14n2)]) := by kernel_rfl
theorem kcAa_slices_insertionSortCmpFunc_int (lf d : Nat) (y0 y1 y2 y3 y8 y14 : Value) : kcA_slices_insertionSortCmpFunc_int lf d (Ex.exit 0) [(0, y0), (1, y1), (2, y2), (3, y3), (8, y8), (14, y14)] =
 outK [] := by kernel_rfl
theorem succB_slices_insertionSortCmpFunc_int (lf d fu : Nat) (k : Ex → Fr → M Value) (x0 x1 x2 x3 x8 x9 x14 : Value) : lpB_slices_insertionSortCmpFunc_int lf d (fu + 1) k x0 x1 x2 x3 x8 x9 x14 =
 optK (bin2 Tryd.prog .gtr 3 x9 x1) fun v20n3 =>
 ifV v20n3 (
  optK (evIndexAddr Tryd.prog 22 x0 x9) fun v25n4 =>
  (inside (evLoad Tryd.prog 3 v25n4)).bind fun v26n5 =>
  optK (bin2 Tryd.prog .sub 3 x9 (Value.int .i64 1)) fun v29n6 =>
  optK (evIndexAddr Tryd.prog 22 x0 v29n6) fun v30n7 =>
  (inside (evLoad Tryd.prog 3 v30n7)).bind fun v31n8 =>
  callV Tryd.prog (evCall2 Tryd.prog gt lf d) x3 [v26n5, v31n8] fun v32n9 =>
  optK (bin2 Tryd.prog .lss 3 v32n9 (Value.int .i64 0)) fun v33n10 =>
  ifV v33n10 (
   optK (bin2 Tryd.prog .sub 3 x9 (Value.int .i64 1)) fun v41n11 =>
   optK (bin2 Tryd.prog .sub 3 x9 (Value.int .i64 1)) fun v44n12 =>
   optK (evIndexAddr Tryd.prog 22 x0 v44n12) fun v45n13 =>
   (inside (evLoad Tryd.prog 3 v45n13)).bind fun v46n14 =>
   optK (evIndexAddr Tryd.prog 22 x0 x9) fun v49n15 =>
   (inside (evLoad Tryd.prog 3 v49n15)).bind fun v50n16 =>
   optK (evIndexAddr Tryd.prog 22 x0 x9) fun v51n17 =>
   (inside (evStore Tryd.prog 3 v51n17 v46n14)).bind fun u18 =>
   optK (evIndexAddr Tryd.prog 22 x0 v41n11) fun v52n19 =>
   (inside (evStore Tryd.prog 3 v52n19 v50n16)).bind fun u20 =>
   optK (bin2 Tryd.prog .sub 3 x9 (Value.int .i64 1)) fun v36n21 =>
   lpB_slices_insertionSortCmpFunc_int lf d fu k x0 x1 x2 x3 x8 v36n21 x14) (
   k (Ex.exit 2) [(0, x0), (1, x1), (2, x2), (3, x3), (8, x8), (9, x9), (14, x14), (34, v33n10)])) (
  k (Ex.exit 2) [(0, x0), (1, x1), (2, x2), (3, x3), (8, x8), (9, x9), (14, x14), (34, (Value.bool false))]) := by kernel_rfl
theorem kcBa_slices_insertionSortCmpFunc_int (lf d fu : Nat) (k : Ex → Fr → M Value) (y0 y1 y2 y3 y8 y9 y14 y34 : Value) : kcB_slices_insertionSortCmpFunc_int lf d fu k (Ex.exit 2) [(0, y0), (1, y1), (2, y2), (3, y3), (8, y8), (9, y9), (14, y14), (34, y34)] =
 optK (bin2 Tryd.prog .add 3 y8 (Value.int .i64 1)) fun v16n22 =>
 lpA_slices_insertionSortCmpFunc_int lf d fu k y0 y1 y2 y3 v16n22 := by kernel_rfl

noncomputable def lpA_slices_symMergeCmpFunc_int (lf d fu : Nat) (k : Ex → Fr → M Value) (x0 x1 x2 x3 x4 x10 x11 x28 : Value) : M Value := loopK (fun s1 k1 => codeK Tryd.prog (evCall2 Tryd.prog gt lf d) (gt 76) lf (codeAt (bodyOf Tryd.prog 76) [false, true, false, true, true, false, false, false]) s1 k1) [0, 1, 2, 3, 4, 10, 11, 28] fu [(0, x0), (1, x1), (2, x2), (3, x3), (4, x4), (10, x10), (11, x11), (28, x28)] k
noncomputable def kcA_slices_symMergeCmpFunc_int (lf d : Nat) : Ex → Fr → M Value := contAt Tryd.prog (evCall2 Tryd.prog gt lf d) (gt 76) lf (bodyOf Tryd.prog 76) [false, true, false, true, true, false, false] (endK Tryd.prog (resOf Tryd.prog 76))
noncomputable def lpB_slices_symMergeCmpFunc_int (lf d fu : Nat) (k : Ex → Fr → M Value) (x0 x1 x2 x3 x4 x14 x15 x28 x80 : Value) : M Value := loopK (fun s1 k1 => codeK Tryd.prog (evCall2 Tryd.prog gt lf d) (gt 76) lf (codeAt (bodyOf Tryd.prog 76) [true, false, true, false, true, true, false, false, false]) s1 k1) [0, 1, 2, 3, 4, 14, 15, 28, 80] fu [(0, x0), (1, x1), (2, x2), (3, x3), (4, x4), (14, x14), (15, x15), (28, x28), (80, x80)] k
noncomputable def kcB_slices_symMergeCmpFunc_int (lf d : Nat) : Ex → Fr → M Value := contAt Tryd.prog (evCall2 Tryd.prog gt lf d) (gt 76) lf (bodyOf Tryd.prog 76) [true, false, true, false, true, true, false, false] (endK Tryd.prog (resOf Tryd.prog 76))
noncomputable def lpC_slices_symMergeCmpFunc_int (lf d fu : Nat) (k : Ex → Fr → M Value) (x0 x1 x2 x3 x4 x18 x19 x20 x21 x22 x28 x80 x140 : Value) : M Value := loopK (fun s1 k1 => codeK Tryd.prog (evCall2 Tryd.prog gt lf d) (gt 76) lf (codeAt (bodyOf Tryd.prog 76) [true, true, true, true, true, true, true, false, false, false]) s1 k1) [0, 1, 2, 3, 4, 18, 19, 20, 21, 22, 28, 80, 140] fu [(0, x0), (1, x1), (2, x2), (3, x3), (4, x4), (18, x18), (19, x19), (20, x20), (21, x21), (22, x22), (28, x28), (80, x80), (140, x140)] k
noncomputable def kcC_slices_symMergeCmpFunc_int (lf d : Nat) : Ex → Fr → M Value := contAt Tryd.prog (evCall2 Tryd.prog gt lf d) (gt 76) lf (bodyOf Tryd.prog 76) [true, true, true, true, true, true, true, false, false] (endK Tryd.prog (resOf Tryd.prog 76))
noncomputable def lpD_slices_symMergeCmpFunc_int (lf d fu : Nat) (k : Ex → Fr → M Value) (x0 x1 x2 x3 x4 x10 x11 x13 x28 x33 : Value) : M Value := loopK (fun s1 k1 => codeK Tryd.prog (evCall2 Tryd.prog gt lf d) (gt 76) lf (codeAt (bodyOf Tryd.prog 76) [false, true, false, true, true, true, false, true, false, false]) s1 k1) [0, 1, 2, 3, 4, 10, 11, 13, 28, 33] fu [(0, x0), (1, x1), (2, x2), (3, x3), (4, x4), (10, x10), (11, x11), (13, x13), (28, x28), (33, x33)] k
noncomputable def kcD_slices_symMergeCmpFunc_int (lf d : Nat) : Ex → Fr → M Value := contAt Tryd.prog (evCall2 Tryd.prog gt lf d) (gt 76) lf (bodyOf Tryd.prog 76) [false, true, false, true, true, true, false, true, false] (endK Tryd.prog (resOf Tryd.prog 76))
noncomputable def lpE_slices_symMergeCmpFunc_int (lf d fu : Nat) (k : Ex → Fr → M Value) (x0 x1 x2 x3 x4 x14 x15 x17 x28 x80 x85 : Value) : M Value := loopK (fun s1 k1 => codeK Tryd.prog (evCall2 Tryd.prog gt lf d) (gt 76) lf (codeAt (bodyOf Tryd.prog 76) [true, false, true, false, true, true, true, false, true, false, false]) s1 k1) [0, 1, 2, 3, 4, 14, 15, 17, 28, 80, 85] fu [(0, x0), (1, x1), (2, x2), (3, x3), (4, x4), (14, x14), (15, x15), (17, x17), (28, x28), (80, x80), (85, x85)] k
noncomputable def kcE_slices_symMergeCmpFunc_int (lf d : Nat) : Ex → Fr → M Value := contAt Tryd.prog (evCall2 Tryd.prog gt lf d) (gt 76) lf (bodyOf Tryd.prog 76) [true, false, true, false, true, true, true, false, true, false] (endK Tryd.prog (resOf Tryd.prog 76))
noncomputable def b_slices_symMergeCmpFunc_int (lf d : Nat) (a0 a1 a2 a3 a4 : Value) : M Value :=
 optK (bin2 Tryd.prog .sub 3 a2 a1) fun v27n1 =>
 optK (bin2 Tryd.prog .eql 3 v27n1 (Value.int .i64 1)) fun v28n2 =>
 ifV v28n2 (
  lpA_slices_symMergeCmpFunc_int lf d lf (kcA_slices_symMergeCmpFunc_int lf d) a0 a1 a2 a3 a4 a2 a3 v28n2) (
  optK (bin2 Tryd.prog .sub 3 a3 a2) fun v79n3 =>
  optK (bin2 Tryd.prog .eql 3 v79n3 (Value.int .i64 1)) fun v80n4 =>
  ifV v80n4 (
   lpB_slices_symMergeCmpFunc_int lf d lf (kcB_slices_symMergeCmpFunc_int lf d) a0 a1 a2 a3 a4 a1 a2 v28n2 v80n4) (
   optK (bin2 Tryd.prog .add 3 a1 a3) fun v131n5 =>
   conv2 Tryd.prog 3 84 v131n5 fun v132n6 =>
   optK (bin2 Tryd.prog .shr 84 v132n6 (Value.int .u64 1)) fun v133n7 =>
   conv2 Tryd.prog 84 3 v133n7 fun v134n8 =>
   optK (bin2 Tryd.prog .add 3 v134n8 a2) fun v137n9 =>
   optK (bin2 Tryd.prog .gtr 3 a2 v134n8) fun v140n10 =>
   ifV v140n10 (
    optK (bin2 Tryd.prog .sub 3 v137n9 a3) fun v143n11 =>
    optK (bin2 Tryd.prog .sub 3 v137n9 (Value.int .i64 1)) fun v148n12 =>
    lpC_slices_symMergeCmpFunc_int lf d lf (kcC_slices_symMergeCmpFunc_int lf d) a0 a1 a2 a3 a4 v134n8 v137n9 v143n11 v134n8 v148n12 v28n2 v80n4 v140n10) (
    optK (bin2 Tryd.prog .sub 3 v137n9 (Value.int .i64 1)) fun v148n13 =>
    lpC_slices_symMergeCmpFunc_int lf d lf (kcC_slices_symMergeCmpFunc_int lf d) a0 a1 a2 a3 a4 v134n8 v137n9 a1 a2 v148n13 v28n2 v80n4 v140n10)))
theorem sh_slices_symMergeCmpFunc_int (lf d : Nat) (a0 a1 a2 a3 a4 : Value) : evCall2 Tryd.prog gt lf (d + 1) 76 #[a0, a1, a2, a3, a4] = inside (b_slices_symMergeCmpFunc_int lf d a0 a1 a2 a3 a4) := by kernel_rfl
theorem succA_slices_symMergeCmpFunc_int (lf d fu : Nat) (k : Ex → Fr → M Value) (x0 x1 x2 x3 x4 x10 x11 x28 : Value) : lpA_slices_symMergeCmpFunc_int lf d (fu + 1) k x0 x1 x2 x3 x4 x10 x11 x28 =
 optK (bin2 Tryd.prog .lss 3 x10 x11) fun v33n14 =>
 ifV v33n14 (
  optK (bin2 Tryd.prog .add 3 x10 x11) fun v36n15 =>
  conv2 Tryd.prog 3 84 v36n15 fun v37n16 =>
  optK (bin2 Tryd.prog .shr 84 v37n16 (Value.int .u64 1)) fun v38n17 =>
  conv2 Tryd.prog 84 3 v38n17 fun v39n18 =>
  optK (evIndexAddr Tryd.prog 22 x0 v39n18) fun v43n19 =>
  (inside (evLoad Tryd.prog 3 v43n19)).bind fun v44n20 =>
  optK (evIndexAddr Tryd.prog 22 x0 x1) fun v47n21 =>
  (inside (evLoad Tryd.prog 3 v47n21)).bind fun v48n22 =>
  callV Tryd.prog (evCall2 Tryd.prog gt lf d) x4 [v44n20, v48n22] fun v49n23 =>
  optK (bin2 Tryd.prog .lss 3 v49n23 (Value.int .i64 0)) fun v50n24 =>
  ifV v50n24 (
   optK (bin2 Tryd.prog .add 3 v39n18 (Value.int .i64 1)) fun v52n25 =>
   lpA_slices_symMergeCmpFunc_int lf d fu k x0 x1 x2 x3 x4 v52n25 x11 x28) (
   lpA_slices_symMergeCmpFunc_int lf d fu k x0 x1 x2 x3 x4 x10 v39n18 x28)) (
  k (Ex.exit 0) [(0, x0), (1, x1), (2, x2), (3, x3), (4, x4), (10, x10), (11, x11), (28, x28), (33, v33n14)]) := by kernel_rfl
theorem kcAa_slices_symMergeCmpFunc_int (lf d : Nat) (y0 y1 y2 y3 y4 y10 y11 y28 y33 : Value) : kcA_slices_symMergeCmpFunc_int lf d (Ex.exit 0) [(0, y0), (1, y1), (2, y2), (3, y3), (4, y4), (10, y10), (11, y11), (28, y28), (33, y33)] =
 lpD_slices_symMergeCmpFunc_int lf d lf (kcD_slices_symMergeCmpFunc_int lf d) y0 y1 y2 y3 y4 y10 y11 y1 y28 y33 := by kernel_rfl
theorem succB_slices_symMergeCmpFunc_int (lf d fu : Nat) (k : Ex → Fr → M Value) (x0 x1 x2 x3 x4 x14 x15 x28 x80 : Value) : lpB_slices_symMergeCmpFunc_int lf d (fu + 1) k x0 x1 x2 x3 x4 x14 x15 x28 x80 =
 optK (bin2 Tryd.prog .lss 3 x14 x15) fun v85n26 =>
 ifV v85n26 (
  optK (bin2 Tryd.prog .add 3 x14 x15) fun v88n27 =>
  conv2 Tryd.prog 3 84 v88n27 fun v89n28 =>
  optK (bin2 Tryd.prog .shr 84 v89n28 (Value.int .u64 1)) fun v90n29 =>
  conv2 Tryd.prog 84 3 v90n29 fun v91n30 =>
  optK (evIndexAddr Tryd.prog 22 x0 x2) fun v95n31 =>
  (inside (evLoad Tryd.prog 3 v95n31)).bind fun v96n32 =>
  optK (evIndexAddr Tryd.prog 22 x0 v91n30) fun v99n33 =>
  (inside (evLoad Tryd.prog 3 v99n33)).bind fun v100n34 =>
  callV Tryd.prog (evCall2 Tryd.prog gt lf d) x4 [v96n32, v100n34] fun v101n35 =>
  optK (bin2 Tryd.prog .lss 3 v101n35 (Value.int .i64 0)) fun v102n36 =>
  optK (un2 Tryd.prog .not v102n36) fun v103n37 =>
  ifV v103n37 (
   optK (bin2 Tryd.prog .add 3 v91n30 (Value.int .i64 1)) fun v105n38 =>
   lpB_slices_symMergeCmpFunc_int lf d fu k x0 x1 x2 x3 x4 v105n38 x15 x28 x80) (
   lpB_slices_symMergeCmpFunc_int lf d fu k x0 x1 x2 x3 x4 x14 v91n30 x28 x80)) (
  k (Ex.exit 4) [(0, x0), (1, x1), (2, x2), (3, x3), (4, x4), (14, x14), (15, x15), (28, x28), (80, x80), (85, v85n26)]) := by kernel_rfl
theorem kcBa_slices_symMergeCmpFunc_int (lf d : Nat) (y0 y1 y2 y3 y4 y14 y15 y28 y80 y85 : Value) : kcB_slices_symMergeCmpFunc_int lf d (Ex.exit 4) [(0, y0), (1, y1), (2, y2), (3, y3), (4, y4), (14, y14), (15, y15), (28, y28), (80, y80), (85, y85)] =
 lpE_slices_symMergeCmpFunc_int lf d lf (kcE_slices_symMergeCmpFunc_int lf d) y0 y1 y2 y3 y4 y14 y15 y2 y28 y80 y85 := by kernel_rfl
theorem succC_slices_symMergeCmpFunc_int (lf d fu : Nat) (k : Ex → Fr → M Value) (x0 x1 x2 x3 x4 x18 x19 x20 x21 x22 x28 x80 x140 : Value) : lpC_slices_symMergeCmpFunc_int lf d (fu + 1) k x0 x1 x2 x3 x4 x18 x19 x20 x21 x22 x28 x80 x140 =
 optK (bin2 Tryd.prog .lss 3 x20 x21) fun v151n39 =>
 ifV v151n39 (
  optK (bin2 Tryd.prog .add 3 x20 x21) fun v154n40 =>
  conv2 Tryd.prog 3 84 v154n40 fun v155n41 =>
  optK (bin2 Tryd.prog .shr 84 v155n41 (Value.int .u64 1)) fun v156n42 =>
  conv2 Tryd.prog 84 3 v156n42 fun v157n43 =>
  optK (bin2 Tryd.prog .sub 3 x22 v157n43) fun v162n44 =>
  optK (evIndexAddr Tryd.prog 22 x0 v162n44) fun v163n45 =>
  (inside (evLoad Tryd.prog 3 v163n45)).bind fun v164n46 =>
  optK (evIndexAddr Tryd.prog 22 x0 v157n43) fun v167n47 =>
  (inside (evLoad Tryd.prog 3 v167n47)).bind fun v168n48 =>
  callV Tryd.prog (evCall2 Tryd.prog gt lf d) x4 [v164n46, v168n48] fun v169n49 =>
  optK (bin2 Tryd.prog .lss 3 v169n49 (Value.int .i64 0)) fun v170n50 =>
  optK (un2 Tryd.prog .not v170n50) fun v171n51 =>
  ifV v171n51 (
   optK (bin2 Tryd.prog .add 3 v157n43 (Value.int .i64 1)) fun v173n52 =>
   lpC_slices_symMergeCmpFunc_int lf d fu k x0 x1 x2 x3 x4 x18 x19 v173n52 x21 x22 x28 x80 x140) (
   lpC_slices_symMergeCmpFunc_int lf d fu k x0 x1 x2 x3 x4 x18 x19 x20 v157n43 x22 x28 x80 x140)) (
  k (Ex.exit 8) [(0, x0), (1, x1), (2, x2), (3, x3), (4, x4), (18, x18), (19, x19), (20, x20), (21, x21), (22, x22), (28, x28), (80, x80), (140, x140), (151, v151n39)]) := by kernel_rfl
theorem kcCa_slices_symMergeCmpFunc_int (lf d : Nat) (y0 y1 y2 y3 y4 y18 y19 y20 y21 y22 y28 y80 y140 y151 : Value) : kcC_slices_symMergeCmpFunc_int lf d (Ex.exit 8) [(0, y0), (1, y1), (2, y2), (3, y3), (4, y4), (18, y18), (19, y19), (20, y20), (21, y21), (22, y22), (28, y28), (80, y80), (140, y140), (151, y151)] =
 optK (bin2 Tryd.prog .sub 3 y19 y20) fun v177n53 =>
 optK (bin2 Tryd.prog .lss 3 y20 y2) fun v180n54 =>
 ifV v180n54 (
  optK (bin2 Tryd.prog .lss 3 y2 v177n53) fun v184n55 =>
  ifV v184n55 (
   (inside (evCall2 Tryd.prog gt lf d 77 #[y0, y20, y2, v177n53, y4])).bind fun v191n56 =>
   optK (bin2 Tryd.prog .lss 3 y1 y20) fun v194n57 =>
   ifV v194n57 (
    optK (bin2 Tryd.prog .lss 3 y20 y18) fun v198n58 =>
    ifV v198n58 (
     (inside (evCall2 Tryd.prog gt lf d 76 #[y0, y1, y20, y18, y4])).bind fun v205n59 =>
     optK (bin2 Tryd.prog .lss 3 y18 v177n53) fun v208n60 =>
     ifV v208n60 (
      optK (bin2 Tryd.prog .lss 3 v177n53 y3) fun v212n61 =>
      ifV v212n61 (
       (inside (evCall2 Tryd.prog gt lf d 76 #[y0, y18, v177n53, y3, y4])).bind fun v219n62 =>
       outK []) (
       outK [])) (
      outK [])) (
     optK (bin2 Tryd.prog .lss 3 y18 v177n53) fun v208n63 =>
     ifV v208n63 (
      optK (bin2 Tryd.prog .lss 3 v177n53 y3) fun v212n64 =>
      ifV v212n64 (
       (inside (evCall2 Tryd.prog gt lf d 76 #[y0, y18, v177n53, y3, y4])).bind fun v219n65 =>
       outK []) (
       outK [])) (
      outK []))) (
    optK (bin2 Tryd.prog .lss 3 y18 v177n53) fun v208n66 =>
    ifV v208n66 (
     optK (bin2 Tryd.prog .lss 3 v177n53 y3) fun v212n67 =>
     ifV v212n67 (
      (inside (evCall2 Tryd.prog gt lf d 76 #[y0, y18, v177n53, y3, y4])).bind fun v219n68 =>
      outK []) (
      outK [])) (
     outK []))) (
   optK (bin2 Tryd.prog .lss 3 y1 y20) fun v194n69 =>
   ifV v194n69 (
    optK (bin2 Tryd.prog .lss 3 y20 y18) fun v198n70 =>
    ifV v198n70 (
     (inside (evCall2 Tryd.prog gt lf d 76 #[y0, y1, y20, y18, y4])).bind fun v205n71 =>
     optK (bin2 Tryd.prog .lss 3 y18 v177n53) fun v208n72 =>
     ifV v208n72 (
      optK (bin2 Tryd.prog .lss 3 v177n53 y3) fun v212n73 =>
      ifV v212n73 (
       (inside (evCall2 Tryd.prog gt lf d 76 #[y0, y18, v177n53, y3, y4])).bind fun v219n74 =>
       outK []) (
       outK [])) (
      outK [])) (
     optK (bin2 Tryd.prog .lss 3 y18 v177n53) fun v208n75 =>
     ifV v208n75 (
      optK (bin2 Tryd.prog .lss 3 v177n53 y3) fun v212n76 =>
      ifV v212n76 (
       (inside (evCall2 Tryd.prog gt lf d 76 #[y0, y18, v177n53, y3, y4])).bind fun v219n77 =>
       outK []) (
       outK [])) (
      outK []))) (
    optK (bin2 Tryd.prog .lss 3 y18 v177n53) fun v208n78 =>
    ifV v208n78 (
     optK (bin2 Tryd.prog .lss 3 v177n53 y3) fun v212n79 =>
     ifV v212n79 (
      (inside (evCall2 Tryd.prog gt lf d 76 #[y0, y18, v177n53, y3, y4])).bind fun v219n80 =>
      outK []) (
      outK [])) (
     outK [])))) (
  optK (bin2 Tryd.prog .lss 3 y1 y20) fun v194n81 =>
  ifV v194n81 (
   optK (bin2 Tryd.prog .lss 3 y20 y18) fun v198n82 =>
   ifV v198n82 (
    (inside (evCall2 Tryd.prog gt lf d 76 #[y0, y1, y20, y18, y4])).bind fun v205n83 =>
    optK (bin2 Tryd.prog .lss 3 y18 v177n53) fun v208n84 =>
    ifV v208n84 (
     optK (bin2 Tryd.prog .lss 3 v177n53 y3) fun v212n85 =>
     ifV v212n85 (
      (inside (evCall2 Tryd.prog gt lf d 76 #[y0, y18, v177n53, y3, y4])).bind fun v219n86 =>
      outK []) (
      outK [])) (
     outK [])) (
    optK (bin2 Tryd.prog .lss 3 y18 v177n53) fun v208n87 =>
    ifV v208n87 (
     optK (bin2 Tryd.prog .lss 3 v177n53 y3) fun v212n88 =>
     ifV v212n88 (
      (inside (evCall2 Tryd.prog gt lf d 76 #[y0, y18, v177n53, y3, y4])).bind fun v219n89 =>
      outK []) (
      outK [])) (
     outK []))) (
   optK (bin2 Tryd.prog .lss 3 y18 v177n53) fun v208n90 =>
   ifV v208n90 (
    optK (bin2 Tryd.prog .lss 3 v177n53 y3) fun v212n91 =>
    ifV v212n91 (
     (inside (evCall2 Tryd.prog gt lf d 76 #[y0, y18, v177n53, y3, y4])).bind fun v219n92 =>
     outK []) (
     outK [])) (
    outK []))) := by kernel_rfl
theorem succD_slices_symMergeCmpFunc_int (lf d fu : Nat) (k : Ex → Fr → M Value) (x0 x1 x2 x3 x4 x10 x11 x13 x28 x33 : Value) : lpD_slices_symMergeCmpFunc_int lf d (fu + 1) k x0 x1 x2 x3 x4 x10 x11 x13 x28 x33 =
 optK (bin2 Tryd.prog .sub 3 x10 (Value.int .i64 1)) fun v57n93 =>
 optK (bin2 Tryd.prog .lss 3 x13 v57n93) fun v58n94 =>
 ifV v58n94 (
  optK (bin2 Tryd.prog .add 3 x13 (Value.int .i64 1)) fun v65n95 =>
  optK (bin2 Tryd.prog .add 3 x13 (Value.int .i64 1)) fun v68n96 =>
  optK (evIndexAddr Tryd.prog 22 x0 v68n96) fun v69n97 =>
  (inside (evLoad Tryd.prog 3 v69n97)).bind fun v70n98 =>
  optK (evIndexAddr Tryd.prog 22 x0 x13) fun v73n99 =>
  (inside (evLoad Tryd.prog 3 v73n99)).bind fun v74n100 =>
  optK (evIndexAddr Tryd.prog 22 x0 x13) fun v75n101 =>
  (inside (evStore Tryd.prog 3 v75n101 v70n98)).bind fun u102 =>
  optK (evIndexAddr Tryd.prog 22 x0 v65n95) fun v76n103 =>
  (inside (evStore Tryd.prog 3 v76n103 v74n100)).bind fun u104 =>
  optK (bin2 Tryd.prog .add 3 x13 (Value.int .i64 1)) fun v60n105 =>
  lpD_slices_symMergeCmpFunc_int lf d fu k x0 x1 x2 x3 x4 x10 x11 v60n105 x28 x33) (
  k (Ex.exit 2) [(0, x0), (1, x1), (2, x2), (3, x3), (4, x4), (10, x10), (11, x11), (13, x13), (28, x28), (33, x33), (58, v58n94)]) := by kernel_rfl
theorem kcDa_slices_symMergeCmpFunc_int (lf d : Nat) (y0 y1 y2 y3 y4 y10 y11 y13 y28 y33 y58 : Value) : kcD_slices_symMergeCmpFunc_int lf d (Ex.exit 2) [(0, y0), (1, y1), (2, y2), (3, y3), (4, y4), (10, y10), (11, y11), (13, y13), (28, y28), (33, y33), (58, y58)] =
 outK [] := by kernel_rfl
theorem succE_slices_symMergeCmpFunc_int (lf d fu : Nat) (k : Ex → Fr → M Value) (x0 x1 x2 x3 x4 x14 x15 x17 x28 x80 x85 : Value) : lpE_slices_symMergeCmpFunc_int lf d (fu + 1) k x0 x1 x2 x3 x4 x14 x15 x17 x28 x80 x85 =
 optK (bin2 Tryd.prog .gtr 3 x17 x14) fun v110n106 =>
 ifV v110n106 (
  optK (bin2 Tryd.prog .sub 3 x17 (Value.int .i64 1)) fun v117n107 =>
  optK (bin2 Tryd.prog .sub 3 x17 (Value.int .i64 1)) fun v120n108 =>
  optK (evIndexAddr Tryd.prog 22 x0 v120n108) fun v121n109 =>
  (inside (evLoad Tryd.prog 3 v121n109)).bind fun v122n110 =>
  optK (evIndexAddr Tryd.prog 22 x0 x17) fun v125n111 =>
  (inside (evLoad Tryd.prog 3 v125n111)).bind fun v126n112 =>
  optK (evIndexAddr Tryd.prog 22 x0 x17) fun v127n113 =>
  (inside (evStore Tryd.prog 3 v127n113 v122n110)).bind fun u114 =>
  optK (evIndexAddr Tryd.prog 22 x0 v117n107) fun v128n115 =>
  (inside (evStore Tryd.prog 3 v128n115 v126n112)).bind fun u116 =>
  optK (bin2 Tryd.prog .sub 3 x17 (Value.int .i64 1)) fun v112n117 =>
  lpE_slices_symMergeCmpFunc_int lf d fu k x0 x1 x2 x3 x4 x14 x15 v112n117 x28 x80 x85) (
  k (Ex.exit 6) [(0, x0), (1, x1), (2, x2), (3, x3), (4, x4), (14, x14), (15, x15), (17, x17), (28, x28), (80, x80), (85, x85), (110, v110n106)]) := by kernel_rfl
theorem kcEa_slices_symMergeCmpFunc_int (lf d : Nat) (y0 y1 y2 y3 y4 y14 y15 y17 y28 y80 y85 y110 : Value) : kcE_slices_symMergeCmpFunc_int lf d (Ex.exit 6) [(0, y0), (1, y1), (2, y2), (3, y3), (4, y4), (14, y14), (15, y15), (17, y17), (28, y28), (80, y80), (85, y85), (110, y110)] =
 outK [] := by kernel_rfl

noncomputable def lpA_slices_rotateCmpFunc_int (lf d fu : Nat) (k : Ex → Fr → M Value) (x0 x1 x2 x3 x4 x10 x11 : Value) : M Value := loopK (fun s1 k1 => codeK Tryd.prog (evCall2 Tryd.prog gt lf d) (gt 77) lf (codeAt (bodyOf Tryd.prog 77) [true, true, false, false, false]) s1 k1) [0, 1, 2, 3, 4, 10, 11] fu [(0, x0), (1, x1), (2, x2), (3, x3), (4, x4), (10, x10), (11, x11)] k
noncomputable def kcA_slices_rotateCmpFunc_int (lf d : Nat) : Ex → Fr → M Value := contAt Tryd.prog (evCall2 Tryd.prog gt lf d) (gt 77) lf (bodyOf Tryd.prog 77) [true, true, false, false] (endK Tryd.prog (resOf Tryd.prog 77))
noncomputable def b_slices_rotateCmpFunc_int (lf d : Nat) (a0 a1 a2 a3 a4 : Value) : M Value :=
 optK (bin2 Tryd.prog .sub 3 a2 a1) fun v14n1 =>
 optK (bin2 Tryd.prog .sub 3 a3 a2) fun v17n2 =>
 lpA_slices_rotateCmpFunc_int lf d lf (kcA_slices_rotateCmpFunc_int lf d) a0 a1 a2 a3 a4 v14n1 v17n2
theorem sh_slices_rotateCmpFunc_int (lf d : Nat) (a0 a1 a2 a3 a4 : Value) : evCall2 Tryd.prog gt lf (d + 1) 77 #[a0, a1, a2, a3, a4] = inside (b_slices_rotateCmpFunc_int lf d a0 a1 a2 a3 a4) := by kernel_rfl
theorem succA_slices_rotateCmpFunc_int (lf d fu : Nat) (k : Ex → Fr → M Value) (x0 x1 x2 x3 x4 x10 x11 : Value) : lpA_slices_rotateCmpFunc_int lf d (fu + 1) k x0 x1 x2 x3 x4 x10 x11 =
 optK (bin2 Tryd.prog .neq 3 x10 x11) fun v20n3 =>
 ifV v20n3 (
  optK (bin2 Tryd.prog .gtr 3 x10 x11) fun v23n4 =>
  ifV v23n4 (
   optK (bin2 Tryd.prog .sub 3 x2 x10) fun v27n5 =>
   (inside (evCall2 Tryd.prog gt lf d 78 #[x0, v27n5, x2, x11, x4])).bind fun v31n6 =>
   optK (bin2 Tryd.prog .sub 3 x10 x11) fun v34n7 =>
   lpA_slices_rotateCmpFunc_int lf d fu k x0 x1 x2 x3 x4 v34n7 x11) (
   optK (bin2 Tryd.prog .sub 3 x2 x10) fun v38n8 =>
   optK (bin2 Tryd.prog .add 3 x2 x11) fun v41n9 =>
   optK (bin2 Tryd.prog .sub 3 v41n9 x10) fun v43n10 =>
   (inside (evCall2 Tryd.prog gt lf d 78 #[x0, v38n8, v43n10, x10, x4])).bind fun v46n11 =>
   optK (bin2 Tryd.prog .sub 3 x11 x10) fun v49n12 =>
   lpA_slices_rotateCmpFunc_int lf d fu k x0 x1 x2 x3 x4 x10 v49n12)) (
  k (Ex.exit 0) [(0, x0), (1, x1), (2, x2), (3, x3), (4, x4), (10, x10), (11, x11), (20, v20n3)]) := by kernel_rfl
theorem kcAa_slices_rotateCmpFunc_int (lf d : Nat) (y0 y1 y2 y3 y4 y10 y11 y20 : Value) : kcA_slices_rotateCmpFunc_int lf d (Ex.exit 0) [(0, y0), (1, y1), (2, y2), (3, y3), (4, y4), (10, y10), (11, y11), (20, y20)] =
 optK (bin2 Tryd.prog .sub 3 y2 y10) fun v53n13 =>
 (inside (evCall2 Tryd.prog gt lf d 78 #[y0, v53n13, y2, y10, y4])).bind fun v57n14 =>
 outK [] := by kernel_rfl

noncomputable def lpA_slices_swapRangeCmpFunc_int (lf d fu : Nat) (k : Ex → Fr → M Value) (x0 x1 x2 x3 x10 : Value) : M Value := loopK (fun s1 k1 => codeK Tryd.prog (evCall2 Tryd.prog gt lf d) (gt 78) lf (codeAt (bodyOf Tryd.prog 78) [true, false, false]) s1 k1) [0, 1, 2, 3, 10] fu [(0, x0), (1, x1), (2, x2), (3, x3), (10, x10)] k
noncomputable def kcA_slices_swapRangeCmpFunc_int (lf d : Nat) : Ex → Fr → M Value := contAt Tryd.prog (evCall2 Tryd.prog gt lf d) (gt 78) lf (bodyOf Tryd.prog 78) [true, false] (endK Tryd.prog (resOf Tryd.prog 78))
noncomputable def b_slices_swapRangeCmpFunc_int (lf d : Nat) (a0 a1 a2 a3 a4 : Value) : M Value :=
 lpA_slices_swapRangeCmpFunc_int lf d lf (kcA_slices_swapRangeCmpFunc_int lf d) a0 a1 a2 a3 (Value.int .i64 0)
theorem sh_slices_swapRangeCmpFunc_int (lf d : Nat) (a0 a1 a2 a3 a4 : Value) : evCall2 Tryd.prog gt lf (d + 1) 78 #[a0, a1, a2, a3, a4] = inside (b_slices_swapRangeCmpFunc_int lf d a0 a1 a2 a3 a4) := by kernel_rfl
theorem succA_slices_swapRangeCmpFunc_int (lf d fu : Nat) (k : Ex → Fr → M Value) (x0 x1 x2 x3 x10 : Value) : lpA_slices_swapRangeCmpFunc_int lf d (fu + 1) k x0 x1 x2 x3 x10 =
 optK (bin2 Tryd.prog .lss 3 x10 x3) fun v13n1 =>
 ifV v13n1 (
  optK (bin2 Tryd.prog .add 3 x1 x10) fun v19n2 =>
  optK (bin2 Tryd.prog .add 3 x2 x10) fun v23n3 =>
  optK (bin2 Tryd.prog .add 3 x2 x10) fun v27n4 =>
  optK (evIndexAddr Tryd.prog 22 x0 v27n4) fun v28n5 =>
  (inside (evLoad Tryd.prog 3 v28n5)).bind fun v29n6 =>
  optK (bin2 Tryd.prog .add 3 x1 x10) fun v33n7 =>
  optK (evIndexAddr Tryd.prog 22 x0 v33n7) fun v34n8 =>
  (inside (evLoad Tryd.prog 3 v34n8)).bind fun v35n9 =>
  optK (evIndexAddr Tryd.prog 22 x0 v19n2) fun v36n10 =>
  (inside (evStore Tryd.prog 3 v36n10 v29n6)).bind fun u11 =>
  optK (evIndexAddr Tryd.prog 22 x0 v23n3) fun v37n12 =>
  (inside (evStore Tryd.prog 3 v37n12 v35n9)).bind fun u13 =>
  optK (bin2 Tryd.prog .add 3 x10 (Value.int .i64 1)) fun v15n14 =>
  lpA_slices_swapRangeCmpFunc_int lf d fu k x0 x1 x2 x3 v15n14) (
  k (Ex.exit 0) [(0, x0), (1, x1), (2, x2), (3, x3), (10, x10), (13, v13n1)]) := by kernel_rfl
theorem kcAa_slices_swapRangeCmpFunc_int (lf d : Nat) (y0 y1 y2 y3 y10 y13 : Value) : kcA_slices_swapRangeCmpFunc_int lf d (Ex.exit 0) [(0, y0), (1, y1), (2, y2), (3, y3), (10, y10), (13, y13)] =
 outK [] := by kernel_rfl

end Go.Proofs.YtdagfcflbphoiaaDoor

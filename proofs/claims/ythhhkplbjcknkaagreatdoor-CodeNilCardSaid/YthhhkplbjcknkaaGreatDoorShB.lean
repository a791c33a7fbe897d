/- What the evaluators second form makes of the functions that the small statements of layers 14 and 21 reach. -/
import Derived.Test.YthhhkplbjcknkaaGreatDoorRows
import Derived.Test.YthhhkplbjcknkaaGreatDoorEvX
namespace Go.Proofs.YthhhkplbjcknkaaGreatDoor
set_option linter.unusedVariables false
set_option linter.unusedSimpArgs false
open Go.RowKit Ev
def gtL : List (List Nat) := [[], [], [], [0, 1, 3, 4, 5, 6, 7, 8, 9, 11, 13], [0, 1, 2, 6, 7, 10], [], [], [], [0, 2, 3, 4, 5, 12], [0, 1, 2, 6, 7, 8, 9, 10, 11, 13, 24, 35], [0, 1, 4, 5, 6, 7, 8, 9, 22, 34, 43, 64, 68], [0, 2], [0, 1, 2, 6, 7, 8, 9, 11, 12, 14, 15, 17, 25, 35, 36, 37, 38, 54, 55, 56, 57], [0, 2], [0, 2, 4], [0, 2, 4], [], [], [0, 1, 2, 6, 7, 8, 9, 17, 25], [0, 1, 2, 3, 8, 9, 18], [0, 2, 10], [0, 2, 4], [0, 2, 4], [], [], [], [], [], [], [], [], [], [], [], [], [], [], [0, 2, 3, 6], [0], [], [], [], [], [], [], [], [], [], [], [], [], [], [0, 2, 4], [], [], [], [], [], [], [], [], [], [0, 1], [], [], [], [], [], [], [], [], [], [], [], [], [], [], [], [], [0, 2], [0, 1, 2, 3, 4], [], [], [], [], [], [], [], [], [], [], [], [], [], [], [0, 2, 4], [], [], [], [], [], [], [], [], [], [], [], [], [], [], [], [], [], [], [], [], [], [], [], [], [], [], [], [], [], [], [], [], [], [], [], [], [], [], [], [], [], [], [], [], [], [], [], [], [], [], [], [], [], [], [], [], [], [], [], [], [], [], [], [], [], [], [], [], [], [], [], [], [], [], [], [], [], [], [], [], [], [], [], [], [], [], [], [], [], [], [], [], [], [], [], [], [], [], [], [], [], [], [], [], [], [], [], [], [], [], [], [], [], [], [], [], [], [], [], [], [], [], [], [], [], [], [], [], [], [], [], [], [], [], [], [], [], [], [], [], [], [], [], [], [], [], [], [], [], [], [], [], [], [], [], [], [], [], [], [], [], [], [], [], [], [], [], [], [], [], [], [], [], [], [], [], [], [], [], [], [], [], [], [], [], [], [], [], [], [], [], [], [], [], [], [], [], [], [], [], [], [], [], [], [], [], [], [], [], [], []]
def gt (f : Nat) : List Nat := gtL.getD f []
theorem okd : okDsts Tryz.prog = true := by kernel_rfl
theorem sz23 : size? Tryz.prog 23 = some 2 := by kernel_rfl
theorem sz3 : size? Tryz.prog 3 = some 1 := by kernel_rfl
theorem ia23 (b off : Nat) (k : IntKind) (i : Int) (h0 : 0 ≤ i) (h1 : i < 2) : evIndexAddr Tryz.prog 23 (.pointer (some ⟨b, off, none⟩)) (.int k i) = some (.pointer (some ⟨b, off + i.toNat, none⟩)) := (ix_arr Tryz.underlying23 sz3 b off k i h0 h1).trans (by rw [Nat.mul_one])
theorem ag3 : agg? Tryz.prog 3 = some false := by kernel_rfl
theorem ldr3 {β : Type} {W : Nat → Prop} {n0 : Nat} {h : H} {n : Nat} {Q : β → H → Nat → Prop} (b off : Nat) (k : Value → M β) (hb : b < n) : Run W n0 ((inside (evLoad Tryz.prog 3 (.pointer (some ⟨b, off, none⟩)))).bind k) h n Q ↔ optG (h.get b) fun B => Run W n0 (optK (B.cells[off]?) k) h n Q := ld_iff ag3 b off k hb
theorem nt25 : isNilT Tryz.prog 25 = false := by kernel_rfl
theorem beql25 (a b : Int) : bin2 Tryz.prog .eql 25 (.int .i64 a) (.int .i64 b) = some (.bool (a == b)) := b_eql nt25 a b
theorem len22 (a : Option Addr) (n c : Nat) : len2 Tryz.prog #[22] [.slice a n c] = some (.int .i64 n) := len_slice Tryz.underlying22 a n c
theorem nt3 : isNilT Tryz.prog 3 = false := by kernel_rfl
theorem beql3 (a b : Int) : bin2 Tryz.prog .eql 3 (.int .i64 a) (.int .i64 b) = some (.bool (a == b)) := b_eql nt3 a b
theorem len9 (s : List UInt8) : len2 Tryz.prog #[9] [.string ⟨s.toArray⟩] = some (.int .i64 s.length) := len_strL Tryz.underlying9 s
theorem bgtr3 (a b : Int) : bin2 Tryz.prog .gtr 3 (.int .i64 a) (.int .i64 b) = some (.bool (decide (b < a))) := b_gtr nt3 a b
theorem nt9 : isNilT Tryz.prog 9 = false := by kernel_rfl
theorem beql9 (a b : List UInt8) : bin2 Tryz.prog .eql 9 (.string ⟨a.toArray⟩) (.string ⟨b.toArray⟩) = some (.bool (decide (a = b))) := b_eqlS nt9 a b
theorem bneq25 (a b : Int) : bin2 Tryz.prog .neq 25 (.int .i64 a) (.int .i64 b) = some (.bool (a != b)) := b_neq nt25 a b
theorem bd66x0x1x3 (v0 : Int) (v1 : Option Addr) (v3 : Option Addr) : evBuild Tryz.prog 66 [(0, (Value.int .i64 v0)), (1, (Value.pointer v1)), (3, (Value.pointer v3))] = M.ret (.agg #[(Value.int .i64 v0), (Value.pointer v1), (Go.Value.slice none 0 0), (Value.pointer v3), (Go.Value.slice none 0 0), (Go.Value.int Go.IntKind.i64 0), (Go.Value.bool false), (Go.Value.int Go.IntKind.i64 0)]) := by kernel_rfl
theorem sz66 : size? Tryz.prog 66 = some 8 := by kernel_rfl
theorem beql32s (a : Addr) : bin2 Tryz.prog .eql 32 (.pointer (some a)) (.pointer none) = some (.bool false) := by kernel_rfl
theorem beql32n : bin2 Tryz.prog .eql 32 (.pointer none) (.pointer none) = some (.bool true) := by kernel_rfl
theorem blss3 (a b : Int) : bin2 Tryz.prog .lss 3 (.int .i64 a) (.int .i64 b) = some (.bool (decide (a < b))) := b_lss nt3 a b
theorem beql24s (a : Addr) : bin2 Tryz.prog .eql 24 (.pointer (some a)) (.pointer none) = some (.bool false) := by kernel_rfl
theorem beql24n : bin2 Tryz.prog .eql 24 (.pointer none) (.pointer none) = some (.bool true) := by kernel_rfl
theorem fa66f6 (b off : Nat) : evFieldAddr Tryz.prog 66 (.pointer (some ⟨b, off, none⟩)) 6 = some (.pointer (some ⟨b, off + 6, none⟩)) := by kernel_rfl
theorem ag4 : agg? Tryz.prog 4 = some false := by kernel_rfl
theorem ldr4 {β : Type} {W : Nat → Prop} {n0 : Nat} {h : H} {n : Nat} {Q : β → H → Nat → Prop} (b off : Nat) (k : Value → M β) (hb : b < n) : Run W n0 ((inside (evLoad Tryz.prog 4 (.pointer (some ⟨b, off, none⟩)))).bind k) h n Q ↔ optG (h.get b) fun B => Run W n0 (optK (B.cells[off]?) k) h n Q := ld_iff ag4 b off k hb
theorem fa66f7 (b off : Nat) : evFieldAddr Tryz.prog 66 (.pointer (some ⟨b, off, none⟩)) 7 = some (.pointer (some ⟨b, off + 7, none⟩)) := by kernel_rfl
theorem ag25 : agg? Tryz.prog 25 = some false := by kernel_rfl
theorem ldr25 {β : Type} {W : Nat → Prop} {n0 : Nat} {h : H} {n : Nat} {Q : β → H → Nat → Prop} (b off : Nat) (k : Value → M β) (hb : b < n) : Run W n0 ((inside (evLoad Tryz.prog 25 (.pointer (some ⟨b, off, none⟩)))).bind k) h n Q ↔ optG (h.get b) fun B => Run W n0 (optK (B.cells[off]?) k) h n Q := ld_iff ag25 b off k hb
theorem fa66f1 (b off : Nat) : evFieldAddr Tryz.prog 66 (.pointer (some ⟨b, off, none⟩)) 1 = some (.pointer (some ⟨b, off + 1, none⟩)) := by kernel_rfl
theorem ag62 : agg? Tryz.prog 62 = some false := by kernel_rfl
theorem ldr62 {β : Type} {W : Nat → Prop} {n0 : Nat} {h : H} {n : Nat} {Q : β → H → Nat → Prop} (b off : Nat) (k : Value → M β) (hb : b < n) : Run W n0 ((inside (evLoad Tryz.prog 62 (.pointer (some ⟨b, off, none⟩)))).bind k) h n Q ↔ optG (h.get b) fun B => Run W n0 (optK (B.cells[off]?) k) h n Q := ld_iff ag62 b off k hb
theorem fa66f4 (b off : Nat) : evFieldAddr Tryz.prog 66 (.pointer (some ⟨b, off, none⟩)) 4 = some (.pointer (some ⟨b, off + 4, none⟩)) := by kernel_rfl
theorem ag64 : agg? Tryz.prog 64 = some false := by kernel_rfl
theorem ldr64 {β : Type} {W : Nat → Prop} {n0 : Nat} {h : H} {n : Nat} {Q : β → H → Nat → Prop} (b off : Nat) (k : Value → M β) (hb : b < n) : Run W n0 ((inside (evLoad Tryz.prog 64 (.pointer (some ⟨b, off, none⟩)))).bind k) h n Q ↔ optG (h.get b) fun B => Run W n0 (optK (B.cells[off]?) k) h n Q := ld_iff ag64 b off k hb
theorem len64 (a : Option Addr) (n c : Nat) : len2 Tryz.prog #[64] [.slice a n c] = some (.int .i64 n) := len_slice Tryz.underlying64 a n c
theorem sz25 : size? Tryz.prog 25 = some 1 := by kernel_rfl
theorem str25 {β : Type} {W : Nat → Prop} {n0 : Nat} {h : H} {n : Nat} {Q : β → H → Nat → Prop} (b off : Nat) (v : Value) (k : Value → M β) (hb : b < n) (h1 : one v = true) : Run W n0 ((inside (evStore Tryz.prog 25 (.pointer (some ⟨b, off, none⟩)) v)).bind k) h n Q ↔ optG (h.get b) fun B => B.own = true ∧ off < B.cells.length ∧ (n0 ≤ b ∨ W b) ∧ Run W n0 (k undef) (h.set b (some ⟨B.elem, B.own, B.cells.set off v⟩)) n Q := st_iff sz25 b off v k hb h1
theorem bd70x0 (v0 : ByteArray) : evBuild Tryz.prog 70 [(0, (Value.string v0))] = M.ret (.agg #[(Value.string v0), (Go.Value.int Go.IntKind.i64 0), (Go.Value.int Go.IntKind.i64 0)]) := by kernel_rfl
theorem sz70 : size? Tryz.prog 70 = some 3 := by kernel_rfl
theorem beql71s (a : Addr) : bin2 Tryz.prog .eql 71 (.pointer (some a)) (.pointer none) = some (.bool false) := by kernel_rfl
theorem beql71n : bin2 Tryz.prog .eql 71 (.pointer none) (.pointer none) = some (.bool true) := by kernel_rfl
theorem zr74 : zero? Tryz.prog 74 = some (Go.Value.agg #[(Go.Value.slice none 0 0), (Go.Value.slice none 0 0)]) := by kernel_rfl
theorem sz74 : size? Tryz.prog 74 = some 2 := by kernel_rfl
theorem fa74f1 (b off : Nat) : evFieldAddr Tryz.prog 74 (.pointer (some ⟨b, off, none⟩)) 1 = some (.pointer (some ⟨b, off + 1, none⟩)) := by kernel_rfl
theorem ag22 : agg? Tryz.prog 22 = some false := by kernel_rfl
theorem ldr22 {β : Type} {W : Nat → Prop} {n0 : Nat} {h : H} {n : Nat} {Q : β → H → Nat → Prop} (b off : Nat) (k : Value → M β) (hb : b < n) : Run W n0 ((inside (evLoad Tryz.prog 22 (.pointer (some ⟨b, off, none⟩)))).bind k) h n Q ↔ optG (h.get b) fun B => Run W n0 (optK (B.cells[off]?) k) h n Q := ld_iff ag22 b off k hb
theorem fa74f0 (b off : Nat) : evFieldAddr Tryz.prog 74 (.pointer (some ⟨b, off, none⟩)) 0 = some (.pointer (some ⟨b, off + 0, none⟩)) := by kernel_rfl
theorem ag72 : agg? Tryz.prog 72 = some false := by kernel_rfl
theorem ldr72 {β : Type} {W : Nat → Prop} {n0 : Nat} {h : H} {n : Nat} {Q : β → H → Nat → Prop} (b off : Nat) (k : Value → M β) (hb : b < n) : Run W n0 ((inside (evLoad Tryz.prog 72 (.pointer (some ⟨b, off, none⟩)))).bind k) h n Q ↔ optG (h.get b) fun B => Run W n0 (optK (B.cells[off]?) k) h n Q := ld_iff ag72 b off k hb
theorem len72 (a : Option Addr) (n c : Nat) : len2 Tryz.prog #[72] [.slice a n c] = some (.int .i64 n) := len_slice Tryz.underlying72 a n c
theorem sz22 : size? Tryz.prog 22 = some 1 := by kernel_rfl
theorem ix72 (b off n c : Nat) (k : IntKind) (i : Int) (h0 : 0 ≤ i) (h1 : i < n) : evIndexAddr Tryz.prog 72 (.slice (some ⟨b, off, none⟩) n c) (.int k i) = some (.pointer (some ⟨b, off + i.toNat, none⟩)) := (ix_slice Tryz.underlying72 sz22 b off n c k i h0 h1).trans (by rw [Nat.mul_one])
theorem c1x64 : Cell1 Tryz.prog 64 78 (Go.Value.pointer none) := ⟨Tryz.underlying64, ⟨Tryz.t78, by kernel_rfl, by kernel_rfl, by decide⟩, by kernel_rfl, by kernel_rfl⟩
theorem ns64 : isStrT Tryz.prog 64 = false := by kernel_rfl
theorem badd3 (a b : Int) : bin2 Tryz.prog .add 3 (.int .i64 a) (.int .i64 b) = some (.int .i64 (IntKind.i64.wrap (a + b))) := b_add nt3 a b
theorem ix22 (b off n c : Nat) (k : IntKind) (i : Int) (h0 : 0 ≤ i) (h1 : i < n) : evIndexAddr Tryz.prog 22 (.slice (some ⟨b, off, none⟩) n c) (.int k i) = some (.pointer (some ⟨b, off + i.toNat, none⟩)) := (ix_slice Tryz.underlying22 sz3 b off n c k i h0 h1).trans (by rw [Nat.mul_one])
theorem bquo3 (a b : Int) (h0 : b ≠ 0) : bin2 Tryz.prog .quo 3 (.int .i64 a) (.int .i64 b) = some (.int .i64 (IntKind.i64.wrap (a.tdiv b))) := b_quo nt3 a b h0
theorem sz78 : size? Tryz.prog 78 = some 1 := by kernel_rfl
theorem ix64 (b off n c : Nat) (k : IntKind) (i : Int) (h0 : 0 ≤ i) (h1 : i < n) : evIndexAddr Tryz.prog 64 (.slice (some ⟨b, off, none⟩) n c) (.int k i) = some (.pointer (some ⟨b, off + i.toNat, none⟩)) := (ix_slice Tryz.underlying64 sz78 b off n c k i h0 h1).trans (by rw [Nat.mul_one])
theorem ag78 : agg? Tryz.prog 78 = some false := by kernel_rfl
theorem ldr78 {β : Type} {W : Nat → Prop} {n0 : Nat} {h : H} {n : Nat} {Q : β → H → Nat → Prop} (b off : Nat) (k : Value → M β) (hb : b < n) : Run W n0 ((inside (evLoad Tryz.prog 78 (.pointer (some ⟨b, off, none⟩)))).bind k) h n Q ↔ optG (h.get b) fun B => Run W n0 (optK (B.cells[off]?) k) h n Q := ld_iff ag78 b off k hb
theorem bneq24s (a : Addr) : bin2 Tryz.prog .neq 24 (.pointer (some a)) (.pointer none) = some (.bool true) := by kernel_rfl
theorem bneq24n : bin2 Tryz.prog .neq 24 (.pointer none) (.pointer none) = some (.bool false) := by kernel_rfl
theorem fa66f5 (b off : Nat) : evFieldAddr Tryz.prog 66 (.pointer (some ⟨b, off, none⟩)) 5 = some (.pointer (some ⟨b, off + 5, none⟩)) := by kernel_rfl
theorem fa66f0 (b off : Nat) : evFieldAddr Tryz.prog 66 (.pointer (some ⟨b, off, none⟩)) 0 = some (.pointer (some ⟨b, off + 0, none⟩)) := by kernel_rfl
theorem bmul3 (a b : Int) : bin2 Tryz.prog .mul 3 (.int .i64 a) (.int .i64 b) = some (.int .i64 (IntKind.i64.wrap (a * b))) := b_mul nt3 a b
theorem beql39s (a : Addr) : bin2 Tryz.prog .eql 39 (.pointer (some a)) (.pointer none) = some (.bool false) := by kernel_rfl
theorem beql39n : bin2 Tryz.prog .eql 39 (.pointer none) (.pointer none) = some (.bool true) := by kernel_rfl
theorem fa89f2 (b off : Nat) : evFieldAddr Tryz.prog 89 (.pointer (some ⟨b, off, none⟩)) 2 = some (.pointer (some ⟨b, off + 2, none⟩)) := by kernel_rfl
theorem bgeq3 (a b : Int) : bin2 Tryz.prog .geq 3 (.int .i64 a) (.int .i64 b) = some (.bool (decide (b ≤ a))) := b_geq nt3 a b
theorem fa89f1 (b off : Nat) : evFieldAddr Tryz.prog 89 (.pointer (some ⟨b, off, none⟩)) 1 = some (.pointer (some ⟨b, off + 1, none⟩)) := by kernel_rfl
theorem ag38 : agg? Tryz.prog 38 = some false := by kernel_rfl
theorem ldr38 {β : Type} {W : Nat → Prop} {n0 : Nat} {h : H} {n : Nat} {Q : β → H → Nat → Prop} (b off : Nat) (k : Value → M β) (hb : b < n) : Run W n0 ((inside (evLoad Tryz.prog 38 (.pointer (some ⟨b, off, none⟩)))).bind k) h n Q ↔ optG (h.get b) fun B => Run W n0 (optK (B.cells[off]?) k) h n Q := ld_iff ag38 b off k hb
theorem sz38 : size? Tryz.prog 38 = some 1 := by kernel_rfl
theorem str38 {β : Type} {W : Nat → Prop} {n0 : Nat} {h : H} {n : Nat} {Q : β → H → Nat → Prop} (b off : Nat) (v : Value) (k : Value → M β) (hb : b < n) (h1 : one v = true) : Run W n0 ((inside (evStore Tryz.prog 38 (.pointer (some ⟨b, off, none⟩)) v)).bind k) h n Q ↔ optG (h.get b) fun B => B.own = true ∧ off < B.cells.length ∧ (n0 ≤ b ∨ W b) ∧ Run W n0 (k undef) (h.set b (some ⟨B.elem, B.own, B.cells.set off v⟩)) n Q := st_iff sz38 b off v k hb h1
theorem fa89f0 (b off : Nat) : evFieldAddr Tryz.prog 89 (.pointer (some ⟨b, off, none⟩)) 0 = some (.pointer (some ⟨b, off + 0, none⟩)) := by kernel_rfl
theorem ag71 : agg? Tryz.prog 71 = some false := by kernel_rfl
theorem ldr71 {β : Type} {W : Nat → Prop} {n0 : Nat} {h : H} {n : Nat} {Q : β → H → Nat → Prop} (b off : Nat) (k : Value → M β) (hb : b < n) : Run W n0 ((inside (evLoad Tryz.prog 71 (.pointer (some ⟨b, off, none⟩)))).bind k) h n Q ↔ optG (h.get b) fun B => Run W n0 (optK (B.cells[off]?) k) h n Q := ld_iff ag71 b off k hb
theorem sz4 : size? Tryz.prog 4 = some 1 := by kernel_rfl
theorem str4 {β : Type} {W : Nat → Prop} {n0 : Nat} {h : H} {n : Nat} {Q : β → H → Nat → Prop} (b off : Nat) (v : Value) (k : Value → M β) (hb : b < n) (h1 : one v = true) : Run W n0 ((inside (evStore Tryz.prog 4 (.pointer (some ⟨b, off, none⟩)) v)).bind k) h n Q ↔ optG (h.get b) fun B => B.own = true ∧ off < B.cells.length ∧ (n0 ≤ b ∨ W b) ∧ Run W n0 (k undef) (h.set b (some ⟨B.elem, B.own, B.cells.set off v⟩)) n Q := st_iff sz4 b off v k hb h1
theorem bd113x0 (v0 : Int) : evBuild Tryz.prog 113 [(0, (Value.int .i64 v0))] = M.ret (.agg #[(Value.int .i64 v0), (Go.Value.int Go.IntKind.i64 0), (Go.Value.slice none 0 0), (Go.Value.bool false)]) := by kernel_rfl
theorem sz113 : size? Tryz.prog 113 = some 4 := by kernel_rfl
theorem bd118x2 (v2f0 : Int) (v2f1 : Int) (v2f2 : Int) (v2f3 : Int) (v2f4 : Int) (v2f5 : Int) : evBuild Tryz.prog 118 [(2, (Value.agg #[(Value.int .i64 v2f0), (Value.int .i64 v2f1), (Value.int .i64 v2f2), (Value.int .i64 v2f3), (Value.int .i64 v2f4), (Value.int .i64 v2f5)]))] = M.ret (.agg #[(Go.Value.int Go.IntKind.i64 0), (Go.Value.int Go.IntKind.i64 0), (Value.int .i64 v2f0), (Value.int .i64 v2f1), (Value.int .i64 v2f2), (Value.int .i64 v2f3), (Value.int .i64 v2f4), (Value.int .i64 v2f5), (Go.Value.slice none 0 0), (Go.Value.bool false)]) := by kernel_rfl
theorem sz118 : size? Tryz.prog 118 = some 10 := by kernel_rfl
theorem beql62s (a : Addr) : bin2 Tryz.prog .eql 62 (.pointer (some a)) (.pointer none) = some (.bool false) := by kernel_rfl
theorem beql62n : bin2 Tryz.prog .eql 62 (.pointer none) (.pointer none) = some (.bool true) := by kernel_rfl
theorem fa118f3 (b off : Nat) : evFieldAddr Tryz.prog 118 (.pointer (some ⟨b, off, none⟩)) 3 = some (.pointer (some ⟨b, off + 8, none⟩)) := by kernel_rfl
theorem nt93 : isNilT Tryz.prog 93 = false := by kernel_rfl
theorem bshr93 {k' : IntKind} (a b : Int) (h0 : 0 ≤ b) : bin2 Tryz.prog .shr 93 (.int .u64 a) (.int k' b) = some (.int .u64 (a.fdiv (2 ^ (min b.toNat (IntKind.u64).bits)))) := b_shr nt93 a b h0
theorem cv93x38 {β : Type} (x : Int) (k : Value → M β) : conv2 Tryz.prog 93 38 (.int .u64 x) k = k (.int .u32 (IntKind.u32.wrap x)) := by kernel_rfl
theorem band93 (a b : Int) : bin2 Tryz.prog .and 93 (.int .u64 a) (.int .u64 b) = some (.int .u64 (IntKind.u64.wrap (BitVec.ofInt (IntKind.u64).bits a &&& BitVec.ofInt (IntKind.u64).bits b).toNat)) := b_and nt93 a b
theorem bleq3 (a b : Int) : bin2 Tryz.prog .leq 3 (.int .i64 a) (.int .i64 b) = some (.bool (decide (a ≤ b))) := b_leq nt3 a b
theorem zr115 : zero? Tryz.prog 115 = some (Go.Value.agg #[(Go.Value.int Go.IntKind.i64 0), (Go.Value.int Go.IntKind.i64 0), (Go.Value.int Go.IntKind.i64 0), (Go.Value.int Go.IntKind.i64 0), (Go.Value.int Go.IntKind.i64 0), (Go.Value.int Go.IntKind.i64 0)]) := by kernel_rfl
theorem ia115 (b off : Nat) (k : IntKind) (i : Int) (h0 : 0 ≤ i) (h1 : i < 6) : evIndexAddr Tryz.prog 115 (.pointer (some ⟨b, off, none⟩)) (.int k i) = some (.pointer (some ⟨b, off + i.toNat, none⟩)) := (ix_arr Tryz.underlying115 sz3 b off k i h0 h1).trans (by rw [Nat.mul_one])
theorem str3 {β : Type} {W : Nat → Prop} {n0 : Nat} {h : H} {n : Nat} {Q : β → H → Nat → Prop} (b off : Nat) (v : Value) (k : Value → M β) (hb : b < n) (h1 : one v = true) : Run W n0 ((inside (evStore Tryz.prog 3 (.pointer (some ⟨b, off, none⟩)) v)).bind k) h n Q ↔ optG (h.get b) fun B => B.own = true ∧ off < B.cells.length ∧ (n0 ≤ b ∨ W b) ∧ Run W n0 (k undef) (h.set b (some ⟨B.elem, B.own, B.cells.set off v⟩)) n Q := st_iff sz3 b off v k hb h1
theorem aga115 : agg? Tryz.prog 115 = some true := by kernel_rfl
theorem sz115 : size? Tryz.prog 115 = some 6 := by kernel_rfl
theorem beql22s (a : Addr) (n c : Nat) : bin2 Tryz.prog .eql 22 (.slice (some a) n c) (.slice none 0 0) = some (.bool false) := by kernel_rfl
theorem beql22n (n c : Nat) : bin2 Tryz.prog .eql 22 (.slice none n c) (.slice none 0 0) = some (.bool true) := by kernel_rfl
theorem c1x22 : Cell1 Tryz.prog 22 3 (Go.Value.int Go.IntKind.i64 0) := ⟨Tryz.underlying22, ⟨Tryz.t3, by kernel_rfl, by kernel_rfl, by decide⟩, by kernel_rfl, by kernel_rfl⟩
theorem ns22 : isStrT Tryz.prog 22 = false := by kernel_rfl
theorem FX1 : (∀ (b off : Nat) (k : IntKind) (i : Int) (h0 : 0 ≤ i) (h1 : i < 2), evIndexAddr Tryz.prog 23 (.pointer (some ⟨b, off, none⟩)) (.int k i) = some (.pointer (some ⟨b, off + i.toNat, none⟩))) ∧ (∀ {β : Type} {W : Nat → Prop} {n0 : Nat} {h : H} {n : Nat} {Q : β → H → Nat → Prop} (b off : Nat) (k : Value → M β) (hb : b < n), Run W n0 ((inside (evLoad Tryz.prog 3 (.pointer (some ⟨b, off, none⟩)))).bind k) h n Q ↔ optG (h.get b) fun B => Run W n0 (optK (B.cells[off]?) k) h n Q) ∧ (∀ (a b : Int), bin2 Tryz.prog .eql 25 (.int .i64 a) (.int .i64 b) = some (.bool (a == b))) ∧ (∀ (a : Option Addr) (n c : Nat), len2 Tryz.prog #[22] [.slice a n c] = some (.int .i64 n)) ∧ (∀ (a b : Int), bin2 Tryz.prog .eql 3 (.int .i64 a) (.int .i64 b) = some (.bool (a == b))) ∧ (∀ (s : List UInt8), len2 Tryz.prog #[9] [.string ⟨s.toArray⟩] = some (.int .i64 s.length)) ∧ (∀ (a b : Int), bin2 Tryz.prog .gtr 3 (.int .i64 a) (.int .i64 b) = some (.bool (decide (b < a)))) ∧ (∀ (a b : List UInt8), bin2 Tryz.prog .eql 9 (.string ⟨a.toArray⟩) (.string ⟨b.toArray⟩) = some (.bool (decide (a = b)))) ∧ (∀ (a b : Int), bin2 Tryz.prog .neq 25 (.int .i64 a) (.int .i64 b) = some (.bool (a != b))) ∧ (∀ (v0 : Int) (v1 : Option Addr) (v3 : Option Addr), evBuild Tryz.prog 66 [(0, (Value.int .i64 v0)), (1, (Value.pointer v1)), (3, (Value.pointer v3))] = M.ret (.agg #[(Value.int .i64 v0), (Value.pointer v1), (Go.Value.slice none 0 0), (Value.pointer v3), (Go.Value.slice none 0 0), (Go.Value.int Go.IntKind.i64 0), (Go.Value.bool false), (Go.Value.int Go.IntKind.i64 0)])) ∧ (∀ (a : Addr), bin2 Tryz.prog .eql 32 (.pointer (some a)) (.pointer none) = some (.bool false)) ∧ (bin2 Tryz.prog .eql 32 (.pointer none) (.pointer none) = some (.bool true)) ∧ (∀ (a b : Int), bin2 Tryz.prog .lss 3 (.int .i64 a) (.int .i64 b) = some (.bool (decide (a < b)))) ∧ (∀ (a : Addr), bin2 Tryz.prog .eql 24 (.pointer (some a)) (.pointer none) = some (.bool false)) ∧ (bin2 Tryz.prog .eql 24 (.pointer none) (.pointer none) = some (.bool true)) ∧ (∀ (b off : Nat), evFieldAddr Tryz.prog 66 (.pointer (some ⟨b, off, none⟩)) 6 = some (.pointer (some ⟨b, off + 6, none⟩))) ∧ (∀ {β : Type} {W : Nat → Prop} {n0 : Nat} {h : H} {n : Nat} {Q : β → H → Nat → Prop} (b off : Nat) (k : Value → M β) (hb : b < n), Run W n0 ((inside (evLoad Tryz.prog 4 (.pointer (some ⟨b, off, none⟩)))).bind k) h n Q ↔ optG (h.get b) fun B => Run W n0 (optK (B.cells[off]?) k) h n Q) ∧ (∀ (b off : Nat), evFieldAddr Tryz.prog 66 (.pointer (some ⟨b, off, none⟩)) 7 = some (.pointer (some ⟨b, off + 7, none⟩))) ∧ (∀ {β : Type} {W : Nat → Prop} {n0 : Nat} {h : H} {n : Nat} {Q : β → H → Nat → Prop} (b off : Nat) (k : Value → M β) (hb : b < n), Run W n0 ((inside (evLoad Tryz.prog 25 (.pointer (some ⟨b, off, none⟩)))).bind k) h n Q ↔ optG (h.get b) fun B => Run W n0 (optK (B.cells[off]?) k) h n Q) ∧ (∀ (b off : Nat), evFieldAddr Tryz.prog 66 (.pointer (some ⟨b, off, none⟩)) 1 = some (.pointer (some ⟨b, off + 1, none⟩))) ∧ (∀ {β : Type} {W : Nat → Prop} {n0 : Nat} {h : H} {n : Nat} {Q : β → H → Nat → Prop} (b off : Nat) (k : Value → M β) (hb : b < n), Run W n0 ((inside (evLoad Tryz.prog 62 (.pointer (some ⟨b, off, none⟩)))).bind k) h n Q ↔ optG (h.get b) fun B => Run W n0 (optK (B.cells[off]?) k) h n Q) ∧ (∀ (b off : Nat), evFieldAddr Tryz.prog 66 (.pointer (some ⟨b, off, none⟩)) 4 = some (.pointer (some ⟨b, off + 4, none⟩))) ∧ (∀ {β : Type} {W : Nat → Prop} {n0 : Nat} {h : H} {n : Nat} {Q : β → H → Nat → Prop} (b off : Nat) (k : Value → M β) (hb : b < n), Run W n0 ((inside (evLoad Tryz.prog 64 (.pointer (some ⟨b, off, none⟩)))).bind k) h n Q ↔ optG (h.get b) fun B => Run W n0 (optK (B.cells[off]?) k) h n Q) ∧ (∀ (a : Option Addr) (n c : Nat), len2 Tryz.prog #[64] [.slice a n c] = some (.int .i64 n)) ∧ (∀ {β : Type} {W : Nat → Prop} {n0 : Nat} {h : H} {n : Nat} {Q : β → H → Nat → Prop} (b off : Nat) (v : Value) (k : Value → M β) (hb : b < n) (h1 : one v = true), Run W n0 ((inside (evStore Tryz.prog 25 (.pointer (some ⟨b, off, none⟩)) v)).bind k) h n Q ↔ optG (h.get b) fun B => B.own = true ∧ off < B.cells.length ∧ (n0 ≤ b ∨ W b) ∧ Run W n0 (k undef) (h.set b (some ⟨B.elem, B.own, B.cells.set off v⟩)) n Q) ∧ (∀ (v0 : ByteArray), evBuild Tryz.prog 70 [(0, (Value.string v0))] = M.ret (.agg #[(Value.string v0), (Go.Value.int Go.IntKind.i64 0), (Go.Value.int Go.IntKind.i64 0)])) ∧ (∀ (a : Addr), bin2 Tryz.prog .eql 71 (.pointer (some a)) (.pointer none) = some (.bool false)) ∧ (bin2 Tryz.prog .eql 71 (.pointer none) (.pointer none) = some (.bool true)) ∧ (∀ (b off : Nat), evFieldAddr Tryz.prog 74 (.pointer (some ⟨b, off, none⟩)) 1 = some (.pointer (some ⟨b, off + 1, none⟩))) ∧ (∀ {β : Type} {W : Nat → Prop} {n0 : Nat} {h : H} {n : Nat} {Q : β → H → Nat → Prop} (b off : Nat) (k : Value → M β) (hb : b < n), Run W n0 ((inside (evLoad Tryz.prog 22 (.pointer (some ⟨b, off, none⟩)))).bind k) h n Q ↔ optG (h.get b) fun B => Run W n0 (optK (B.cells[off]?) k) h n Q) ∧ (∀ (b off : Nat), evFieldAddr Tryz.prog 74 (.pointer (some ⟨b, off, none⟩)) 0 = some (.pointer (some ⟨b, off + 0, none⟩))) ∧ (∀ {β : Type} {W : Nat → Prop} {n0 : Nat} {h : H} {n : Nat} {Q : β → H → Nat → Prop} (b off : Nat) (k : Value → M β) (hb : b < n), Run W n0 ((inside (evLoad Tryz.prog 72 (.pointer (some ⟨b, off, none⟩)))).bind k) h n Q ↔ optG (h.get b) fun B => Run W n0 (optK (B.cells[off]?) k) h n Q) ∧ (∀ (a : Option Addr) (n c : Nat), len2 Tryz.prog #[72] [.slice a n c] = some (.int .i64 n)) ∧ (∀ (b off n c : Nat) (k : IntKind) (i : Int) (h0 : 0 ≤ i) (h1 : i < n), evIndexAddr Tryz.prog 72 (.slice (some ⟨b, off, none⟩) n c) (.int k i) = some (.pointer (some ⟨b, off + i.toNat, none⟩))) ∧ (∀ (a b : Int), bin2 Tryz.prog .add 3 (.int .i64 a) (.int .i64 b) = some (.int .i64 (IntKind.i64.wrap (a + b)))) ∧ (∀ (b off n c : Nat) (k : IntKind) (i : Int) (h0 : 0 ≤ i) (h1 : i < n), evIndexAddr Tryz.prog 22 (.slice (some ⟨b, off, none⟩) n c) (.int k i) = some (.pointer (some ⟨b, off + i.toNat, none⟩))) ∧ (∀ (a b : Int) (h0 : b ≠ 0), bin2 Tryz.prog .quo 3 (.int .i64 a) (.int .i64 b) = some (.int .i64 (IntKind.i64.wrap (a.tdiv b)))) ∧ (∀ (b off n c : Nat) (k : IntKind) (i : Int) (h0 : 0 ≤ i) (h1 : i < n), evIndexAddr Tryz.prog 64 (.slice (some ⟨b, off, none⟩) n c) (.int k i) = some (.pointer (some ⟨b, off + i.toNat, none⟩))) ∧ (∀ {β : Type} {W : Nat → Prop} {n0 : Nat} {h : H} {n : Nat} {Q : β → H → Nat → Prop} (b off : Nat) (k : Value → M β) (hb : b < n), Run W n0 ((inside (evLoad Tryz.prog 78 (.pointer (some ⟨b, off, none⟩)))).bind k) h n Q ↔ optG (h.get b) fun B => Run W n0 (optK (B.cells[off]?) k) h n Q) ∧ (∀ (a : Addr), bin2 Tryz.prog .neq 24 (.pointer (some a)) (.pointer none) = some (.bool true)) ∧ (bin2 Tryz.prog .neq 24 (.pointer none) (.pointer none) = some (.bool false)) ∧ (∀ (b off : Nat), evFieldAddr Tryz.prog 66 (.pointer (some ⟨b, off, none⟩)) 5 = some (.pointer (some ⟨b, off + 5, none⟩))) ∧ (∀ (b off : Nat), evFieldAddr Tryz.prog 66 (.pointer (some ⟨b, off, none⟩)) 0 = some (.pointer (some ⟨b, off + 0, none⟩))) ∧ (∀ (a b : Int), bin2 Tryz.prog .mul 3 (.int .i64 a) (.int .i64 b) = some (.int .i64 (IntKind.i64.wrap (a * b)))) ∧ (∀ (a : Addr), bin2 Tryz.prog .eql 39 (.pointer (some a)) (.pointer none) = some (.bool false)) ∧ (bin2 Tryz.prog .eql 39 (.pointer none) (.pointer none) = some (.bool true)) ∧ (∀ (b off : Nat), evFieldAddr Tryz.prog 89 (.pointer (some ⟨b, off, none⟩)) 2 = some (.pointer (some ⟨b, off + 2, none⟩))) ∧ (∀ (a b : Int), bin2 Tryz.prog .geq 3 (.int .i64 a) (.int .i64 b) = some (.bool (decide (b ≤ a)))) ∧ (∀ (b off : Nat), evFieldAddr Tryz.prog 89 (.pointer (some ⟨b, off, none⟩)) 1 = some (.pointer (some ⟨b, off + 1, none⟩))) ∧ (∀ {β : Type} {W : Nat → Prop} {n0 : Nat} {h : H} {n : Nat} {Q : β → H → Nat → Prop} (b off : Nat) (k : Value → M β) (hb : b < n), Run W n0 ((inside (evLoad Tryz.prog 38 (.pointer (some ⟨b, off, none⟩)))).bind k) h n Q ↔ optG (h.get b) fun B => Run W n0 (optK (B.cells[off]?) k) h n Q) := ⟨@ia23, @ldr3, @beql25, @len22, @beql3, @len9, @bgtr3, @beql9, @bneq25, @bd66x0x1x3, @beql32s, @beql32n, @blss3, @beql24s, @beql24n, @fa66f6, @ldr4, @fa66f7, @ldr25, @fa66f1, @ldr62, @fa66f4, @ldr64, @len64, @str25, @bd70x0, @beql71s, @beql71n, @fa74f1, @ldr22, @fa74f0, @ldr72, @len72, @ix72, @badd3, @ix22, @bquo3, @ix64, @ldr78, @bneq24s, @bneq24n, @fa66f5, @fa66f0, @bmul3, @beql39s, @beql39n, @fa89f2, @bgeq3, @fa89f1, @ldr38⟩
theorem FX2 : (∀ {β : Type} {W : Nat → Prop} {n0 : Nat} {h : H} {n : Nat} {Q : β → H → Nat → Prop} (b off : Nat) (v : Value) (k : Value → M β) (hb : b < n) (h1 : one v = true), Run W n0 ((inside (evStore Tryz.prog 38 (.pointer (some ⟨b, off, none⟩)) v)).bind k) h n Q ↔ optG (h.get b) fun B => B.own = true ∧ off < B.cells.length ∧ (n0 ≤ b ∨ W b) ∧ Run W n0 (k undef) (h.set b (some ⟨B.elem, B.own, B.cells.set off v⟩)) n Q) ∧ (∀ (b off : Nat), evFieldAddr Tryz.prog 89 (.pointer (some ⟨b, off, none⟩)) 0 = some (.pointer (some ⟨b, off + 0, none⟩))) ∧ (∀ {β : Type} {W : Nat → Prop} {n0 : Nat} {h : H} {n : Nat} {Q : β → H → Nat → Prop} (b off : Nat) (k : Value → M β) (hb : b < n), Run W n0 ((inside (evLoad Tryz.prog 71 (.pointer (some ⟨b, off, none⟩)))).bind k) h n Q ↔ optG (h.get b) fun B => Run W n0 (optK (B.cells[off]?) k) h n Q) ∧ (∀ {β : Type} {W : Nat → Prop} {n0 : Nat} {h : H} {n : Nat} {Q : β → H → Nat → Prop} (b off : Nat) (v : Value) (k : Value → M β) (hb : b < n) (h1 : one v = true), Run W n0 ((inside (evStore Tryz.prog 4 (.pointer (some ⟨b, off, none⟩)) v)).bind k) h n Q ↔ optG (h.get b) fun B => B.own = true ∧ off < B.cells.length ∧ (n0 ≤ b ∨ W b) ∧ Run W n0 (k undef) (h.set b (some ⟨B.elem, B.own, B.cells.set off v⟩)) n Q) ∧ (∀ (v0 : Int), evBuild Tryz.prog 113 [(0, (Value.int .i64 v0))] = M.ret (.agg #[(Value.int .i64 v0), (Go.Value.int Go.IntKind.i64 0), (Go.Value.slice none 0 0), (Go.Value.bool false)])) ∧ (∀ (v2f0 : Int) (v2f1 : Int) (v2f2 : Int) (v2f3 : Int) (v2f4 : Int) (v2f5 : Int), evBuild Tryz.prog 118 [(2, (Value.agg #[(Value.int .i64 v2f0), (Value.int .i64 v2f1), (Value.int .i64 v2f2), (Value.int .i64 v2f3), (Value.int .i64 v2f4), (Value.int .i64 v2f5)]))] = M.ret (.agg #[(Go.Value.int Go.IntKind.i64 0), (Go.Value.int Go.IntKind.i64 0), (Value.int .i64 v2f0), (Value.int .i64 v2f1), (Value.int .i64 v2f2), (Value.int .i64 v2f3), (Value.int .i64 v2f4), (Value.int .i64 v2f5), (Go.Value.slice none 0 0), (Go.Value.bool false)])) ∧ (∀ (a : Addr), bin2 Tryz.prog .eql 62 (.pointer (some a)) (.pointer none) = some (.bool false)) ∧ (bin2 Tryz.prog .eql 62 (.pointer none) (.pointer none) = some (.bool true)) ∧ (∀ (b off : Nat), evFieldAddr Tryz.prog 118 (.pointer (some ⟨b, off, none⟩)) 3 = some (.pointer (some ⟨b, off + 8, none⟩))) ∧ (∀ {k' : IntKind} (a b : Int) (h0 : 0 ≤ b), bin2 Tryz.prog .shr 93 (.int .u64 a) (.int k' b) = some (.int .u64 (a.fdiv (2 ^ (min b.toNat (IntKind.u64).bits))))) ∧ (∀ {β : Type} (x : Int) (k : Value → M β), conv2 Tryz.prog 93 38 (.int .u64 x) k = k (.int .u32 (IntKind.u32.wrap x))) ∧ (∀ (a b : Int), bin2 Tryz.prog .and 93 (.int .u64 a) (.int .u64 b) = some (.int .u64 (IntKind.u64.wrap (BitVec.ofInt (IntKind.u64).bits a &&& BitVec.ofInt (IntKind.u64).bits b).toNat))) ∧ (∀ (a b : Int), bin2 Tryz.prog .leq 3 (.int .i64 a) (.int .i64 b) = some (.bool (decide (a ≤ b)))) ∧ (∀ (b off : Nat) (k : IntKind) (i : Int) (h0 : 0 ≤ i) (h1 : i < 6), evIndexAddr Tryz.prog 115 (.pointer (some ⟨b, off, none⟩)) (.int k i) = some (.pointer (some ⟨b, off + i.toNat, none⟩))) ∧ (∀ {β : Type} {W : Nat → Prop} {n0 : Nat} {h : H} {n : Nat} {Q : β → H → Nat → Prop} (b off : Nat) (v : Value) (k : Value → M β) (hb : b < n) (h1 : one v = true), Run W n0 ((inside (evStore Tryz.prog 3 (.pointer (some ⟨b, off, none⟩)) v)).bind k) h n Q ↔ optG (h.get b) fun B => B.own = true ∧ off < B.cells.length ∧ (n0 ≤ b ∨ W b) ∧ Run W n0 (k undef) (h.set b (some ⟨B.elem, B.own, B.cells.set off v⟩)) n Q) ∧ (∀ (a : Addr) (n c : Nat), bin2 Tryz.prog .eql 22 (.slice (some a) n c) (.slice none 0 0) = some (.bool false)) ∧ (∀ (n c : Nat), bin2 Tryz.prog .eql 22 (.slice none n c) (.slice none 0 0) = some (.bool true)) := ⟨@str38, @fa89f0, @ldr71, @str4, @bd113x0, @bd118x2, @beql62s, @beql62n, @fa118f3, @bshr93, @cv93x38, @band93, @bleq3, @ia115, @str3, @beql22s, @beql22n⟩

/- balerlaw14_CodeNil -/
noncomputable def b_balerlaw14_CodeNil (lf d : Nat) (a0 : Value) (a1 : Value) : M Value :=
 (inside (evBox Tryz.prog 23 a1)).bind fun v3n1 =>
 (inside (evCall2 Tryz.prog gt lf d 8 #[(Value.int .i64 3)])).bind fun v15n2 =>
 optK (evExtract v15n2 0) fun v16n3 =>
 optK (evExtract v15n2 1) fun v17n4 =>
 optK (evIndexAddr Tryz.prog 23 v3n1 (Value.int .i64 0)) fun v19n5 =>
 (inside (evLoad Tryz.prog 3 v19n5)).bind fun v20n6 =>
 optK (evIndexAddr Tryz.prog 23 v3n1 (Value.int .i64 1)) fun v21n7 =>
 (inside (evLoad Tryz.prog 3 v21n7)).bind fun v22n8 =>
 (inside (evCall2 Tryz.prog gt lf d 9 #[(Value.pointer none), v20n6, v22n8])).bind fun v23n9 =>
 optK (evExtract v23n9 0) fun v24n10 =>
 optK (evExtract v23n9 1) fun v25n11 =>
 (inside (evCall2 Tryz.prog gt lf d 11 #[(Value.string { data := #[97] })])).bind fun v28n12 =>
 (inside (evCall2 Tryz.prog gt lf d 10 #[(Value.pointer none), v28n12])).bind fun v29n13 =>
 optK (evExtract v29n13 0) fun v30n14 =>
 optK (evExtract v29n13 1) fun v31n15 =>
 (inside (evCall2 Tryz.prog gt lf d 10 #[v16n3, (Value.pointer none)])).bind fun v34n16 =>
 optK (evExtract v34n16 0) fun v35n17 =>
 optK (evExtract v34n16 1) fun v36n18 =>
 optK (bin2 Tryz.prog .eql 25 v17n4 (Value.int .i64 0)) fun v38n19 =>
 ifV v38n19 (
 optK (evIndexAddr Tryz.prog 23 v3n1 (Value.int .i64 0)) fun v41n20 =>
 (inside (evLoad Tryz.prog 3 v41n20)).bind fun v42n21 =>
 (inside (evCall2 Tryz.prog gt lf d 12 #[(Value.pointer none), a0, v42n21])).bind fun v43n22 =>
 optK (bin2 Tryz.prog .eql 25 v43n22 (Value.int .i64 7)) fun v44n23 =>
 ifV v44n23 (
 optK (bin2 Tryz.prog .eql 25 v25n11 (Value.int .i64 7)) fun v48n24 =>
 ifV v48n24 (
 optK (len2 Tryz.prog #[22] [v24n10]) fun v52n25 =>
 optK (bin2 Tryz.prog .eql 3 v52n25 (Value.int .i64 0)) fun v53n26 =>
 ifV v53n26 (
 optK (bin2 Tryz.prog .eql 25 v31n15 (Value.int .i64 7)) fun v57n27 =>
 ifV v57n27 (
 optK (bin2 Tryz.prog .eql 25 v36n18 (Value.int .i64 7)) fun v61n28 =>
 ifV v61n28 (
 (inside (evCall2 Tryz.prog gt lf d 13 #[(Value.pointer none)])).bind fun v65n29 =>
 optK (un2 Tryz.prog .not v65n29) fun v66n30 =>
 ifV v66n30 (
 (inside (evCall2 Tryz.prog gt lf d 14 #[(Value.pointer none)])).bind fun v70n31 =>
 optK (bin2 Tryz.prog .eql 3 v70n31 (Value.int .i64 0)) fun v71n32 =>
 ifV v71n32 (
 (inside (evCall2 Tryz.prog gt lf d 15 #[(Value.pointer none)])).bind fun v75n33 =>
 optK (bin2 Tryz.prog .eql 3 v75n33 (Value.int .i64 0)) fun v76n34 =>
 ifV v76n34 (
 (inside (evCall2 Tryz.prog gt lf d 15 #[v16n3])).bind fun v80n35 =>
 optK (bin2 Tryz.prog .eql 3 v80n35 (Value.int .i64 0)) fun v81n36 =>
 ifV v81n36 (
 (inside (evCall2 Tryz.prog gt lf d 16 #[])).bind fun v84n37 =>
 outK [v84n37]) (
 outK [(Value.bool false)])) (
 outK [(Value.bool false)])) (
 outK [(Value.bool false)])) (
 outK [(Value.bool false)])) (
 outK [(Value.bool false)])) (
 outK [(Value.bool false)])) (
 outK [(Value.bool false)])) (
 outK [(Value.bool false)])) (
 outK [(Value.bool false)])) (
 outK [(Value.bool false)])
theorem sh_balerlaw14_CodeNil (lf d : Nat) (a0 : Value) (a1 : Value) : evCall2 Tryz.prog gt lf (d + 1) 3 #[a0, a1] = inside (b_balerlaw14_CodeNil lf d a0 a1) := by kernel_rfl

/- balerlaw21_StreamNil -/
noncomputable def b_balerlaw21_StreamNil (lf d : Nat) (a0 : Value) (a1 : Value) (a2 : Value) : M Value :=
 optK (len2 Tryz.prog #[9] [a0]) fun v9n1 =>
 optK (bin2 Tryz.prog .gtr 3 v9n1 (Value.int .i64 60)) fun v10n2 =>
 ifV v10n2 (
 (inside (evCall2 Tryz.prog gt lf d 17 #[])).bind fun v11n3 =>
 outK [v11n3]) (
 (inside (evCall2 Tryz.prog gt lf d 18 #[(Value.pointer none), a0, a2])).bind fun v15n4 =>
 optK (bin2 Tryz.prog .eql 25 v15n4 (Value.int .i64 7)) fun v16n5 =>
 ifV v16n5 (
 (inside (evCall2 Tryz.prog gt lf d 19 #[(Value.pointer none), a0, a1, a2])).bind fun v22n6 =>
 optK (bin2 Tryz.prog .eql 25 v22n6 (Value.int .i64 7)) fun v23n7 =>
 ifV v23n7 (
 (inside (evCall2 Tryz.prog gt lf d 20 #[(Value.pointer none)])).bind fun v27n8 =>
 optK (bin2 Tryz.prog .eql 25 v27n8 (Value.int .i64 7)) fun v28n9 =>
 ifV v28n9 (
 (inside (evCall2 Tryz.prog gt lf d 21 #[(Value.pointer none)])).bind fun v32n10 =>
 optK (bin2 Tryz.prog .eql 9 v32n10 (Value.string { data := #[] })) fun v33n11 =>
 ifV v33n11 (
 (inside (evCall2 Tryz.prog gt lf d 22 #[(Value.pointer none)])).bind fun v37n12 =>
 optK (bin2 Tryz.prog .eql 3 v37n12 (Value.int .i64 0)) fun v38n13 =>
 optK (pick2 v38n13 (Value.bool true) (Value.bool false)) fun v41n14 =>
 ifV v41n14 (
 (inside (evCall2 Tryz.prog gt lf d 17 #[])).bind fun v43n15 =>
 outK [v43n15]) (
 outK [(Value.bool false)])) (
 outK [(Value.bool false)])) (
 outK [(Value.bool false)])) (
 outK [(Value.bool false)])) (
 outK [(Value.bool false)]))
theorem sh_balerlaw21_StreamNil (lf d : Nat) (a0 : Value) (a1 : Value) (a2 : Value) : evCall2 Tryz.prog gt lf (d + 1) 4 #[a0, a1, a2] = inside (b_balerlaw21_StreamNil lf d a0 a1 a2) := by kernel_rfl

/- code_NewReader -/
noncomputable def b_code_NewReader (lf d : Nat) (a0 : Value) : M Value :=
 (inside (evCall2 Tryz.prog gt lf d 37 #[a0])).bind fun v8n1 =>
 optK (evExtract v8n1 0) fun v9n2 =>
 optK (evExtract v8n1 1) fun v10n3 =>
 optK (bin2 Tryz.prog .neq 25 v10n3 (Value.int .i64 0)) fun v12n4 =>
 ifV v12n4 (
 outK [(Value.pointer none), v10n3]) (
 (inside (evCall2 Tryz.prog gt lf d 38 #[])).bind fun v15n5 =>
 (inside (evBuild Tryz.prog 66 [(0, a0), (1, v15n5), (3, v9n2)])).bind fun v17n6 =>
 (inside (evBox Tryz.prog 66 v17n6)).bind fun v18n7 =>
 outK [v18n7, (Value.int .i64 0)])
theorem sh_code_NewReader (lf d : Nat) (a0 : Value) : evCall2 Tryz.prog gt lf (d + 1) 8 #[a0] = inside (b_code_NewReader lf d a0) := by kernel_rfl

/- code_Read -/
noncomputable def b_code_Read (lf d : Nat) (a0 : Value) (a1 : Value) (a2 : Value) : M Value :=
 optK (bin2 Tryz.prog .eql 32 a0 (Value.pointer none)) fun v13n1 =>
 ifV v13n1 (
 outK [(Value.slice none 0 0), (Value.int .i64 7)]) (
 (inside (evCall2 Tryz.prog gt lf d 8 #[a1])).bind fun v16n2 =>
 optK (evExtract v16n2 0) fun v17n3 =>
 optK (evExtract v16n2 1) fun v18n4 =>
 optK (bin2 Tryz.prog .neq 25 v18n4 (Value.int .i64 0)) fun v20n5 =>
 ifV v20n5 (
 outK [(Value.slice none 0 0), (Value.int .i64 1)]) (
 optK (bin2 Tryz.prog .lss 3 a2 (Value.int .i64 0)) fun v23n6 =>
 ifV v23n6 (
 outK [(Value.slice none 0 0), (Value.int .i64 1)]) (
 (inside (evCall2 Tryz.prog gt lf d 39 #[a0])).bind fun v26n7 =>
 (inside (evCall2 Tryz.prog gt lf d 40 #[v17n3, a0, a2])).bind fun v31n8 =>
 optK (evExtract v31n8 0) fun v32n9 =>
 optK (evExtract v31n8 1) fun v33n10 =>
 optK (bin2 Tryz.prog .neq 25 v33n10 (Value.int .i64 0)) fun v35n11 =>
 ifV v35n11 (
 (inside (evCall2 Tryz.prog gt lf d 41 #[a0, v26n7])).bind fun v38n12 =>
 outK [v32n9, v33n10]) (
 outK [v32n9, v33n10]))))
theorem sh_code_Read (lf d : Nat) (a0 : Value) (a1 : Value) (a2 : Value) : evCall2 Tryz.prog gt lf (d + 1) 9 #[a0, a1, a2] = inside (b_code_Read lf d a0 a1 a2) := by kernel_rfl

/- code_Reader_Step -/
noncomputable def b_code_Reader_Step (lf d : Nat) (a0 : Value) (a1 : Value) : M Value :=
 optK (bin2 Tryz.prog .eql 24 a0 (Value.pointer none)) fun v11n1 =>
 ifV v11n1 (
 outK [(Value.int .i64 0), (Value.int .i64 7)]) (
 optK (bin2 Tryz.prog .eql 32 a1 (Value.pointer none)) fun v14n2 =>
 ifV v14n2 (
 outK [(Value.int .i64 0), (Value.int .i64 7)]) (
 optK (nil2 a0) fun v18n3 =>
 optK (evFieldAddr Tryz.prog 66 v18n3 6) fun v19n4 =>
 (inside (evLoad Tryz.prog 4 v19n4)).bind fun v20n5 =>
 ifV v20n5 (
 outK [(Value.int .i64 0), (Value.int .i64 7)]) (
 optK (nil2 a0) fun v24n6 =>
 optK (evFieldAddr Tryz.prog 66 v24n6 7) fun v25n7 =>
 (inside (evLoad Tryz.prog 25 v25n7)).bind fun v26n8 =>
 optK (bin2 Tryz.prog .neq 25 v26n8 (Value.int .i64 0)) fun v27n9 =>
 ifV v27n9 (
 optK (nil2 a0) fun v29n10 =>
 optK (evFieldAddr Tryz.prog 66 v29n10 7) fun v30n11 =>
 (inside (evLoad Tryz.prog 25 v30n11)).bind fun v31n12 =>
 outK [(Value.int .i64 0), v31n12]) (
 optK (nil2 a0) fun v36n13 =>
 optK (evFieldAddr Tryz.prog 66 v36n13 1) fun v37n14 =>
 (inside (evLoad Tryz.prog 62 v37n14)).bind fun v38n15 =>
 (inside (evCall2 Tryz.prog gt lf d 43 #[v38n15])).bind fun v39n16 =>
 optK (un2 Tryz.prog .not v39n16) fun v40n17 =>
 ifV v40n17 (
 callV Tryz.prog (evCall2 Tryz.prog gt lf d) (Value.func (Go.Fn.func 44) #[a0] #[]) [a1] fun v60n18 =>
 optK (evExtract v60n18 0) fun v61n19 =>
 optK (evExtract v60n18 1) fun v62n20 =>
 optK (bin2 Tryz.prog .eql 25 v62n20 (Value.int .i64 0)) fun v64n21 =>
 ifV v64n21 (
 outK [v61n19, v62n20]) (
 optK (bin2 Tryz.prog .neq 25 v62n20 (Value.int .i64 3)) fun v68n22 =>
 ifV v68n22 (
 optK (nil2 a0) fun v71n23 =>
 optK (evFieldAddr Tryz.prog 66 v71n23 7) fun v72n24 =>
 (inside (evStore Tryz.prog 25 v72n24 v62n20)).bind fun u25 =>
 outK [(Value.int .i64 0), v62n20]) (
 outK [(Value.int .i64 0), v62n20]))) (
 optK (nil2 a0) fun v45n26 =>
 optK (evFieldAddr Tryz.prog 66 v45n26 4) fun v46n27 =>
 (timed (
 (inside (evLoad Tryz.prog 64 v46n27)).bind fun v47n29 => M.ret v47n29)).bind fun vtn28 =>
 optK (len2 Tryz.prog #[64] [vtn28.1]) fun v48n30 =>
 optK (nil2 a0) fun v50n31 =>
 optK (evFieldAddr Tryz.prog 66 v50n31 1) fun v51n32 =>
 (timed (
 (inside (evLoad Tryz.prog 62 v51n32)).bind fun v52n34 => M.ret v52n34)).bind fun vtn33 =>
 (timed (
 (inside (evCall2 Tryz.prog gt lf d 45 #[vtn33.1])).bind fun v53n36 => M.ret v53n36)).bind fun vtn35 =>
 optK (bin2 Tryz.prog .lss 3 v48n30 vtn35.1) fun v54n37 =>
 chkT ((!(Tk.clash vtn28.2 vtn35.2) && true) && true) (
 ifV v54n37 (
 callV Tryz.prog (evCall2 Tryz.prog gt lf d) (Value.func (Go.Fn.func 46) #[a0] #[]) [a1] fun v60n38 =>
 optK (evExtract v60n38 0) fun v61n39 =>
 optK (evExtract v60n38 1) fun v62n40 =>
 optK (bin2 Tryz.prog .eql 25 v62n40 (Value.int .i64 0)) fun v64n41 =>
 ifV v64n41 (
 outK [v61n39, v62n40]) (
 optK (bin2 Tryz.prog .neq 25 v62n40 (Value.int .i64 3)) fun v68n42 =>
 ifV v68n42 (
 optK (nil2 a0) fun v71n43 =>
 optK (evFieldAddr Tryz.prog 66 v71n43 7) fun v72n44 =>
 (inside (evStore Tryz.prog 25 v72n44 v62n40)).bind fun u45 =>
 outK [(Value.int .i64 0), v62n40]) (
 outK [(Value.int .i64 0), v62n40]))) (
 callV Tryz.prog (evCall2 Tryz.prog gt lf d) (Value.func (Go.Fn.func 42) #[a0] #[]) [a1] fun v60n46 =>
 optK (evExtract v60n46 0) fun v61n47 =>
 optK (evExtract v60n46 1) fun v62n48 =>
 optK (bin2 Tryz.prog .eql 25 v62n48 (Value.int .i64 0)) fun v64n49 =>
 ifV v64n49 (
 outK [v61n47, v62n48]) (
 optK (bin2 Tryz.prog .neq 25 v62n48 (Value.int .i64 3)) fun v68n50 =>
 ifV v68n50 (
 optK (nil2 a0) fun v71n51 =>
 optK (evFieldAddr Tryz.prog 66 v71n51 7) fun v72n52 =>
 (inside (evStore Tryz.prog 25 v72n52 v62n48)).bind fun u53 =>
 outK [(Value.int .i64 0), v62n48]) (
 outK [(Value.int .i64 0), v62n48])))))))))
theorem sh_code_Reader_Step (lf d : Nat) (a0 : Value) (a1 : Value) : evCall2 Tryz.prog gt lf (d + 1) 10 #[a0, a1] = inside (b_code_Reader_Step lf d a0 a1) := by kernel_rfl

/- bits_NewReader -/
noncomputable def b_bits_NewReader (lf d : Nat) (a0 : Value) : M Value :=
 (inside (evBuild Tryz.prog 70 [(0, a0)])).bind fun v4n1 =>
 (inside (evBox Tryz.prog 70 v4n1)).bind fun v5n2 =>
 outK [v5n2]
theorem sh_bits_NewReader (lf d : Nat) (a0 : Value) : evCall2 Tryz.prog gt lf (d + 1) 11 #[a0] = inside (b_bits_NewReader lf d a0) := by kernel_rfl

/- code_Write -/
noncomputable def lpA_code_Write (lf d fu : Nat) (k : Ex → Fr → M Value) (x0 : Value) (x1 : Value) (x2 : Value) (x6 : Value) (x7 : Value) (x8 : Value) (x9 : Value) (x17 : Value) (x25 : Value) (x35 : Value) (x36 : Value) (x37 : Value) : M Value := loopK (fun s1 k1 => codeK Tryz.prog (evCall2 Tryz.prog gt lf d) (gt 12) lf (codeAt (bodyOf Tryz.prog 12) [true, true, true, true, true, true, false, true, false, false]) s1 k1) [0, 1, 2, 6, 7, 8, 9, 17, 25, 35, 36, 37] fu [(0, x0), (1, x1), (2, x2), (6, x6), (7, x7), (8, x8), (9, x9), (17, x17), (25, x25), (35, x35), (36, x36), (37, x37)] k
noncomputable def kcA_code_Write (lf d : Nat) : Ex → Fr → M Value := contAt Tryz.prog (evCall2 Tryz.prog gt lf d) (gt 12) lf (bodyOf Tryz.prog 12) [true, true, true, true, true, true, false, true, false] (endK Tryz.prog (resOf Tryz.prog 12))
noncomputable def lpB_code_Write (lf d fu : Nat) (k : Ex → Fr → M Value) (x0 : Value) (x1 : Value) (x2 : Value) (x6 : Value) (x7 : Value) (x8 : Value) (x9 : Value) (x17 : Value) (x25 : Value) (x35 : Value) (x36 : Value) (x37 : Value) (x38 : Value) (x54 : Value) (x55 : Value) (x56 : Value) : M Value := loopK (fun s1 k1 => codeK Tryz.prog (evCall2 Tryz.prog gt lf d) (gt 12) lf (codeAt (bodyOf Tryz.prog 12) [true, true, true, true, true, true, true, false, true, false, false]) s1 k1) [0, 1, 2, 6, 7, 8, 9, 17, 25, 35, 36, 37, 38, 54, 55, 56] fu [(0, x0), (1, x1), (2, x2), (6, x6), (7, x7), (8, x8), (9, x9), (17, x17), (25, x25), (35, x35), (36, x36), (37, x37), (38, x38), (54, x54), (55, x55), (56, x56)] k
noncomputable def kcB_code_Write (lf d : Nat) : Ex → Fr → M Value := contAt Tryz.prog (evCall2 Tryz.prog gt lf d) (gt 12) lf (bodyOf Tryz.prog 12) [true, true, true, true, true, true, true, false, true, false] (endK Tryz.prog (resOf Tryz.prog 12))
noncomputable def b_code_Write (lf d : Nat) (a0 : Value) (a1 : Value) (a2 : Value) : M Value :=
 optK (bin2 Tryz.prog .eql 71 a0 (Value.pointer none)) fun v17n1 =>
 ifV v17n1 (
 outK [(Value.int .i64 7)]) (
 (inside (evCall2 Tryz.prog gt lf d 47 #[a1, a2])).bind fun v21n2 =>
 optK (evExtract v21n2 0) fun v22n3 =>
 optK (evExtract v21n2 1) fun v23n4 =>
 (inside (evAlloc Tryz.prog 74)).bind fun v7n5 =>
 (inside (evStore Tryz.prog 74 v7n5 v22n3)).bind fun u6 =>
 optK (bin2 Tryz.prog .neq 25 v23n4 (Value.int .i64 0)) fun v25n7 =>
 ifV v25n7 (
 outK [v23n4]) (
 optK (evFieldAddr Tryz.prog 74 v7n5 1) fun v28n8 =>
 (inside (evLoad Tryz.prog 22 v28n8)).bind fun v29n9 =>
 optK (evFieldAddr Tryz.prog 74 v7n5 0) fun v30n10 =>
 (inside (evLoad Tryz.prog 72 v30n10)).bind fun v31n11 =>
 optK (len2 Tryz.prog #[72] [v31n11]) fun v32n12 =>
 (inside (evCall2 Tryz.prog gt lf d 48 #[a0, v29n9, v32n12])).bind fun v33n13 =>
 optK (evFieldAddr Tryz.prog 74 v7n5 0) fun v34n14 =>
 (inside (evLoad Tryz.prog 72 v34n14)).bind fun v35n15 =>
 optK (len2 Tryz.prog #[72] [v35n15]) fun v36n16 =>
 lpA_code_Write lf d lf (kcA_code_Write lf d) a0 a1 a2 (Value.int .i64 0) v7n5 v23n4 (Value.slice none 0 0) v17n1 v25n7 v35n15 v36n16 (Value.int .i64 0)))
theorem sh_code_Write (lf d : Nat) (a0 : Value) (a1 : Value) (a2 : Value) : evCall2 Tryz.prog gt lf (d + 1) 12 #[a0, a1, a2] = inside (b_code_Write lf d a0 a1 a2) := by kernel_rfl
theorem zeroA_code_Write (lf d : Nat) (k : Ex → Fr → M Value) (x0 : Value) (x1 : Value) (x2 : Value) (x6 : Value) (x7 : Value) (x8 : Value) (x9 : Value) (x17 : Value) (x25 : Value) (x35 : Value) (x36 : Value) (x37 : Value) : lpA_code_Write lf d 0 k x0 x1 x2 x6 x7 x8 x9 x17 x25 x35 x36 x37 = M.fail := rfl
theorem succA_code_Write (lf d fu : Nat) (k : Ex → Fr → M Value) (x0 : Value) (x1 : Value) (x2 : Value) (x6 : Value) (x7 : Value) (x8 : Value) (x9 : Value) (x17 : Value) (x25 : Value) (x35 : Value) (x36 : Value) (x37 : Value) : lpA_code_Write lf d (fu + 1) k x0 x1 x2 x6 x7 x8 x9 x17 x25 x35 x36 x37 =
  optK (bin2 Tryz.prog .lss 3 x37 x36) fun v38n17 =>
  ifV v38n17 (
    optK (evIndexAddr Tryz.prog 72 x35 x37) fun v39n18 =>
    (inside (evLoad Tryz.prog 22 v39n18)).bind fun v40n19 =>
    (inside (evCall2 Tryz.prog gt lf d 49 #[x0, v40n19])).bind fun v43n20 =>
    (inside (evCall2 Tryz.prog gt lf d 50 #[v40n19])).bind fun v46n21 =>
    optK (evExtract v46n21 0) fun v47n22 =>
    optK (evExtract v46n21 1) fun v48n23 =>
    (inside (evBuildSlice Tryz.prog 64 1 [(0, v47n22)])).bind fun v51n24 =>
    (inside (evAppend Tryz.prog 64 x9 v51n24)).bind fun v52n25 =>
    optK (bin2 Tryz.prog .add 3 x37 (Value.int .i64 1)) fun v53n26 =>
    lpA_code_Write lf d fu k x0 x1 x2 x6 x7 x8 v52n25 x17 x25 x35 x36 v53n26) (
    k (Ex.exit 0) [(0, x0), (1, x1), (2, x2), (6, x6), (7, x7), (8, x8), (9, x9), (17, x17), (25, x25), (35, x35), (36, x36), (37, x37), (38, v38n17)]) := by kernel_rfl
theorem kcAa_code_Write (lf d : Nat) (y0 : Value) (y1 : Value) (y2 : Value) (y6 : Value) (y7 : Value) (y8 : Value) (y9 : Value) (y17 : Value) (y25 : Value) (y35 : Value) (y36 : Value) (y37 : Value) (y38 : Value) : kcA_code_Write lf d (Ex.exit 0) [(0, y0), (1, y1), (2, y2), (6, y6), (7, y7), (8, y8), (9, y9), (17, y17), (25, y25), (35, y35), (36, y36), (37, y37), (38, y38)] =
  optK (len2 Tryz.prog #[22] [y1]) fun v55n27 =>
  lpB_code_Write lf d lf (kcB_code_Write lf d) y0 y1 y2 y6 y7 y8 y9 y17 y25 y35 y36 y37 y38 y1 v55n27 (Value.int .i64 0) := by kernel_rfl
theorem zeroB_code_Write (lf d : Nat) (k : Ex → Fr → M Value) (x0 : Value) (x1 : Value) (x2 : Value) (x6 : Value) (x7 : Value) (x8 : Value) (x9 : Value) (x17 : Value) (x25 : Value) (x35 : Value) (x36 : Value) (x37 : Value) (x38 : Value) (x54 : Value) (x55 : Value) (x56 : Value) : lpB_code_Write lf d 0 k x0 x1 x2 x6 x7 x8 x9 x17 x25 x35 x36 x37 x38 x54 x55 x56 = M.fail := rfl
theorem succB_code_Write (lf d fu : Nat) (k : Ex → Fr → M Value) (x0 : Value) (x1 : Value) (x2 : Value) (x6 : Value) (x7 : Value) (x8 : Value) (x9 : Value) (x17 : Value) (x25 : Value) (x35 : Value) (x36 : Value) (x37 : Value) (x38 : Value) (x54 : Value) (x55 : Value) (x56 : Value) : lpB_code_Write lf d (fu + 1) k x0 x1 x2 x6 x7 x8 x9 x17 x25 x35 x36 x37 x38 x54 x55 x56 =
  optK (bin2 Tryz.prog .lss 3 x56 x55) fun v57n28 =>
  ifV v57n28 (
    optK (evIndexAddr Tryz.prog 22 x54 x56) fun v59n29 =>
    (inside (evLoad Tryz.prog 3 v59n29)).bind fun v60n30 =>
    optK (evFieldAddr Tryz.prog 74 x7 1) fun v62n31 =>
    (inside (evLoad Tryz.prog 22 v62n31)).bind fun v63n32 =>
    optK (bin2 Tryz.prog .quo 3 x56 (Value.int .i64 50)) fun v65n33 =>
    optK (evIndexAddr Tryz.prog 22 v63n32 v65n33) fun v66n34 =>
    (inside (evLoad Tryz.prog 3 v66n34)).bind fun v67n35 =>
    optK (evIndexAddr Tryz.prog 64 x9 v67n35) fun v68n36 =>
    (inside (evLoad Tryz.prog 78 v68n36)).bind fun v69n37 =>
    (inside (evCall2 Tryz.prog gt lf d 51 #[v69n37, x0, v60n30])).bind fun v72n38 =>
    optK (bin2 Tryz.prog .add 3 x56 (Value.int .i64 1)) fun v73n39 =>
    lpB_code_Write lf d fu k x0 x1 x2 x6 x7 x8 x9 x17 x25 x35 x36 x37 x38 x54 x55 v73n39) (
    k (Ex.exit 2) [(0, x0), (1, x1), (2, x2), (6, x6), (7, x7), (8, x8), (9, x9), (17, x17), (25, x25), (35, x35), (36, x36), (37, x37), (38, x38), (54, x54), (55, x55), (56, x56), (57, v57n28)]) := by kernel_rfl
theorem kcBa_code_Write (lf d : Nat) (y0 : Value) (y1 : Value) (y2 : Value) (y6 : Value) (y7 : Value) (y8 : Value) (y9 : Value) (y17 : Value) (y25 : Value) (y35 : Value) (y36 : Value) (y37 : Value) (y38 : Value) (y54 : Value) (y55 : Value) (y56 : Value) (y57 : Value) : kcB_code_Write lf d (Ex.exit 2) [(0, y0), (1, y1), (2, y2), (6, y6), (7, y7), (8, y8), (9, y9), (17, y17), (25, y25), (35, y35), (36, y36), (37, y37), (38, y38), (54, y54), (55, y55), (56, y56), (57, y57)] =
  outK [(Value.int .i64 0)] := by kernel_rfl

/- code_Reader_Done -/
noncomputable def b_code_Reader_Done (lf d : Nat) (a0 : Value) : M Value :=
 optK (bin2 Tryz.prog .neq 24 a0 (Value.pointer none)) fun v4n1 =>
 ifV v4n1 (
 optK (nil2 a0) fun v7n2 =>
 optK (evFieldAddr Tryz.prog 66 v7n2 6) fun v8n3 =>
 (inside (evLoad Tryz.prog 4 v8n3)).bind fun v9n4 =>
 outK [v9n4]) (
 outK [(Value.bool false)])
theorem sh_code_Reader_Done (lf d : Nat) (a0 : Value) : evCall2 Tryz.prog gt lf (d + 1) 13 #[a0] = inside (b_code_Reader_Done lf d a0) := by kernel_rfl

/- code_Reader_Count -/
noncomputable def b_code_Reader_Count (lf d : Nat) (a0 : Value) : M Value :=
 optK (bin2 Tryz.prog .eql 24 a0 (Value.pointer none)) fun v4n1 =>
 ifV v4n1 (
 outK [(Value.int .i64 0)]) (
 optK (nil2 a0) fun v6n2 =>
 optK (evFieldAddr Tryz.prog 66 v6n2 5) fun v7n3 =>
 (inside (evLoad Tryz.prog 3 v7n3)).bind fun v8n4 =>
 outK [v8n4])
theorem sh_code_Reader_Count (lf d : Nat) (a0 : Value) : evCall2 Tryz.prog gt lf (d + 1) 14 #[a0] = inside (b_code_Reader_Count lf d a0) := by kernel_rfl

/- code_Reader_Held -/
noncomputable def b_code_Reader_Held (lf d : Nat) (a0 : Value) : M Value :=
 optK (bin2 Tryz.prog .eql 24 a0 (Value.pointer none)) fun v4n1 =>
 ifV v4n1 (
 outK [(Value.int .i64 0)]) (
 optK (nil2 a0) fun v6n2 =>
 optK (evFieldAddr Tryz.prog 66 v6n2 1) fun v7n3 =>
 (timed (
 (inside (evLoad Tryz.prog 62 v7n3)).bind fun v8n5 => M.ret v8n5)).bind fun vtn4 =>
 (timed (
 (inside (evCall2 Tryz.prog gt lf d 52 #[vtn4.1])).bind fun v9n7 => M.ret v9n7)).bind fun vtn6 =>
 optK (len2 Tryz.prog #[22] [vtn6.1]) fun v10n8 =>
 optK (nil2 a0) fun v12n9 =>
 optK (evFieldAddr Tryz.prog 66 v12n9 0) fun v13n10 =>
 (timed (
 (inside (evLoad Tryz.prog 3 v13n10)).bind fun v14n12 => M.ret v14n12)).bind fun vtn11 =>
 optK (nil2 a0) fun v16n13 =>
 optK (evFieldAddr Tryz.prog 66 v16n13 4) fun v17n14 =>
 (timed (
 (inside (evLoad Tryz.prog 64 v17n14)).bind fun v18n16 => M.ret v18n16)).bind fun vtn15 =>
 optK (len2 Tryz.prog #[64] [vtn15.1]) fun v19n17 =>
 optK (bin2 Tryz.prog .mul 3 vtn11.1 v19n17) fun v20n18 =>
 optK (bin2 Tryz.prog .add 3 v10n8 v20n18) fun v21n19 =>
 chkT ((!(Tk.clash vtn6.2 vtn11.2) && (!(Tk.clash vtn6.2 vtn15.2) && true)) && true) (
 outK [v21n19]))
theorem sh_code_Reader_Held (lf d : Nat) (a0 : Value) : evCall2 Tryz.prog gt lf (d + 1) 15 #[a0] = inside (b_code_Reader_Held lf d a0) := by kernel_rfl

/- stream_Writer_Block -/
noncomputable def b_stream_Writer_Block (lf d : Nat) (a0 : Value) (a1 : Value) (a2 : Value) : M Value :=
 optK (bin2 Tryz.prog .eql 39 a0 (Value.pointer none)) fun v11n1 =>
 ifV v11n1 (
 outK [(Value.int .i64 7)]) (
 optK (nil2 a0) fun v14n2 =>
 optK (evFieldAddr Tryz.prog 89 v14n2 2) fun v15n3 =>
 (inside (evLoad Tryz.prog 4 v15n3)).bind fun v16n4 =>
 ifV v16n4 (
 outK [(Value.int .i64 7)]) (
 (inside (evCall2 Tryz.prog gt lf d 61 #[a1])).bind fun v20n5 =>
 optK (evExtract v20n5 0) fun v21n6 =>
 optK (evExtract v20n5 1) fun v22n7 =>
 optK (evExtract v20n5 2) fun v23n8 =>
 optK (bin2 Tryz.prog .neq 25 v23n8 (Value.int .i64 0)) fun v25n9 =>
 ifV v25n9 (
 outK [(Value.int .i64 1)]) (
 (inside (evCall2 Tryz.prog gt lf d 19 #[a0, v21n6, v22n7, a2])).bind fun v30n10 =>
 outK [v30n10])))
theorem sh_stream_Writer_Block (lf d : Nat) (a0 : Value) (a1 : Value) (a2 : Value) : evCall2 Tryz.prog gt lf (d + 1) 18 #[a0, a1, a2] = inside (b_stream_Writer_Block lf d a0 a1 a2) := by kernel_rfl

/- stream_Writer_Turned -/
noncomputable def b_stream_Writer_Turned (lf d : Nat) (a0 : Value) (a1 : Value) (a2 : Value) (a3 : Value) : M Value :=
 optK (bin2 Tryz.prog .eql 39 a0 (Value.pointer none)) fun v11n1 =>
 ifV v11n1 (
 outK [(Value.int .i64 7)]) (
 optK (nil2 a0) fun v14n2 =>
 optK (evFieldAddr Tryz.prog 89 v14n2 2) fun v15n3 =>
 (inside (evLoad Tryz.prog 4 v15n3)).bind fun v16n4 =>
 ifV v16n4 (
 outK [(Value.int .i64 7)]) (
 optK (len2 Tryz.prog #[9] [a1]) fun v20n5 =>
 optK (bin2 Tryz.prog .gtr 3 v20n5 (Value.int .i64 900000)) fun v21n6 =>
 ifV v21n6 (
 outK [(Value.int .i64 1)]) (
 optK (bin2 Tryz.prog .lss 3 a2 (Value.int .i64 0)) fun v24n7 =>
 ifV v24n7 (
 outK [(Value.int .i64 1)]) (
 optK (len2 Tryz.prog #[9] [a1]) fun v29n8 =>
 optK (bin2 Tryz.prog .geq 3 a2 v29n8) fun v30n9 =>
 ifV v30n9 (
 outK [(Value.int .i64 1)]) (
 (inside (evCall2 Tryz.prog gt lf d 62 #[a0, (Value.int .u64 54156738319193)])).bind fun v33n10 =>
 optK (nil2 a0) fun v36n11 =>
 optK (evFieldAddr Tryz.prog 89 v36n11 1) fun v37n12 =>
 (inside (evLoad Tryz.prog 38 v37n12)).bind fun v38n13 =>
 (inside (evCall2 Tryz.prog gt lf d 63 #[v38n13, a3])).bind fun v40n14 =>
 optK (nil2 a0) fun v41n15 =>
 optK (evFieldAddr Tryz.prog 89 v41n15 1) fun v42n16 =>
 (inside (evStore Tryz.prog 38 v42n16 v40n14)).bind fun u17 =>
 optK (nil2 a0) fun v44n18 =>
 optK (evFieldAddr Tryz.prog 89 v44n18 0) fun v45n19 =>
 (inside (evLoad Tryz.prog 71 v45n19)).bind fun v46n20 =>
 (inside (evCall2 Tryz.prog gt lf d 64 #[v46n20, a1, a2, a3])).bind fun v50n21 =>
 outK [v50n21])))))
theorem sh_stream_Writer_Turned (lf d : Nat) (a0 : Value) (a1 : Value) (a2 : Value) (a3 : Value) : evCall2 Tryz.prog gt lf (d + 1) 19 #[a0, a1, a2, a3] = inside (b_stream_Writer_Turned lf d a0 a1 a2 a3) := by kernel_rfl

/- stream_Writer_End -/
noncomputable def b_stream_Writer_End (lf d : Nat) (a0 : Value) : M Value :=
 optK (bin2 Tryz.prog .eql 39 a0 (Value.pointer none)) fun v4n1 =>
 ifV v4n1 (
 outK [(Value.int .i64 7)]) (
 optK (nil2 a0) fun v7n2 =>
 optK (evFieldAddr Tryz.prog 89 v7n2 2) fun v8n3 =>
 (inside (evLoad Tryz.prog 4 v8n3)).bind fun v9n4 =>
 ifV v9n4 (
 outK [(Value.int .i64 7)]) (
 (inside (evCall2 Tryz.prog gt lf d 62 #[a0, (Value.int .u64 25779555029136)])).bind fun v12n5 =>
 optK (nil2 a0) fun v14n6 =>
 optK (evFieldAddr Tryz.prog 89 v14n6 0) fun v15n7 =>
 (inside (evLoad Tryz.prog 71 v15n7)).bind fun v16n8 =>
 optK (nil2 a0) fun v18n9 =>
 optK (evFieldAddr Tryz.prog 89 v18n9 1) fun v19n10 =>
 (inside (evLoad Tryz.prog 38 v19n10)).bind fun v20n11 =>
 (inside (evCall2 Tryz.prog gt lf d 65 #[v16n8, v20n11, (Value.int .i64 32)])).bind fun v21n12 =>
 optK (nil2 a0) fun v23n13 =>
 optK (evFieldAddr Tryz.prog 89 v23n13 0) fun v24n14 =>
 (inside (evLoad Tryz.prog 71 v24n14)).bind fun v25n15 =>
 (inside (evCall2 Tryz.prog gt lf d 56 #[v25n15])).bind fun v26n16 =>
 optK (nil2 a0) fun v28n17 =>
 optK (evFieldAddr Tryz.prog 89 v28n17 2) fun v29n18 =>
 (inside (evStore Tryz.prog 4 v29n18 (Value.bool true))).bind fun u19 =>
 outK [(Value.int .i64 0)]))
theorem sh_stream_Writer_End (lf d : Nat) (a0 : Value) : evCall2 Tryz.prog gt lf (d + 1) 20 #[a0] = inside (b_stream_Writer_End lf d a0) := by kernel_rfl

/- stream_Writer_Take -/
noncomputable def b_stream_Writer_Take (lf d : Nat) (a0 : Value) : M Value :=
 optK (bin2 Tryz.prog .eql 39 a0 (Value.pointer none)) fun v4n1 =>
 ifV v4n1 (
 outK [(Value.string { data := #[] })]) (
 optK (nil2 a0) fun v6n2 =>
 optK (evFieldAddr Tryz.prog 89 v6n2 0) fun v7n3 =>
 (inside (evLoad Tryz.prog 71 v7n3)).bind fun v8n4 =>
 (inside (evCall2 Tryz.prog gt lf d 57 #[v8n4])).bind fun v9n5 =>
 outK [v9n5])
theorem sh_stream_Writer_Take (lf d : Nat) (a0 : Value) : evCall2 Tryz.prog gt lf (d + 1) 21 #[a0] = inside (b_stream_Writer_Take lf d a0) := by kernel_rfl

/- stream_Writer_Held -/
noncomputable def b_stream_Writer_Held (lf d : Nat) (a0 : Value) : M Value :=
 optK (bin2 Tryz.prog .eql 39 a0 (Value.pointer none)) fun v4n1 =>
 ifV v4n1 (
 outK [(Value.int .i64 0)]) (
 optK (nil2 a0) fun v6n2 =>
 optK (evFieldAddr Tryz.prog 89 v6n2 0) fun v7n3 =>
 (inside (evLoad Tryz.prog 71 v7n3)).bind fun v8n4 =>
 (inside (evCall2 Tryz.prog gt lf d 66 #[v8n4])).bind fun v9n5 =>
 outK [v9n5])
theorem sh_stream_Writer_Held (lf d : Nat) (a0 : Value) : evCall2 Tryz.prog gt lf (d + 1) 22 #[a0] = inside (b_stream_Writer_Held lf d a0) := by kernel_rfl

/- delta_NewReader -/
noncomputable def b_delta_NewReader (lf d : Nat) (a0 : Value) : M Value :=
 (inside (evCall2 Tryz.prog gt lf d 79 #[a0])).bind fun v5n1 =>
 optK (un2 Tryz.prog .not v5n1) fun v6n2 =>
 ifV v6n2 (
 outK [(Value.pointer none), (Value.int .i64 1)]) (
 (inside (evBuild Tryz.prog 113 [(0, a0)])).bind fun v8n3 =>
 (inside (evBox Tryz.prog 113 v8n3)).bind fun v9n4 =>
 outK [v9n4, (Value.int .i64 0)])
theorem sh_delta_NewReader (lf d : Nat) (a0 : Value) : evCall2 Tryz.prog gt lf (d + 1) 37 #[a0] = inside (b_delta_NewReader lf d a0) := by kernel_rfl

/- picks_NewReader -/
noncomputable def b_picks_NewReader (lf d : Nat) : M Value :=
 (inside (evCall2 Tryz.prog gt lf d 80 #[])).bind fun v1n1 =>
 (inside (evBuild Tryz.prog 118 [(2, v1n1)])).bind fun v2n2 =>
 (inside (evBox Tryz.prog 118 v2n2)).bind fun v3n3 =>
 outK [v3n3]
theorem sh_picks_NewReader (lf d : Nat) : evCall2 Tryz.prog gt lf (d + 1) 38 #[] = inside (b_picks_NewReader lf d) := by kernel_rfl

/- picks_Reader_Picks -/
noncomputable def b_picks_Reader_Picks (lf d : Nat) (a0 : Value) : M Value :=
 optK (bin2 Tryz.prog .eql 62 a0 (Value.pointer none)) fun v4n1 =>
 ifV v4n1 (
 outK [(Value.slice none 0 0)]) (
 optK (nil2 a0) fun v6n2 =>
 optK (evFieldAddr Tryz.prog 118 v6n2 3) fun v7n3 =>
 (inside (evLoad Tryz.prog 22 v7n3)).bind fun v8n4 =>
 (inside (evCall2 Tryz.prog gt lf d 95 #[v8n4])).bind fun v9n5 =>
 outK [v9n5])
theorem sh_picks_Reader_Picks (lf d : Nat) (a0 : Value) : evCall2 Tryz.prog gt lf (d + 1) 52 #[a0] = inside (b_picks_Reader_Picks lf d a0) := by kernel_rfl

/- stream_Writer_magic -/
noncomputable def b_stream_Writer_magic (lf d : Nat) (a0 : Value) (a1 : Value) : M Value :=
 optK (nil2 a0) fun v5n1 =>
 optK (evFieldAddr Tryz.prog 89 v5n1 0) fun v6n2 =>
 (inside (evLoad Tryz.prog 71 v6n2)).bind fun v7n3 =>
 optK (bin2 Tryz.prog .shr 93 a1 (Value.int .u64 24)) fun v9n4 =>
 conv2 Tryz.prog 93 38 v9n4 fun v10n5 =>
 (inside (evCall2 Tryz.prog gt lf d 65 #[v7n3, v10n5, (Value.int .i64 24)])).bind fun v11n6 =>
 optK (nil2 a0) fun v13n7 =>
 optK (evFieldAddr Tryz.prog 89 v13n7 0) fun v14n8 =>
 (inside (evLoad Tryz.prog 71 v14n8)).bind fun v15n9 =>
 optK (bin2 Tryz.prog .and 93 a1 (Value.int .u64 16777215)) fun v17n10 =>
 conv2 Tryz.prog 93 38 v17n10 fun v18n11 =>
 (inside (evCall2 Tryz.prog gt lf d 65 #[v15n9, v18n11, (Value.int .i64 24)])).bind fun v19n12 =>
 outK []
theorem sh_stream_Writer_magic (lf d : Nat) (a0 : Value) (a1 : Value) : evCall2 Tryz.prog gt lf (d + 1) 62 #[a0, a1] = inside (b_stream_Writer_magic lf d a0 a1) := by kernel_rfl

/- delta_sized -/
noncomputable def b_delta_sized (lf d : Nat) (a0 : Value) : M Value :=
 optK (bin2 Tryz.prog .geq 3 a0 (Value.int .i64 3)) fun v4n1 =>
 ifV v4n1 (
 optK (bin2 Tryz.prog .leq 3 a0 (Value.int .i64 258)) fun v7n2 =>
 outK [v7n2]) (
 outK [(Value.bool false)])
theorem sh_delta_sized (lf d : Nat) (a0 : Value) : evCall2 Tryz.prog gt lf (d + 1) 79 #[a0] = inside (b_delta_sized lf d a0) := by kernel_rfl

/- picks_fresh -/
noncomputable def lpA_picks_fresh (lf d fu : Nat) (k : Ex → Fr → M Value) (x0 : Value) (x1 : Value) (x3 : Value) : M Value := loopK (fun s1 k1 => codeK Tryz.prog (evCall2 Tryz.prog gt lf d) (gt 80) lf (codeAt (bodyOf Tryz.prog 80) [true, true, false, true, false, false]) s1 k1) [0, 1, 3] fu [(0, x0), (1, x1), (3, x3)] k
noncomputable def kcA_picks_fresh (lf d : Nat) : Ex → Fr → M Value := contAt Tryz.prog (evCall2 Tryz.prog gt lf d) (gt 80) lf (bodyOf Tryz.prog 80) [true, true, false, true, false] (endK Tryz.prog (resOf Tryz.prog 80))
noncomputable def b_picks_fresh (lf d : Nat) : M Value :=
 (inside (evAlloc Tryz.prog 115)).bind fun v0n1 =>
 (inside (evAlloc Tryz.prog 115)).bind fun v1n2 =>
 lpA_picks_fresh lf d lf (kcA_picks_fresh lf d) v0n1 v1n2 (Value.int .i64 0)
theorem sh_picks_fresh (lf d : Nat) : evCall2 Tryz.prog gt lf (d + 1) 80 #[] = inside (b_picks_fresh lf d) := by kernel_rfl
theorem zeroA_picks_fresh (lf d : Nat) (k : Ex → Fr → M Value) (x0 : Value) (x1 : Value) (x3 : Value) : lpA_picks_fresh lf d 0 k x0 x1 x3 = M.fail := rfl
theorem succA_picks_fresh (lf d fu : Nat) (k : Ex → Fr → M Value) (x0 : Value) (x1 : Value) (x3 : Value) : lpA_picks_fresh lf d (fu + 1) k x0 x1 x3 =
  optK (bin2 Tryz.prog .lss 3 x3 (Value.int .i64 6)) fun v4n3 =>
  ifV v4n3 (
    optK (evIndexAddr Tryz.prog 115 x1 x3) fun v8n4 =>
    (inside (evStore Tryz.prog 3 v8n4 x3)).bind fun u5 =>
    optK (bin2 Tryz.prog .add 3 x3 (Value.int .i64 1)) fun v9n6 =>
    lpA_picks_fresh lf d fu k x0 x1 v9n6) (
    k (Ex.exit 0) [(0, x0), (1, x1), (3, x3), (4, v4n3)]) := by kernel_rfl
theorem kcAa_picks_fresh (lf d : Nat) (y0 : Value) (y1 : Value) (y3 : Value) (y4 : Value) : kcA_picks_fresh lf d (Ex.exit 0) [(0, y0), (1, y1), (3, y3), (4, y4)] =
  (inside (evLoad Tryz.prog 115 y1)).bind fun v10n7 =>
  (inside (evStore Tryz.prog 115 y0 v10n7)).bind fun u8 =>
  (evLoad Tryz.prog 115 y0).bind fun vrn9 =>
  outK [vrn9] := by kernel_rfl

/- slices_Clone_int_int -/
noncomputable def b_slices_Clone_int_int (lf d : Nat) (a0 : Value) : M Value :=
 optK (bin2 Tryz.prog .eql 22 a0 (Value.slice none 0 0)) fun v4n1 =>
 ifV v4n1 (
 outK [(Value.slice none 0 0)]) (
 (inside (evBuildSlice Tryz.prog 22 0 [])).bind fun v5n2 =>
 (inside (evAppend Tryz.prog 22 v5n2 a0)).bind fun v7n3 =>
 outK [v7n3])
theorem sh_slices_Clone_int_int (lf d : Nat) (a0 : Value) : evCall2 Tryz.prog gt lf (d + 1) 95 #[a0] = inside (b_slices_Clone_int_int lf d a0) := by kernel_rfl

end Go.Proofs.YthhhkplbjcknkaaGreatDoor

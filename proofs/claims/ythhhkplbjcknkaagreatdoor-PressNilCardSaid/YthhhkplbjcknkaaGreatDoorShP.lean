/- What the evaluators second form makes of the functions that the small statements of layer 23 reach. -/
import Derived.Test.YthhhkplbjcknkaaGreatDoorRows
import Derived.Test.YthhhkplbjcknkaaGreatDoorEvX
namespace Go.Proofs.YthhhkplbjcknkaaGreatDoor
set_option linter.unusedVariables false
set_option linter.unusedSimpArgs false
open Go.RowKit Ev
def gtL : List (List Nat) := [[], [], [], [], [], [0, 1, 2, 4, 5, 6, 7, 9, 10, 11, 24, 36, 37, 38, 39, 44, 57, 72], [0, 1, 4, 5], [0, 1, 2, 3, 4, 5, 6, 29], [], [], [], [], [], [], [], [], [], [], [], [], [], [0, 2, 4], [0, 2, 4], [0, 1, 2], [], [0, 1, 2, 6, 7, 8, 9, 10, 12, 26], [0, 1, 4, 5, 13], [0, 2, 3, 5, 7, 34, 35, 36, 37], [0, 2, 3, 12], [0, 2, 10], [0, 1, 4, 5, 13, 22], [0, 1, 4, 5, 6, 12], [0, 2, 4], [0, 2], [0, 2, 4], [0, 1, 2, 6, 7, 8, 9, 22], [0, 1, 2, 6, 7], [], [], [], [], [], [], [], [], [], [], [], [], [], [], [], [], [0], [], [0, 2, 4], [0, 11], [0, 2, 3, 5], [], [], [0, 2, 8], [], [], [], [], [0, 1, 2, 6, 7, 8, 11, 16, 17, 18], [0, 2, 4], [0, 1, 2, 6], [], [0, 1, 4, 5, 19], [0, 2], [0, 2, 3, 9], [0, 2, 3, 4, 5, 11, 15, 16], [0, 2, 4], [0, 2, 4], [0, 2, 4], [0, 2], [0, 19], [0, 1, 4, 5, 27, 34, 55, 64], [], [], [], [], [], [], [], [], [], [], [], [], [], [], [], [], [], [], [], [], [], [0, 1, 4, 29], [], [], [0, 2], [], [], [], [], [], [], [0, 1, 4], [0, 2], [0, 2], [], [], [], [], [], [], [0], [0], [0, 2, 4], [], [0, 2, 3, 4, 5, 6, 7, 8, 9, 11, 23, 32, 44], [0, 2, 3, 23], [0, 2, 3, 25], [], [], [], [], [], [], [], [], [], [], [], [], [], [], [], [], [], [], [], [], [], [], [], [], [], [], [], [], [], [], [], [], [], [], [], [], [], [], [], [], [], [], [], [0, 1, 2, 3, 4, 5, 6, 11, 12], [0, 2, 4], [0, 1, 2, 4, 6, 7, 8, 9, 22], [0, 2, 3, 4, 10], [], [], [], [], [], [], [], [], [], [], [], [], [], [], [], [], [], [], [], [], [], [], [], [], [], [], [], [], [], [0, 2, 3], [], [0, 2, 4], [0, 3], [0, 1, 4, 5, 7, 22, 44], [], [], [], [], [], [], [], [], [], [], [], [], [], [], [], [], [], [], [], [], [], [], [], [], [], [], [], [], [], [], [], [], [], [], [], [], [], [], [], [], [], [], [], [], [], [], [], [], [], [], [], [], [], [], [], [], [], [], [], [], [], [], [], [], [], [], [], [], [], [], [], [], [], [], [], [], [], [], [], [], [], [], [], [], [], [], [], [], [], [], [], [], [], [], [], [], [], [], [], []]
def gt (f : Nat) : List Nat := gtL.getD f []
theorem okd : okDsts Tryz.prog = true := by kernel_rfl
theorem len47 (a : Option Addr) (n c : Nat) : len2 Tryz.prog #[47] [.slice a n c] = some (.int .i64 n) := len_slice Tryz.underlying47 a n c
theorem nt3 : isNilT Tryz.prog 3 = false := by kernel_rfl
theorem bgtr3 (a b : Int) : bin2 Tryz.prog .gtr 3 (.int .i64 a) (.int .i64 b) = some (.bool (decide (b < a))) := b_gtr nt3 a b
theorem fa46f2 (b off : Nat) : evFieldAddr Tryz.prog 46 (.pointer (some ⟨b, off, none⟩)) 2 = some (.pointer (some ⟨b, off + 2, none⟩)) := by kernel_rfl
theorem ag3 : agg? Tryz.prog 3 = some false := by kernel_rfl
theorem ldr3 {β : Type} {W : Nat → Prop} {n0 : Nat} {h : H} {n : Nat} {Q : β → H → Nat → Prop} (b off : Nat) (k : Value → M β) (hb : b < n) : Run W n0 ((inside (evLoad Tryz.prog 3 (.pointer (some ⟨b, off, none⟩)))).bind k) h n Q ↔ optG (h.get b) fun B => Run W n0 (optK (B.cells[off]?) k) h n Q := ld_iff ag3 b off k hb
theorem fa46f0 (b off : Nat) : evFieldAddr Tryz.prog 46 (.pointer (some ⟨b, off, none⟩)) 0 = some (.pointer (some ⟨b, off + 0, none⟩)) := by kernel_rfl
theorem fa46f1 (b off : Nat) : evFieldAddr Tryz.prog 46 (.pointer (some ⟨b, off, none⟩)) 1 = some (.pointer (some ⟨b, off + 1, none⟩)) := by kernel_rfl
theorem blss3 (a b : Int) : bin2 Tryz.prog .lss 3 (.int .i64 a) (.int .i64 b) = some (.bool (decide (a < b))) := b_lss nt3 a b
theorem sz9 : size? Tryz.prog 9 = some 1 := by kernel_rfl
theorem ix47 (b off n c : Nat) (k : IntKind) (i : Int) (h0 : 0 ≤ i) (h1 : i < n) : evIndexAddr Tryz.prog 47 (.slice (some ⟨b, off, none⟩) n c) (.int k i) = some (.pointer (some ⟨b, off + i.toNat, none⟩)) := (ix_slice Tryz.underlying47 sz9 b off n c k i h0 h1).trans (by rw [Nat.mul_one])
theorem ag9 : agg? Tryz.prog 9 = some false := by kernel_rfl
theorem ldr9 {β : Type} {W : Nat → Prop} {n0 : Nat} {h : H} {n : Nat} {Q : β → H → Nat → Prop} (b off : Nat) (k : Value → M β) (hb : b < n) : Run W n0 ((inside (evLoad Tryz.prog 9 (.pointer (some ⟨b, off, none⟩)))).bind k) h n Q ↔ optG (h.get b) fun B => Run W n0 (optK (B.cells[off]?) k) h n Q := ld_iff ag9 b off k hb
theorem len9 (s : List UInt8) : len2 Tryz.prog #[9] [.string ⟨s.toArray⟩] = some (.int .i64 s.length) := len_strL Tryz.underlying9 s
theorem bsub3 (a b : Int) : bin2 Tryz.prog .sub 3 (.int .i64 a) (.int .i64 b) = some (.int .i64 (IntKind.i64.wrap (a - b))) := b_sub nt3 a b
theorem bneq3 (a b : Int) : bin2 Tryz.prog .neq 3 (.int .i64 a) (.int .i64 b) = some (.bool (a != b)) := b_neq nt3 a b
theorem badd3 (a b : Int) : bin2 Tryz.prog .add 3 (.int .i64 a) (.int .i64 b) = some (.int .i64 (IntKind.i64.wrap (a + b))) := b_add nt3 a b
theorem beql3 (a b : Int) : bin2 Tryz.prog .eql 3 (.int .i64 a) (.int .i64 b) = some (.bool (a == b)) := b_eql nt3 a b
theorem nt25 : isNilT Tryz.prog 25 = false := by kernel_rfl
theorem beql25 (a b : Int) : bin2 Tryz.prog .eql 25 (.int .i64 a) (.int .i64 b) = some (.bool (a == b)) := b_eql nt25 a b
theorem nt9 : isNilT Tryz.prog 9 = false := by kernel_rfl
theorem beql9 (a b : List UInt8) : bin2 Tryz.prog .eql 9 (.string ⟨a.toArray⟩) (.string ⟨b.toArray⟩) = some (.bool (decide (a = b))) := b_eqlS nt9 a b
theorem beql48s (a : Addr) : bin2 Tryz.prog .eql 48 (.pointer (some a)) (.pointer none) = some (.bool false) := by kernel_rfl
theorem beql48n : bin2 Tryz.prog .eql 48 (.pointer none) (.pointer none) = some (.bool true) := by kernel_rfl
theorem beql39s (a : Addr) : bin2 Tryz.prog .eql 39 (.pointer (some a)) (.pointer none) = some (.bool false) := by kernel_rfl
theorem beql39n : bin2 Tryz.prog .eql 39 (.pointer none) (.pointer none) = some (.bool true) := by kernel_rfl
theorem fa89f0 (b off : Nat) : evFieldAddr Tryz.prog 89 (.pointer (some ⟨b, off, none⟩)) 0 = some (.pointer (some ⟨b, off + 0, none⟩)) := by kernel_rfl
theorem ag71 : agg? Tryz.prog 71 = some false := by kernel_rfl
theorem ldr71 {β : Type} {W : Nat → Prop} {n0 : Nat} {h : H} {n : Nat} {Q : β → H → Nat → Prop} (b off : Nat) (k : Value → M β) (hb : b < n) : Run W n0 ((inside (evLoad Tryz.prog 71 (.pointer (some ⟨b, off, none⟩)))).bind k) h n Q ↔ optG (h.get b) fun B => Run W n0 (optK (B.cells[off]?) k) h n Q := ld_iff ag71 b off k hb
theorem bneq25 (a b : Int) : bin2 Tryz.prog .neq 25 (.int .i64 a) (.int .i64 b) = some (.bool (a != b)) := b_neq nt25 a b
theorem bd109x0x3x8x9 (v0 : Int) (v3 : Option Addr) (v8 : Option Addr) (v9 : ByteArray) : evBuild Tryz.prog 109 [(0, (Value.int .i64 v0)), (3, (Value.pointer v3)), (8, (Value.pointer v8)), (9, (Value.string v9))] = M.ret (.agg #[(Value.int .i64 v0), (Go.Value.string { data := #[] }), (Go.Value.bool false), (Value.pointer v3), (Go.Value.bool false), (Go.Value.slice none 0 0), (Go.Value.pointer none), (Go.Value.int Go.IntKind.i64 0), (Value.pointer v8), (Value.string v9), (Go.Value.bool false), (Go.Value.int Go.IntKind.i64 0)]) := by kernel_rfl
theorem fa109f2 (b off : Nat) : evFieldAddr Tryz.prog 109 (.pointer (some ⟨b, off, none⟩)) 2 = some (.pointer (some ⟨b, off + 2, none⟩)) := by kernel_rfl
theorem ag4 : agg? Tryz.prog 4 = some false := by kernel_rfl
theorem ldr4 {β : Type} {W : Nat → Prop} {n0 : Nat} {h : H} {n : Nat} {Q : β → H → Nat → Prop} (b off : Nat) (k : Value → M β) (hb : b < n) : Run W n0 ((inside (evLoad Tryz.prog 4 (.pointer (some ⟨b, off, none⟩)))).bind k) h n Q ↔ optG (h.get b) fun B => Run W n0 (optK (B.cells[off]?) k) h n Q := ld_iff ag4 b off k hb
theorem fa109f0 (b off : Nat) : evFieldAddr Tryz.prog 109 (.pointer (some ⟨b, off, none⟩)) 0 = some (.pointer (some ⟨b, off + 0, none⟩)) := by kernel_rfl
theorem fa109f1 (b off : Nat) : evFieldAddr Tryz.prog 109 (.pointer (some ⟨b, off, none⟩)) 1 = some (.pointer (some ⟨b, off + 1, none⟩)) := by kernel_rfl
theorem slh9 {β : Type} (l : List UInt8) (kd : IntKind) (j : Int) (k : Value → M β) (h0 : 0 ≤ j) (h1 : j ≤ l.length) : slice2 Tryz.prog 9 (.string ⟨l.toArray⟩) none (some (.int kd j)) none k = k (.string ⟨(l.take j.toNat).toArray⟩) := sls_hi Tryz.underlying9 l kd j k h0 h1
theorem sll9 {β : Type} (l : List UInt8) (kd : IntKind) (i : Int) (k : Value → M β) (h0 : 0 ≤ i) (h1 : i ≤ l.length) : slice2 Tryz.prog 9 (.string ⟨l.toArray⟩) (some (.int kd i)) none none k = k (.string ⟨(l.drop i.toNat).toArray⟩) := sls_lo Tryz.underlying9 l kd i k h0 h1
theorem slb9 {β : Type} (l : List UInt8) (kd kd' : IntKind) (i j : Int) (k : Value → M β) (h0 : 0 ≤ i) (h1 : i ≤ j) (h2 : j ≤ l.length) : slice2 Tryz.prog 9 (.string ⟨l.toArray⟩) (some (.int kd i)) (some (.int kd' j)) none k = k (.string ⟨((l.drop i.toNat).take (j.toNat - i.toNat)).toArray⟩) := sls_both Tryz.underlying9 l kd kd' i j k h0 h1 h2
theorem badd9 (a b : List UInt8) (h : a.length + b.length ≤ 9223372036854775807) : bin2 Tryz.prog .add 9 (.string ⟨a.toArray⟩) (.string ⟨b.toArray⟩) = some (.string ⟨(a ++ b).toArray⟩) := b_addS nt9 a b h
theorem str9 {β : Type} {W : Nat → Prop} {n0 : Nat} {h : H} {n : Nat} {Q : β → H → Nat → Prop} (b off : Nat) (v : Value) (k : Value → M β) (hb : b < n) (h1 : one v = true) : Run W n0 ((inside (evStore Tryz.prog 9 (.pointer (some ⟨b, off, none⟩)) v)).bind k) h n Q ↔ optG (h.get b) fun B => B.own = true ∧ off < B.cells.length ∧ (n0 ≤ b ∨ W b) ∧ Run W n0 (k undef) (h.set b (some ⟨B.elem, B.own, B.cells.set off v⟩)) n Q := st_iff sz9 b off v k hb h1
theorem fa109f3 (b off : Nat) : evFieldAddr Tryz.prog 109 (.pointer (some ⟨b, off, none⟩)) 3 = some (.pointer (some ⟨b, off + 3, none⟩)) := by kernel_rfl
theorem ag101 : agg? Tryz.prog 101 = some false := by kernel_rfl
theorem ldr101 {β : Type} {W : Nat → Prop} {n0 : Nat} {h : H} {n : Nat} {Q : β → H → Nat → Prop} (b off : Nat) (k : Value → M β) (hb : b < n) : Run W n0 ((inside (evLoad Tryz.prog 101 (.pointer (some ⟨b, off, none⟩)))).bind k) h n Q ↔ optG (h.get b) fun B => Run W n0 (optK (B.cells[off]?) k) h n Q := ld_iff ag101 b off k hb
theorem fa109f6 (b off : Nat) : evFieldAddr Tryz.prog 109 (.pointer (some ⟨b, off, none⟩)) 6 = some (.pointer (some ⟨b, off + 6, none⟩)) := by kernel_rfl
theorem ag107 : agg? Tryz.prog 107 = some false := by kernel_rfl
theorem ldr107 {β : Type} {W : Nat → Prop} {n0 : Nat} {h : H} {n : Nat} {Q : β → H → Nat → Prop} (b off : Nat) (k : Value → M β) (hb : b < n) : Run W n0 ((inside (evLoad Tryz.prog 107 (.pointer (some ⟨b, off, none⟩)))).bind k) h n Q ↔ optG (h.get b) fun B => Run W n0 (optK (B.cells[off]?) k) h n Q := ld_iff ag107 b off k hb
theorem fa109f9 (b off : Nat) : evFieldAddr Tryz.prog 109 (.pointer (some ⟨b, off, none⟩)) 9 = some (.pointer (some ⟨b, off + 9, none⟩)) := by kernel_rfl
theorem fa109f5 (b off : Nat) : evFieldAddr Tryz.prog 109 (.pointer (some ⟨b, off, none⟩)) 5 = some (.pointer (some ⟨b, off + 5, none⟩)) := by kernel_rfl
theorem ag106 : agg? Tryz.prog 106 = some false := by kernel_rfl
theorem ldr106 {β : Type} {W : Nat → Prop} {n0 : Nat} {h : H} {n : Nat} {Q : β → H → Nat → Prop} (b off : Nat) (k : Value → M β) (hb : b < n) : Run W n0 ((inside (evLoad Tryz.prog 106 (.pointer (some ⟨b, off, none⟩)))).bind k) h n Q ↔ optG (h.get b) fun B => Run W n0 (optK (B.cells[off]?) k) h n Q := ld_iff ag106 b off k hb
theorem len106 (a : Option Addr) (n c : Nat) : len2 Tryz.prog #[106] [.slice a n c] = some (.int .i64 n) := len_slice Tryz.underlying106 a n c
theorem sz111 : size? Tryz.prog 111 = some 3 := by kernel_rfl
theorem ix106 (b off n c : Nat) (k : IntKind) (i : Int) (h0 : 0 ≤ i) (h1 : i < n) : evIndexAddr Tryz.prog 106 (.slice (some ⟨b, off, none⟩) n c) (.int k i) = some (.pointer (some ⟨b, off + i.toNat * 3, none⟩)) := ix_slice Tryz.underlying106 sz111 b off n c k i h0 h1
theorem fa111f0 (b off : Nat) : evFieldAddr Tryz.prog 111 (.pointer (some ⟨b, off, none⟩)) 0 = some (.pointer (some ⟨b, off + 0, none⟩)) := by kernel_rfl
theorem fa109f10 (b off : Nat) : evFieldAddr Tryz.prog 109 (.pointer (some ⟨b, off, none⟩)) 10 = some (.pointer (some ⟨b, off + 10, none⟩)) := by kernel_rfl
theorem bneq9 (a b : List UInt8) : bin2 Tryz.prog .neq 9 (.string ⟨a.toArray⟩) (.string ⟨b.toArray⟩) = some (.bool (!decide (a = b))) := b_neqS nt9 a b
theorem sz4 : size? Tryz.prog 4 = some 1 := by kernel_rfl
theorem str4 {β : Type} {W : Nat → Prop} {n0 : Nat} {h : H} {n : Nat} {Q : β → H → Nat → Prop} (b off : Nat) (v : Value) (k : Value → M β) (hb : b < n) (h1 : one v = true) : Run W n0 ((inside (evStore Tryz.prog 4 (.pointer (some ⟨b, off, none⟩)) v)).bind k) h n Q ↔ optG (h.get b) fun B => B.own = true ∧ off < B.cells.length ∧ (n0 ≤ b ∨ W b) ∧ Run W n0 (k undef) (h.set b (some ⟨B.elem, B.own, B.cells.set off v⟩)) n Q := st_iff sz4 b off v k hb h1
theorem bneq48s (a : Addr) : bin2 Tryz.prog .neq 48 (.pointer (some a)) (.pointer none) = some (.bool true) := by kernel_rfl
theorem bneq48n : bin2 Tryz.prog .neq 48 (.pointer none) (.pointer none) = some (.bool false) := by kernel_rfl
theorem fa109f11 (b off : Nat) : evFieldAddr Tryz.prog 109 (.pointer (some ⟨b, off, none⟩)) 11 = some (.pointer (some ⟨b, off + 11, none⟩)) := by kernel_rfl
theorem sz3 : size? Tryz.prog 3 = some 1 := by kernel_rfl
theorem str3 {β : Type} {W : Nat → Prop} {n0 : Nat} {h : H} {n : Nat} {Q : β → H → Nat → Prop} (b off : Nat) (v : Value) (k : Value → M β) (hb : b < n) (h1 : one v = true) : Run W n0 ((inside (evStore Tryz.prog 3 (.pointer (some ⟨b, off, none⟩)) v)).bind k) h n Q ↔ optG (h.get b) fun B => B.own = true ∧ off < B.cells.length ∧ (n0 ≤ b ∨ W b) ∧ Run W n0 (k undef) (h.set b (some ⟨B.elem, B.own, B.cells.set off v⟩)) n Q := st_iff sz3 b off v k hb h1
theorem bmul3 (a b : Int) : bin2 Tryz.prog .mul 3 (.int .i64 a) (.int .i64 b) = some (.int .i64 (IntKind.i64.wrap (a * b))) := b_mul nt3 a b
theorem bd135x  : evBuild Tryz.prog 135 [] = M.ret (.agg #[(Go.Value.slice none 0 0), (Go.Value.int Go.IntKind.u8 0), (Go.Value.int Go.IntKind.i64 0)]) := by kernel_rfl
theorem beql71s (a : Addr) : bin2 Tryz.prog .eql 71 (.pointer (some a)) (.pointer none) = some (.bool false) := by kernel_rfl
theorem beql71n : bin2 Tryz.prog .eql 71 (.pointer none) (.pointer none) = some (.bool true) := by kernel_rfl
theorem fa135f2 (b off : Nat) : evFieldAddr Tryz.prog 135 (.pointer (some ⟨b, off, none⟩)) 2 = some (.pointer (some ⟨b, off + 2, none⟩)) := by kernel_rfl
theorem bneq71s (a : Addr) : bin2 Tryz.prog .neq 71 (.pointer (some a)) (.pointer none) = some (.bool true) := by kernel_rfl
theorem bneq71n : bin2 Tryz.prog .neq 71 (.pointer none) (.pointer none) = some (.bool false) := by kernel_rfl
theorem brem3 (a b : Int) (h0 : b ≠ 0) : bin2 Tryz.prog .rem 3 (.int .i64 a) (.int .i64 b) = some (.int .i64 (a.tmod b)) := b_rem nt3 a b h0
theorem fa135f0 (b off : Nat) : evFieldAddr Tryz.prog 135 (.pointer (some ⟨b, off, none⟩)) 0 = some (.pointer (some ⟨b, off + 0, none⟩)) := by kernel_rfl
theorem ag133 : agg? Tryz.prog 133 = some false := by kernel_rfl
theorem ldr133 {β : Type} {W : Nat → Prop} {n0 : Nat} {h : H} {n : Nat} {Q : β → H → Nat → Prop} (b off : Nat) (k : Value → M β) (hb : b < n) : Run W n0 ((inside (evLoad Tryz.prog 133 (.pointer (some ⟨b, off, none⟩)))).bind k) h n Q ↔ optG (h.get b) fun B => Run W n0 (optK (B.cells[off]?) k) h n Q := ld_iff ag133 b off k hb
theorem sz133 : size? Tryz.prog 133 = some 1 := by kernel_rfl
theorem str133 {β : Type} {W : Nat → Prop} {n0 : Nat} {h : H} {n : Nat} {Q : β → H → Nat → Prop} (b off : Nat) (v : Value) (k : Value → M β) (hb : b < n) (h1 : one v = true) : Run W n0 ((inside (evStore Tryz.prog 133 (.pointer (some ⟨b, off, none⟩)) v)).bind k) h n Q ↔ optG (h.get b) fun B => B.own = true ∧ off < B.cells.length ∧ (n0 ≤ b ∨ W b) ∧ Run W n0 (k undef) (h.set b (some ⟨B.elem, B.own, B.cells.set off v⟩)) n Q := st_iff sz133 b off v k hb h1
theorem nt38 : isNilT Tryz.prog 38 = false := by kernel_rfl
theorem bshr38 {k' : IntKind} (a b : Int) (h0 : 0 ≤ b) : bin2 Tryz.prog .shr 38 (.int .u32 a) (.int k' b) = some (.int .u32 (a.fdiv (2 ^ (min b.toNat (IntKind.u32).bits)))) := b_shr nt38 a b h0
theorem band38 (a b : Int) : bin2 Tryz.prog .and 38 (.int .u32 a) (.int .u32 b) = some (.int .u32 (IntKind.u32.wrap (BitVec.ofInt (IntKind.u32).bits a &&& BitVec.ofInt (IntKind.u32).bits b).toNat)) := b_and nt38 a b
theorem cv38x5 {β : Type} (x : Int) (k : Value → M β) : conv2 Tryz.prog 38 5 (.int .u32 x) k = k (.int .u8 (IntKind.u8.wrap x)) := by kernel_rfl
theorem len133 (a : Option Addr) (n c : Nat) : len2 Tryz.prog #[133] [.slice a n c] = some (.int .i64 n) := len_slice Tryz.underlying133 a n c
theorem bgeq3 (a b : Int) : bin2 Tryz.prog .geq 3 (.int .i64 a) (.int .i64 b) = some (.bool (decide (b ≤ a))) := b_geq nt3 a b
theorem bleq3 (a b : Int) : bin2 Tryz.prog .leq 3 (.int .i64 a) (.int .i64 b) = some (.bool (decide (a ≤ b))) := b_leq nt3 a b
theorem bd160x1 (v1 : Option Addr) : evBuild Tryz.prog 160 [(1, (Value.pointer v1))] = M.ret (.agg #[(Go.Value.slice none 0 0), (Value.pointer v1), (Go.Value.int Go.IntKind.i64 0)]) := by kernel_rfl
theorem bd164x0x1x2 (v0f0a : Option Addr) (v0f0n v0f0c : Nat) (v0f1 : Option Addr) (v0f2 : Int) (v1 : Int) (v2 : Option Addr) : evBuild Tryz.prog 164 [(0, (Value.agg #[(Value.slice v0f0a v0f0n v0f0c), (Value.pointer v0f1), (Value.int .i64 v0f2)])), (1, (Value.int .i64 v1)), (2, (Value.pointer v2))] = M.ret (.agg #[(Value.slice v0f0a v0f0n v0f0c), (Value.pointer v0f1), (Value.int .i64 v0f2), (Value.int .i64 v1), (Value.pointer v2)]) := by kernel_rfl
theorem bd89x0 (v0 : Option Addr) : evBuild Tryz.prog 89 [(0, (Value.pointer v0))] = M.ret (.agg #[(Value.pointer v0), (Go.Value.int Go.IntKind.u32 0), (Go.Value.bool false)]) := by kernel_rfl
theorem ixs9 (l : List UInt8) (k : IntKind) (i : Int) (h0 : 0 ≤ i) (h1 : i < l.length) : index2 Tryz.prog 9 (.string ⟨l.toArray⟩) (.int k i) = some (.int .u8 (l.getD i.toNat 0).toNat) := idx_str Tryz.underlying9 l k i h0 h1
theorem cv5x38 {β : Type} (x : Int) (k : Value → M β) : conv2 Tryz.prog 5 38 (.int .u8 x) k = k (.int .u32 (IntKind.u32.wrap x)) := by kernel_rfl
theorem cv3x38 {β : Type} (x : Int) (k : Value → M β) : conv2 Tryz.prog 3 38 (.int .i64 x) k = k (.int .u32 (IntKind.u32.wrap x)) := by kernel_rfl
theorem beql101s (a : Addr) : bin2 Tryz.prog .eql 101 (.pointer (some a)) (.pointer none) = some (.bool false) := by kernel_rfl
theorem beql101n : bin2 Tryz.prog .eql 101 (.pointer none) (.pointer none) = some (.bool true) := by kernel_rfl
theorem fa164f0 (b off : Nat) : evFieldAddr Tryz.prog 164 (.pointer (some ⟨b, off, none⟩)) 0 = some (.pointer (some ⟨b, off + 0, none⟩)) := by kernel_rfl
theorem fa160f0 (b off : Nat) : evFieldAddr Tryz.prog 160 (.pointer (some ⟨b, off, none⟩)) 0 = some (.pointer (some ⟨b, off + 0, none⟩)) := by kernel_rfl
theorem fa164f2 (b off : Nat) : evFieldAddr Tryz.prog 164 (.pointer (some ⟨b, off, none⟩)) 2 = some (.pointer (some ⟨b, off + 4, none⟩)) := by kernel_rfl
theorem ag161 : agg? Tryz.prog 161 = some false := by kernel_rfl
theorem ldr161 {β : Type} {W : Nat → Prop} {n0 : Nat} {h : H} {n : Nat} {Q : β → H → Nat → Prop} (b off : Nat) (k : Value → M β) (hb : b < n) : Run W n0 ((inside (evLoad Tryz.prog 161 (.pointer (some ⟨b, off, none⟩)))).bind k) h n Q ↔ optG (h.get b) fun B => Run W n0 (optK (B.cells[off]?) k) h n Q := ld_iff ag161 b off k hb
theorem fv166f1 (c0 c1 : Value) : evField Tryz.prog 166 (.agg #[c0, c1]) 1 = some c1 := by kernel_rfl
theorem beql107s (a : Addr) : bin2 Tryz.prog .eql 107 (.pointer (some a)) (.pointer none) = some (.bool false) := by kernel_rfl
theorem beql107n : bin2 Tryz.prog .eql 107 (.pointer none) (.pointer none) = some (.bool true) := by kernel_rfl
theorem fa170f1 (b off : Nat) : evFieldAddr Tryz.prog 170 (.pointer (some ⟨b, off, none⟩)) 1 = some (.pointer (some ⟨b, off + 1, none⟩)) := by kernel_rfl
theorem ag168 : agg? Tryz.prog 168 = some false := by kernel_rfl
theorem ldr168 {β : Type} {W : Nat → Prop} {n0 : Nat} {h : H} {n : Nat} {Q : β → H → Nat → Prop} (b off : Nat) (k : Value → M β) (hb : b < n) : Run W n0 ((inside (evLoad Tryz.prog 168 (.pointer (some ⟨b, off, none⟩)))).bind k) h n Q ↔ optG (h.get b) fun B => Run W n0 (optK (B.cells[off]?) k) h n Q := ld_iff ag168 b off k hb
theorem fa170f3 (b off : Nat) : evFieldAddr Tryz.prog 170 (.pointer (some ⟨b, off, none⟩)) 3 = some (.pointer (some ⟨b, off + 3, none⟩)) := by kernel_rfl
theorem bneq107s (a : Addr) : bin2 Tryz.prog .neq 107 (.pointer (some a)) (.pointer none) = some (.bool true) := by kernel_rfl
theorem bneq107n : bin2 Tryz.prog .neq 107 (.pointer none) (.pointer none) = some (.bool false) := by kernel_rfl
theorem fa109f7 (b off : Nat) : evFieldAddr Tryz.prog 109 (.pointer (some ⟨b, off, none⟩)) 7 = some (.pointer (some ⟨b, off + 7, none⟩)) := by kernel_rfl
theorem fa109f4 (b off : Nat) : evFieldAddr Tryz.prog 109 (.pointer (some ⟨b, off, none⟩)) 4 = some (.pointer (some ⟨b, off + 4, none⟩)) := by kernel_rfl
theorem sz106 : size? Tryz.prog 106 = some 1 := by kernel_rfl
theorem str106 {β : Type} {W : Nat → Prop} {n0 : Nat} {h : H} {n : Nat} {Q : β → H → Nat → Prop} (b off : Nat) (v : Value) (k : Value → M β) (hb : b < n) (h1 : one v = true) : Run W n0 ((inside (evStore Tryz.prog 106 (.pointer (some ⟨b, off, none⟩)) v)).bind k) h n Q ↔ optG (h.get b) fun B => B.own = true ∧ off < B.cells.length ∧ (n0 ≤ b ∨ W b) ∧ Run W n0 (k undef) (h.set b (some ⟨B.elem, B.own, B.cells.set off v⟩)) n Q := st_iff sz106 b off v k hb h1
theorem sz107 : size? Tryz.prog 107 = some 1 := by kernel_rfl
theorem str107 {β : Type} {W : Nat → Prop} {n0 : Nat} {h : H} {n : Nat} {Q : β → H → Nat → Prop} (b off : Nat) (v : Value) (k : Value → M β) (hb : b < n) (h1 : one v = true) : Run W n0 ((inside (evStore Tryz.prog 107 (.pointer (some ⟨b, off, none⟩)) v)).bind k) h n Q ↔ optG (h.get b) fun B => B.own = true ∧ off < B.cells.length ∧ (n0 ≤ b ∨ W b) ∧ Run W n0 (k undef) (h.set b (some ⟨B.elem, B.own, B.cells.set off v⟩)) n Q := st_iff sz107 b off v k hb h1
theorem fa109f8 (b off : Nat) : evFieldAddr Tryz.prog 109 (.pointer (some ⟨b, off, none⟩)) 8 = some (.pointer (some ⟨b, off + 8, none⟩)) := by kernel_rfl
theorem ag39 : agg? Tryz.prog 39 = some false := by kernel_rfl
theorem ldr39 {β : Type} {W : Nat → Prop} {n0 : Nat} {h : H} {n : Nat} {Q : β → H → Nat → Prop} (b off : Nat) (k : Value → M β) (hb : b < n) : Run W n0 ((inside (evLoad Tryz.prog 39 (.pointer (some ⟨b, off, none⟩)))).bind k) h n Q ↔ optG (h.get b) fun B => Run W n0 (optK (B.cells[off]?) k) h n Q := ld_iff ag39 b off k hb
theorem fa135f1 (b off : Nat) : evFieldAddr Tryz.prog 135 (.pointer (some ⟨b, off, none⟩)) 1 = some (.pointer (some ⟨b, off + 1, none⟩)) := by kernel_rfl
theorem ag5 : agg? Tryz.prog 5 = some false := by kernel_rfl
theorem ldr5 {β : Type} {W : Nat → Prop} {n0 : Nat} {h : H} {n : Nat} {Q : β → H → Nat → Prop} (b off : Nat) (k : Value → M β) (hb : b < n) : Run W n0 ((inside (evLoad Tryz.prog 5 (.pointer (some ⟨b, off, none⟩)))).bind k) h n Q ↔ optG (h.get b) fun B => Run W n0 (optK (B.cells[off]?) k) h n Q := ld_iff ag5 b off k hb
theorem nt5 : isNilT Tryz.prog 5 = false := by kernel_rfl
theorem bshl5 {k' : IntKind} (a b : Int) (h0 : 0 ≤ b) : bin2 Tryz.prog .shl 5 (.int .u8 a) (.int k' b) = some (.int .u8 (IntKind.u8.wrap (a * 2 ^ (min b.toNat (IntKind.u8).bits)))) := b_shl nt5 a b h0
theorem bor5 (a b : Int) : bin2 Tryz.prog .or 5 (.int .u8 a) (.int .u8 b) = some (.int .u8 (IntKind.u8.wrap (BitVec.ofInt (IntKind.u8).bits a ||| BitVec.ofInt (IntKind.u8).bits b).toNat)) := b_or nt5 a b
theorem sz5 : size? Tryz.prog 5 = some 1 := by kernel_rfl
theorem str5 {β : Type} {W : Nat → Prop} {n0 : Nat} {h : H} {n : Nat} {Q : β → H → Nat → Prop} (b off : Nat) (v : Value) (k : Value → M β) (hb : b < n) (h1 : one v = true) : Run W n0 ((inside (evStore Tryz.prog 5 (.pointer (some ⟨b, off, none⟩)) v)).bind k) h n Q ↔ optG (h.get b) fun B => B.own = true ∧ off < B.cells.length ∧ (n0 ≤ b ∨ W b) ∧ Run W n0 (k undef) (h.set b (some ⟨B.elem, B.own, B.cells.set off v⟩)) n Q := st_iff sz5 b off v k hb h1
theorem fa170f0 (b off : Nat) : evFieldAddr Tryz.prog 170 (.pointer (some ⟨b, off, none⟩)) 0 = some (.pointer (some ⟨b, off + 0, none⟩)) := by kernel_rfl
theorem cv38x93 {β : Type} (x : Int) (k : Value → M β) : conv2 Tryz.prog 38 93 (.int .u32 x) k = k (.int .u64 (IntKind.u64.wrap x)) := by kernel_rfl
theorem nt93 : isNilT Tryz.prog 93 = false := by kernel_rfl
theorem bshr93 {k' : IntKind} (a b : Int) (h0 : 0 ≤ b) : bin2 Tryz.prog .shr 93 (.int .u64 a) (.int k' b) = some (.int .u64 (a.fdiv (2 ^ (min b.toNat (IntKind.u64).bits)))) := b_shr nt93 a b h0
theorem beql93 (a b : Int) : bin2 Tryz.prog .eql 93 (.int .u64 a) (.int .u64 b) = some (.bool (a == b)) := b_eql nt93 a b
theorem bd209x  : evBuild Tryz.prog 209 [] = M.ret (.agg #[(Go.Value.int Go.IntKind.u8 0), (Go.Value.int Go.IntKind.i64 0)]) := by kernel_rfl
theorem beql161s (a : Addr) : bin2 Tryz.prog .eql 161 (.pointer (some a)) (.pointer none) = some (.bool false) := by kernel_rfl
theorem beql161n : bin2 Tryz.prog .eql 161 (.pointer none) (.pointer none) = some (.bool true) := by kernel_rfl
theorem bd166x  : evBuild Tryz.prog 166 [] = M.ret (.agg #[(Go.Value.int Go.IntKind.u8 0), (Go.Value.int Go.IntKind.i64 0)]) := by kernel_rfl
theorem fa209f0 (b off : Nat) : evFieldAddr Tryz.prog 209 (.pointer (some ⟨b, off, none⟩)) 0 = some (.pointer (some ⟨b, off + 0, none⟩)) := by kernel_rfl
theorem fa111f1 (b off : Nat) : evFieldAddr Tryz.prog 111 (.pointer (some ⟨b, off, none⟩)) 1 = some (.pointer (some ⟨b, off + 1, none⟩)) := by kernel_rfl
theorem ag38 : agg? Tryz.prog 38 = some false := by kernel_rfl
theorem ldr38 {β : Type} {W : Nat → Prop} {n0 : Nat} {h : H} {n : Nat} {Q : β → H → Nat → Prop} (b off : Nat) (k : Value → M β) (hb : b < n) : Run W n0 ((inside (evLoad Tryz.prog 38 (.pointer (some ⟨b, off, none⟩)))).bind k) h n Q ↔ optG (h.get b) fun B => Run W n0 (optK (B.cells[off]?) k) h n Q := ld_iff ag38 b off k hb
theorem bshl38 {k' : IntKind} (a b : Int) (h0 : 0 ≤ b) : bin2 Tryz.prog .shl 38 (.int .u32 a) (.int k' b) = some (.int .u32 (IntKind.u32.wrap (a * 2 ^ (min b.toNat (IntKind.u32).bits)))) := b_shl nt38 a b h0
theorem bmul38 (a b : Int) : bin2 Tryz.prog .mul 38 (.int .u32 a) (.int .u32 b) = some (.int .u32 (IntKind.u32.wrap (a * b))) := b_mul nt38 a b
theorem bxor38 (a b : Int) : bin2 Tryz.prog .xor 38 (.int .u32 a) (.int .u32 b) = some (.int .u32 (IntKind.u32.wrap (BitVec.ofInt (IntKind.u32).bits a ^^^ BitVec.ofInt (IntKind.u32).bits b).toNat)) := b_xor nt38 a b
theorem sz38 : size? Tryz.prog 38 = some 1 := by kernel_rfl
theorem ia204 (b off : Nat) (k : IntKind) (i : Int) (h0 : 0 ≤ i) (h1 : i < 256) : evIndexAddr Tryz.prog 204 (.pointer (some ⟨b, off, none⟩)) (.int k i) = some (.pointer (some ⟨b, off + i.toNat, none⟩)) := (ix_arr Tryz.underlying204 sz38 b off k i h0 h1).trans (by rw [Nat.mul_one])
theorem str38 {β : Type} {W : Nat → Prop} {n0 : Nat} {h : H} {n : Nat} {Q : β → H → Nat → Prop} (b off : Nat) (v : Value) (k : Value → M β) (hb : b < n) (h1 : one v = true) : Run W n0 ((inside (evStore Tryz.prog 38 (.pointer (some ⟨b, off, none⟩)) v)).bind k) h n Q ↔ optG (h.get b) fun B => B.own = true ∧ off < B.cells.length ∧ (n0 ≤ b ∨ W b) ∧ Run W n0 (k undef) (h.set b (some ⟨B.elem, B.own, B.cells.set off v⟩)) n Q := st_iff sz38 b off v k hb h1
theorem fa164f1 (b off : Nat) : evFieldAddr Tryz.prog 164 (.pointer (some ⟨b, off, none⟩)) 1 = some (.pointer (some ⟨b, off + 3, none⟩)) := by kernel_rfl
theorem bd111x  : evBuild Tryz.prog 111 [] = M.ret (.agg #[(Go.Value.string { data := #[] }), (Go.Value.int Go.IntKind.u32 0), (Go.Value.int Go.IntKind.i64 0)]) := by kernel_rfl
theorem fa160f1 (b off : Nat) : evFieldAddr Tryz.prog 160 (.pointer (some ⟨b, off, none⟩)) 1 = some (.pointer (some ⟨b, off + 1, none⟩)) := by kernel_rfl
theorem ag157 : agg? Tryz.prog 157 = some false := by kernel_rfl
theorem ldr157 {β : Type} {W : Nat → Prop} {n0 : Nat} {h : H} {n : Nat} {Q : β → H → Nat → Prop} (b off : Nat) (k : Value → M β) (hb : b < n) : Run W n0 ((inside (evLoad Tryz.prog 157 (.pointer (some ⟨b, off, none⟩)))).bind k) h n Q ↔ optG (h.get b) fun B => Run W n0 (optK (B.cells[off]?) k) h n Q := ld_iff ag157 b off k hb
theorem fa160f2 (b off : Nat) : evFieldAddr Tryz.prog 160 (.pointer (some ⟨b, off, none⟩)) 2 = some (.pointer (some ⟨b, off + 2, none⟩)) := by kernel_rfl
theorem bd111x0x1x2 (v0 : ByteArray) (v1 : Int) (v2 : Int) : evBuild Tryz.prog 111 [(0, (Value.string v0)), (1, (Value.int .u32 v1)), (2, (Value.int .i64 v2))] = M.ret (.agg #[(Value.string v0), (Value.int .u32 v1), (Value.int .i64 v2)]) := by kernel_rfl
theorem beql157s (a : Addr) : bin2 Tryz.prog .eql 157 (.pointer (some a)) (.pointer none) = some (.bool false) := by kernel_rfl
theorem beql157n : bin2 Tryz.prog .eql 157 (.pointer none) (.pointer none) = some (.bool true) := by kernel_rfl
theorem fa207f1 (b off : Nat) : evFieldAddr Tryz.prog 207 (.pointer (some ⟨b, off, none⟩)) 1 = some (.pointer (some ⟨b, off + 256, none⟩)) := by kernel_rfl
theorem bneq157s (a : Addr) : bin2 Tryz.prog .neq 157 (.pointer (some a)) (.pointer none) = some (.bool true) := by kernel_rfl
theorem bneq157n : bin2 Tryz.prog .neq 157 (.pointer none) (.pointer none) = some (.bool false) := by kernel_rfl
theorem fa166f1 (b off : Nat) : evFieldAddr Tryz.prog 166 (.pointer (some ⟨b, off, none⟩)) 1 = some (.pointer (some ⟨b, off + 1, none⟩)) := by kernel_rfl
theorem fa166f0 (b off : Nat) : evFieldAddr Tryz.prog 166 (.pointer (some ⟨b, off, none⟩)) 0 = some (.pointer (some ⟨b, off + 0, none⟩)) := by kernel_rfl
theorem bneq5 (a b : Int) : bin2 Tryz.prog .neq 5 (.int .u8 a) (.int .u8 b) = some (.bool (a != b)) := b_neq nt5 a b
theorem FX1 : (∀ (a : Option Addr) (n c : Nat), len2 Tryz.prog #[47] [.slice a n c] = some (.int .i64 n)) ∧ (∀ (a b : Int), bin2 Tryz.prog .gtr 3 (.int .i64 a) (.int .i64 b) = some (.bool (decide (b < a)))) ∧ (∀ (b off : Nat), evFieldAddr Tryz.prog 46 (.pointer (some ⟨b, off, none⟩)) 2 = some (.pointer (some ⟨b, off + 2, none⟩))) ∧ (∀ {β : Type} {W : Nat → Prop} {n0 : Nat} {h : H} {n : Nat} {Q : β → H → Nat → Prop} (b off : Nat) (k : Value → M β) (hb : b < n), Run W n0 ((inside (evLoad Tryz.prog 3 (.pointer (some ⟨b, off, none⟩)))).bind k) h n Q ↔ optG (h.get b) fun B => Run W n0 (optK (B.cells[off]?) k) h n Q) ∧ (∀ (b off : Nat), evFieldAddr Tryz.prog 46 (.pointer (some ⟨b, off, none⟩)) 0 = some (.pointer (some ⟨b, off + 0, none⟩))) ∧ (∀ (b off : Nat), evFieldAddr Tryz.prog 46 (.pointer (some ⟨b, off, none⟩)) 1 = some (.pointer (some ⟨b, off + 1, none⟩))) ∧ (∀ (a b : Int), bin2 Tryz.prog .lss 3 (.int .i64 a) (.int .i64 b) = some (.bool (decide (a < b)))) ∧ (∀ (b off n c : Nat) (k : IntKind) (i : Int) (h0 : 0 ≤ i) (h1 : i < n), evIndexAddr Tryz.prog 47 (.slice (some ⟨b, off, none⟩) n c) (.int k i) = some (.pointer (some ⟨b, off + i.toNat, none⟩))) ∧ (∀ {β : Type} {W : Nat → Prop} {n0 : Nat} {h : H} {n : Nat} {Q : β → H → Nat → Prop} (b off : Nat) (k : Value → M β) (hb : b < n), Run W n0 ((inside (evLoad Tryz.prog 9 (.pointer (some ⟨b, off, none⟩)))).bind k) h n Q ↔ optG (h.get b) fun B => Run W n0 (optK (B.cells[off]?) k) h n Q) ∧ (∀ (s : List UInt8), len2 Tryz.prog #[9] [.string ⟨s.toArray⟩] = some (.int .i64 s.length)) ∧ (∀ (a b : Int), bin2 Tryz.prog .sub 3 (.int .i64 a) (.int .i64 b) = some (.int .i64 (IntKind.i64.wrap (a - b)))) ∧ (∀ (a b : Int), bin2 Tryz.prog .neq 3 (.int .i64 a) (.int .i64 b) = some (.bool (a != b))) ∧ (∀ (a b : Int), bin2 Tryz.prog .add 3 (.int .i64 a) (.int .i64 b) = some (.int .i64 (IntKind.i64.wrap (a + b)))) ∧ (∀ (a b : Int), bin2 Tryz.prog .eql 3 (.int .i64 a) (.int .i64 b) = some (.bool (a == b))) ∧ (∀ (a b : Int), bin2 Tryz.prog .eql 25 (.int .i64 a) (.int .i64 b) = some (.bool (a == b))) ∧ (∀ (a b : List UInt8), bin2 Tryz.prog .eql 9 (.string ⟨a.toArray⟩) (.string ⟨b.toArray⟩) = some (.bool (decide (a = b)))) ∧ (∀ (a : Addr), bin2 Tryz.prog .eql 48 (.pointer (some a)) (.pointer none) = some (.bool false)) ∧ (bin2 Tryz.prog .eql 48 (.pointer none) (.pointer none) = some (.bool true)) ∧ (∀ (a : Addr), bin2 Tryz.prog .eql 39 (.pointer (some a)) (.pointer none) = some (.bool false)) ∧ (bin2 Tryz.prog .eql 39 (.pointer none) (.pointer none) = some (.bool true)) ∧ (∀ (b off : Nat), evFieldAddr Tryz.prog 89 (.pointer (some ⟨b, off, none⟩)) 0 = some (.pointer (some ⟨b, off + 0, none⟩))) ∧ (∀ {β : Type} {W : Nat → Prop} {n0 : Nat} {h : H} {n : Nat} {Q : β → H → Nat → Prop} (b off : Nat) (k : Value → M β) (hb : b < n), Run W n0 ((inside (evLoad Tryz.prog 71 (.pointer (some ⟨b, off, none⟩)))).bind k) h n Q ↔ optG (h.get b) fun B => Run W n0 (optK (B.cells[off]?) k) h n Q) ∧ (∀ (a b : Int), bin2 Tryz.prog .neq 25 (.int .i64 a) (.int .i64 b) = some (.bool (a != b))) ∧ (∀ (v0 : Int) (v3 : Option Addr) (v8 : Option Addr) (v9 : ByteArray), evBuild Tryz.prog 109 [(0, (Value.int .i64 v0)), (3, (Value.pointer v3)), (8, (Value.pointer v8)), (9, (Value.string v9))] = M.ret (.agg #[(Value.int .i64 v0), (Go.Value.string { data := #[] }), (Go.Value.bool false), (Value.pointer v3), (Go.Value.bool false), (Go.Value.slice none 0 0), (Go.Value.pointer none), (Go.Value.int Go.IntKind.i64 0), (Value.pointer v8), (Value.string v9), (Go.Value.bool false), (Go.Value.int Go.IntKind.i64 0)])) ∧ (∀ (b off : Nat), evFieldAddr Tryz.prog 109 (.pointer (some ⟨b, off, none⟩)) 2 = some (.pointer (some ⟨b, off + 2, none⟩))) ∧ (∀ {β : Type} {W : Nat → Prop} {n0 : Nat} {h : H} {n : Nat} {Q : β → H → Nat → Prop} (b off : Nat) (k : Value → M β) (hb : b < n), Run W n0 ((inside (evLoad Tryz.prog 4 (.pointer (some ⟨b, off, none⟩)))).bind k) h n Q ↔ optG (h.get b) fun B => Run W n0 (optK (B.cells[off]?) k) h n Q) ∧ (∀ (b off : Nat), evFieldAddr Tryz.prog 109 (.pointer (some ⟨b, off, none⟩)) 0 = some (.pointer (some ⟨b, off + 0, none⟩))) ∧ (∀ (b off : Nat), evFieldAddr Tryz.prog 109 (.pointer (some ⟨b, off, none⟩)) 1 = some (.pointer (some ⟨b, off + 1, none⟩))) ∧ (∀ {β : Type} (l : List UInt8) (kd : IntKind) (j : Int) (k : Value → M β) (h0 : 0 ≤ j) (h1 : j ≤ l.length), slice2 Tryz.prog 9 (.string ⟨l.toArray⟩) none (some (.int kd j)) none k = k (.string ⟨(l.take j.toNat).toArray⟩)) ∧ (∀ {β : Type} (l : List UInt8) (kd : IntKind) (i : Int) (k : Value → M β) (h0 : 0 ≤ i) (h1 : i ≤ l.length), slice2 Tryz.prog 9 (.string ⟨l.toArray⟩) (some (.int kd i)) none none k = k (.string ⟨(l.drop i.toNat).toArray⟩)) ∧ (∀ {β : Type} (l : List UInt8) (kd kd' : IntKind) (i j : Int) (k : Value → M β) (h0 : 0 ≤ i) (h1 : i ≤ j) (h2 : j ≤ l.length), slice2 Tryz.prog 9 (.string ⟨l.toArray⟩) (some (.int kd i)) (some (.int kd' j)) none k = k (.string ⟨((l.drop i.toNat).take (j.toNat - i.toNat)).toArray⟩)) ∧ (∀ (a b : List UInt8) (h : a.length + b.length ≤ 9223372036854775807), bin2 Tryz.prog .add 9 (.string ⟨a.toArray⟩) (.string ⟨b.toArray⟩) = some (.string ⟨(a ++ b).toArray⟩)) ∧ (∀ {β : Type} {W : Nat → Prop} {n0 : Nat} {h : H} {n : Nat} {Q : β → H → Nat → Prop} (b off : Nat) (v : Value) (k : Value → M β) (hb : b < n) (h1 : one v = true), Run W n0 ((inside (evStore Tryz.prog 9 (.pointer (some ⟨b, off, none⟩)) v)).bind k) h n Q ↔ optG (h.get b) fun B => B.own = true ∧ off < B.cells.length ∧ (n0 ≤ b ∨ W b) ∧ Run W n0 (k undef) (h.set b (some ⟨B.elem, B.own, B.cells.set off v⟩)) n Q) ∧ (∀ (b off : Nat), evFieldAddr Tryz.prog 109 (.pointer (some ⟨b, off, none⟩)) 3 = some (.pointer (some ⟨b, off + 3, none⟩))) ∧ (∀ {β : Type} {W : Nat → Prop} {n0 : Nat} {h : H} {n : Nat} {Q : β → H → Nat → Prop} (b off : Nat) (k : Value → M β) (hb : b < n), Run W n0 ((inside (evLoad Tryz.prog 101 (.pointer (some ⟨b, off, none⟩)))).bind k) h n Q ↔ optG (h.get b) fun B => Run W n0 (optK (B.cells[off]?) k) h n Q) ∧ (∀ (b off : Nat), evFieldAddr Tryz.prog 109 (.pointer (some ⟨b, off, none⟩)) 6 = some (.pointer (some ⟨b, off + 6, none⟩))) ∧ (∀ {β : Type} {W : Nat → Prop} {n0 : Nat} {h : H} {n : Nat} {Q : β → H → Nat → Prop} (b off : Nat) (k : Value → M β) (hb : b < n), Run W n0 ((inside (evLoad Tryz.prog 107 (.pointer (some ⟨b, off, none⟩)))).bind k) h n Q ↔ optG (h.get b) fun B => Run W n0 (optK (B.cells[off]?) k) h n Q) ∧ (∀ (b off : Nat), evFieldAddr Tryz.prog 109 (.pointer (some ⟨b, off, none⟩)) 9 = some (.pointer (some ⟨b, off + 9, none⟩))) ∧ (∀ (b off : Nat), evFieldAddr Tryz.prog 109 (.pointer (some ⟨b, off, none⟩)) 5 = some (.pointer (some ⟨b, off + 5, none⟩))) ∧ (∀ {β : Type} {W : Nat → Prop} {n0 : Nat} {h : H} {n : Nat} {Q : β → H → Nat → Prop} (b off : Nat) (k : Value → M β) (hb : b < n), Run W n0 ((inside (evLoad Tryz.prog 106 (.pointer (some ⟨b, off, none⟩)))).bind k) h n Q ↔ optG (h.get b) fun B => Run W n0 (optK (B.cells[off]?) k) h n Q) ∧ (∀ (a : Option Addr) (n c : Nat), len2 Tryz.prog #[106] [.slice a n c] = some (.int .i64 n)) ∧ (∀ (b off n c : Nat) (k : IntKind) (i : Int) (h0 : 0 ≤ i) (h1 : i < n), evIndexAddr Tryz.prog 106 (.slice (some ⟨b, off, none⟩) n c) (.int k i) = some (.pointer (some ⟨b, off + i.toNat * 3, none⟩))) ∧ (∀ (b off : Nat), evFieldAddr Tryz.prog 111 (.pointer (some ⟨b, off, none⟩)) 0 = some (.pointer (some ⟨b, off + 0, none⟩))) ∧ (∀ (b off : Nat), evFieldAddr Tryz.prog 109 (.pointer (some ⟨b, off, none⟩)) 10 = some (.pointer (some ⟨b, off + 10, none⟩))) ∧ (∀ (a b : List UInt8), bin2 Tryz.prog .neq 9 (.string ⟨a.toArray⟩) (.string ⟨b.toArray⟩) = some (.bool (!decide (a = b)))) ∧ (∀ {β : Type} {W : Nat → Prop} {n0 : Nat} {h : H} {n : Nat} {Q : β → H → Nat → Prop} (b off : Nat) (v : Value) (k : Value → M β) (hb : b < n) (h1 : one v = true), Run W n0 ((inside (evStore Tryz.prog 4 (.pointer (some ⟨b, off, none⟩)) v)).bind k) h n Q ↔ optG (h.get b) fun B => B.own = true ∧ off < B.cells.length ∧ (n0 ≤ b ∨ W b) ∧ Run W n0 (k undef) (h.set b (some ⟨B.elem, B.own, B.cells.set off v⟩)) n Q) ∧ (∀ (a : Addr), bin2 Tryz.prog .neq 48 (.pointer (some a)) (.pointer none) = some (.bool true)) ∧ (bin2 Tryz.prog .neq 48 (.pointer none) (.pointer none) = some (.bool false)) ∧ (∀ (b off : Nat), evFieldAddr Tryz.prog 109 (.pointer (some ⟨b, off, none⟩)) 11 = some (.pointer (some ⟨b, off + 11, none⟩))) ∧ (∀ {β : Type} {W : Nat → Prop} {n0 : Nat} {h : H} {n : Nat} {Q : β → H → Nat → Prop} (b off : Nat) (v : Value) (k : Value → M β) (hb : b < n) (h1 : one v = true), Run W n0 ((inside (evStore Tryz.prog 3 (.pointer (some ⟨b, off, none⟩)) v)).bind k) h n Q ↔ optG (h.get b) fun B => B.own = true ∧ off < B.cells.length ∧ (n0 ≤ b ∨ W b) ∧ Run W n0 (k undef) (h.set b (some ⟨B.elem, B.own, B.cells.set off v⟩)) n Q) := ⟨@len47, @bgtr3, @fa46f2, @ldr3, @fa46f0, @fa46f1, @blss3, @ix47, @ldr9, @len9, @bsub3, @bneq3, @badd3, @beql3, @beql25, @beql9, @beql48s, @beql48n, @beql39s, @beql39n, @fa89f0, @ldr71, @bneq25, @bd109x0x3x8x9, @fa109f2, @ldr4, @fa109f0, @fa109f1, @slh9, @sll9, @slb9, @badd9, @str9, @fa109f3, @ldr101, @fa109f6, @ldr107, @fa109f9, @fa109f5, @ldr106, @len106, @ix106, @fa111f0, @fa109f10, @bneq9, @str4, @bneq48s, @bneq48n, @fa109f11, @str3⟩
theorem FX2 : (∀ (a b : Int), bin2 Tryz.prog .mul 3 (.int .i64 a) (.int .i64 b) = some (.int .i64 (IntKind.i64.wrap (a * b)))) ∧ (evBuild Tryz.prog 135 [] = M.ret (.agg #[(Go.Value.slice none 0 0), (Go.Value.int Go.IntKind.u8 0), (Go.Value.int Go.IntKind.i64 0)])) ∧ (∀ (a : Addr), bin2 Tryz.prog .eql 71 (.pointer (some a)) (.pointer none) = some (.bool false)) ∧ (bin2 Tryz.prog .eql 71 (.pointer none) (.pointer none) = some (.bool true)) ∧ (∀ (b off : Nat), evFieldAddr Tryz.prog 135 (.pointer (some ⟨b, off, none⟩)) 2 = some (.pointer (some ⟨b, off + 2, none⟩))) ∧ (∀ (a : Addr), bin2 Tryz.prog .neq 71 (.pointer (some a)) (.pointer none) = some (.bool true)) ∧ (bin2 Tryz.prog .neq 71 (.pointer none) (.pointer none) = some (.bool false)) ∧ (∀ (a b : Int) (h0 : b ≠ 0), bin2 Tryz.prog .rem 3 (.int .i64 a) (.int .i64 b) = some (.int .i64 (a.tmod b))) ∧ (∀ (b off : Nat), evFieldAddr Tryz.prog 135 (.pointer (some ⟨b, off, none⟩)) 0 = some (.pointer (some ⟨b, off + 0, none⟩))) ∧ (∀ {β : Type} {W : Nat → Prop} {n0 : Nat} {h : H} {n : Nat} {Q : β → H → Nat → Prop} (b off : Nat) (k : Value → M β) (hb : b < n), Run W n0 ((inside (evLoad Tryz.prog 133 (.pointer (some ⟨b, off, none⟩)))).bind k) h n Q ↔ optG (h.get b) fun B => Run W n0 (optK (B.cells[off]?) k) h n Q) ∧ (∀ {β : Type} {W : Nat → Prop} {n0 : Nat} {h : H} {n : Nat} {Q : β → H → Nat → Prop} (b off : Nat) (v : Value) (k : Value → M β) (hb : b < n) (h1 : one v = true), Run W n0 ((inside (evStore Tryz.prog 133 (.pointer (some ⟨b, off, none⟩)) v)).bind k) h n Q ↔ optG (h.get b) fun B => B.own = true ∧ off < B.cells.length ∧ (n0 ≤ b ∨ W b) ∧ Run W n0 (k undef) (h.set b (some ⟨B.elem, B.own, B.cells.set off v⟩)) n Q) ∧ (∀ {k' : IntKind} (a b : Int) (h0 : 0 ≤ b), bin2 Tryz.prog .shr 38 (.int .u32 a) (.int k' b) = some (.int .u32 (a.fdiv (2 ^ (min b.toNat (IntKind.u32).bits))))) ∧ (∀ (a b : Int), bin2 Tryz.prog .and 38 (.int .u32 a) (.int .u32 b) = some (.int .u32 (IntKind.u32.wrap (BitVec.ofInt (IntKind.u32).bits a &&& BitVec.ofInt (IntKind.u32).bits b).toNat))) ∧ (∀ {β : Type} (x : Int) (k : Value → M β), conv2 Tryz.prog 38 5 (.int .u32 x) k = k (.int .u8 (IntKind.u8.wrap x))) ∧ (∀ (a : Option Addr) (n c : Nat), len2 Tryz.prog #[133] [.slice a n c] = some (.int .i64 n)) ∧ (∀ (a b : Int), bin2 Tryz.prog .geq 3 (.int .i64 a) (.int .i64 b) = some (.bool (decide (b ≤ a)))) ∧ (∀ (a b : Int), bin2 Tryz.prog .leq 3 (.int .i64 a) (.int .i64 b) = some (.bool (decide (a ≤ b)))) ∧ (∀ (v1 : Option Addr), evBuild Tryz.prog 160 [(1, (Value.pointer v1))] = M.ret (.agg #[(Go.Value.slice none 0 0), (Value.pointer v1), (Go.Value.int Go.IntKind.i64 0)])) ∧ (∀ (v0f0a : Option Addr) (v0f0n v0f0c : Nat) (v0f1 : Option Addr) (v0f2 : Int) (v1 : Int) (v2 : Option Addr), evBuild Tryz.prog 164 [(0, (Value.agg #[(Value.slice v0f0a v0f0n v0f0c), (Value.pointer v0f1), (Value.int .i64 v0f2)])), (1, (Value.int .i64 v1)), (2, (Value.pointer v2))] = M.ret (.agg #[(Value.slice v0f0a v0f0n v0f0c), (Value.pointer v0f1), (Value.int .i64 v0f2), (Value.int .i64 v1), (Value.pointer v2)])) ∧ (∀ (v0 : Option Addr), evBuild Tryz.prog 89 [(0, (Value.pointer v0))] = M.ret (.agg #[(Value.pointer v0), (Go.Value.int Go.IntKind.u32 0), (Go.Value.bool false)])) ∧ (∀ (l : List UInt8) (k : IntKind) (i : Int) (h0 : 0 ≤ i) (h1 : i < l.length), index2 Tryz.prog 9 (.string ⟨l.toArray⟩) (.int k i) = some (.int .u8 (l.getD i.toNat 0).toNat)) ∧ (∀ {β : Type} (x : Int) (k : Value → M β), conv2 Tryz.prog 5 38 (.int .u8 x) k = k (.int .u32 (IntKind.u32.wrap x))) ∧ (∀ {β : Type} (x : Int) (k : Value → M β), conv2 Tryz.prog 3 38 (.int .i64 x) k = k (.int .u32 (IntKind.u32.wrap x))) ∧ (∀ (a : Addr), bin2 Tryz.prog .eql 101 (.pointer (some a)) (.pointer none) = some (.bool false)) ∧ (bin2 Tryz.prog .eql 101 (.pointer none) (.pointer none) = some (.bool true)) ∧ (∀ (b off : Nat), evFieldAddr Tryz.prog 164 (.pointer (some ⟨b, off, none⟩)) 0 = some (.pointer (some ⟨b, off + 0, none⟩))) ∧ (∀ (b off : Nat), evFieldAddr Tryz.prog 160 (.pointer (some ⟨b, off, none⟩)) 0 = some (.pointer (some ⟨b, off + 0, none⟩))) ∧ (∀ (b off : Nat), evFieldAddr Tryz.prog 164 (.pointer (some ⟨b, off, none⟩)) 2 = some (.pointer (some ⟨b, off + 4, none⟩))) ∧ (∀ {β : Type} {W : Nat → Prop} {n0 : Nat} {h : H} {n : Nat} {Q : β → H → Nat → Prop} (b off : Nat) (k : Value → M β) (hb : b < n), Run W n0 ((inside (evLoad Tryz.prog 161 (.pointer (some ⟨b, off, none⟩)))).bind k) h n Q ↔ optG (h.get b) fun B => Run W n0 (optK (B.cells[off]?) k) h n Q) ∧ (∀ (c0 c1 : Value), evField Tryz.prog 166 (.agg #[c0, c1]) 1 = some c1) ∧ (∀ (a : Addr), bin2 Tryz.prog .eql 107 (.pointer (some a)) (.pointer none) = some (.bool false)) ∧ (bin2 Tryz.prog .eql 107 (.pointer none) (.pointer none) = some (.bool true)) ∧ (∀ (b off : Nat), evFieldAddr Tryz.prog 170 (.pointer (some ⟨b, off, none⟩)) 1 = some (.pointer (some ⟨b, off + 1, none⟩))) ∧ (∀ {β : Type} {W : Nat → Prop} {n0 : Nat} {h : H} {n : Nat} {Q : β → H → Nat → Prop} (b off : Nat) (k : Value → M β) (hb : b < n), Run W n0 ((inside (evLoad Tryz.prog 168 (.pointer (some ⟨b, off, none⟩)))).bind k) h n Q ↔ optG (h.get b) fun B => Run W n0 (optK (B.cells[off]?) k) h n Q) ∧ (∀ (b off : Nat), evFieldAddr Tryz.prog 170 (.pointer (some ⟨b, off, none⟩)) 3 = some (.pointer (some ⟨b, off + 3, none⟩))) ∧ (∀ (a : Addr), bin2 Tryz.prog .neq 107 (.pointer (some a)) (.pointer none) = some (.bool true)) ∧ (bin2 Tryz.prog .neq 107 (.pointer none) (.pointer none) = some (.bool false)) ∧ (∀ (b off : Nat), evFieldAddr Tryz.prog 109 (.pointer (some ⟨b, off, none⟩)) 7 = some (.pointer (some ⟨b, off + 7, none⟩))) ∧ (∀ (b off : Nat), evFieldAddr Tryz.prog 109 (.pointer (some ⟨b, off, none⟩)) 4 = some (.pointer (some ⟨b, off + 4, none⟩))) ∧ (∀ {β : Type} {W : Nat → Prop} {n0 : Nat} {h : H} {n : Nat} {Q : β → H → Nat → Prop} (b off : Nat) (v : Value) (k : Value → M β) (hb : b < n) (h1 : one v = true), Run W n0 ((inside (evStore Tryz.prog 106 (.pointer (some ⟨b, off, none⟩)) v)).bind k) h n Q ↔ optG (h.get b) fun B => B.own = true ∧ off < B.cells.length ∧ (n0 ≤ b ∨ W b) ∧ Run W n0 (k undef) (h.set b (some ⟨B.elem, B.own, B.cells.set off v⟩)) n Q) ∧ (∀ {β : Type} {W : Nat → Prop} {n0 : Nat} {h : H} {n : Nat} {Q : β → H → Nat → Prop} (b off : Nat) (v : Value) (k : Value → M β) (hb : b < n) (h1 : one v = true), Run W n0 ((inside (evStore Tryz.prog 107 (.pointer (some ⟨b, off, none⟩)) v)).bind k) h n Q ↔ optG (h.get b) fun B => B.own = true ∧ off < B.cells.length ∧ (n0 ≤ b ∨ W b) ∧ Run W n0 (k undef) (h.set b (some ⟨B.elem, B.own, B.cells.set off v⟩)) n Q) ∧ (∀ (b off : Nat), evFieldAddr Tryz.prog 109 (.pointer (some ⟨b, off, none⟩)) 8 = some (.pointer (some ⟨b, off + 8, none⟩))) ∧ (∀ {β : Type} {W : Nat → Prop} {n0 : Nat} {h : H} {n : Nat} {Q : β → H → Nat → Prop} (b off : Nat) (k : Value → M β) (hb : b < n), Run W n0 ((inside (evLoad Tryz.prog 39 (.pointer (some ⟨b, off, none⟩)))).bind k) h n Q ↔ optG (h.get b) fun B => Run W n0 (optK (B.cells[off]?) k) h n Q) ∧ (∀ (b off : Nat), evFieldAddr Tryz.prog 135 (.pointer (some ⟨b, off, none⟩)) 1 = some (.pointer (some ⟨b, off + 1, none⟩))) ∧ (∀ {β : Type} {W : Nat → Prop} {n0 : Nat} {h : H} {n : Nat} {Q : β → H → Nat → Prop} (b off : Nat) (k : Value → M β) (hb : b < n), Run W n0 ((inside (evLoad Tryz.prog 5 (.pointer (some ⟨b, off, none⟩)))).bind k) h n Q ↔ optG (h.get b) fun B => Run W n0 (optK (B.cells[off]?) k) h n Q) ∧ (∀ {k' : IntKind} (a b : Int) (h0 : 0 ≤ b), bin2 Tryz.prog .shl 5 (.int .u8 a) (.int k' b) = some (.int .u8 (IntKind.u8.wrap (a * 2 ^ (min b.toNat (IntKind.u8).bits))))) ∧ (∀ (a b : Int), bin2 Tryz.prog .or 5 (.int .u8 a) (.int .u8 b) = some (.int .u8 (IntKind.u8.wrap (BitVec.ofInt (IntKind.u8).bits a ||| BitVec.ofInt (IntKind.u8).bits b).toNat))) ∧ (∀ {β : Type} {W : Nat → Prop} {n0 : Nat} {h : H} {n : Nat} {Q : β → H → Nat → Prop} (b off : Nat) (v : Value) (k : Value → M β) (hb : b < n) (h1 : one v = true), Run W n0 ((inside (evStore Tryz.prog 5 (.pointer (some ⟨b, off, none⟩)) v)).bind k) h n Q ↔ optG (h.get b) fun B => B.own = true ∧ off < B.cells.length ∧ (n0 ≤ b ∨ W b) ∧ Run W n0 (k undef) (h.set b (some ⟨B.elem, B.own, B.cells.set off v⟩)) n Q) ∧ (∀ (b off : Nat), evFieldAddr Tryz.prog 170 (.pointer (some ⟨b, off, none⟩)) 0 = some (.pointer (some ⟨b, off + 0, none⟩))) ∧ (∀ {β : Type} (x : Int) (k : Value → M β), conv2 Tryz.prog 38 93 (.int .u32 x) k = k (.int .u64 (IntKind.u64.wrap x))) := ⟨@bmul3, @bd135x, @beql71s, @beql71n, @fa135f2, @bneq71s, @bneq71n, @brem3, @fa135f0, @ldr133, @str133, @bshr38, @band38, @cv38x5, @len133, @bgeq3, @bleq3, @bd160x1, @bd164x0x1x2, @bd89x0, @ixs9, @cv5x38, @cv3x38, @beql101s, @beql101n, @fa164f0, @fa160f0, @fa164f2, @ldr161, @fv166f1, @beql107s, @beql107n, @fa170f1, @ldr168, @fa170f3, @bneq107s, @bneq107n, @fa109f7, @fa109f4, @str106, @str107, @fa109f8, @ldr39, @fa135f1, @ldr5, @bshl5, @bor5, @str5, @fa170f0, @cv38x93⟩
theorem FX3 : (∀ {k' : IntKind} (a b : Int) (h0 : 0 ≤ b), bin2 Tryz.prog .shr 93 (.int .u64 a) (.int k' b) = some (.int .u64 (a.fdiv (2 ^ (min b.toNat (IntKind.u64).bits))))) ∧ (∀ (a b : Int), bin2 Tryz.prog .eql 93 (.int .u64 a) (.int .u64 b) = some (.bool (a == b))) ∧ (evBuild Tryz.prog 209 [] = M.ret (.agg #[(Go.Value.int Go.IntKind.u8 0), (Go.Value.int Go.IntKind.i64 0)])) ∧ (∀ (a : Addr), bin2 Tryz.prog .eql 161 (.pointer (some a)) (.pointer none) = some (.bool false)) ∧ (bin2 Tryz.prog .eql 161 (.pointer none) (.pointer none) = some (.bool true)) ∧ (evBuild Tryz.prog 166 [] = M.ret (.agg #[(Go.Value.int Go.IntKind.u8 0), (Go.Value.int Go.IntKind.i64 0)])) ∧ (∀ (b off : Nat), evFieldAddr Tryz.prog 209 (.pointer (some ⟨b, off, none⟩)) 0 = some (.pointer (some ⟨b, off + 0, none⟩))) ∧ (∀ (b off : Nat), evFieldAddr Tryz.prog 111 (.pointer (some ⟨b, off, none⟩)) 1 = some (.pointer (some ⟨b, off + 1, none⟩))) ∧ (∀ {β : Type} {W : Nat → Prop} {n0 : Nat} {h : H} {n : Nat} {Q : β → H → Nat → Prop} (b off : Nat) (k : Value → M β) (hb : b < n), Run W n0 ((inside (evLoad Tryz.prog 38 (.pointer (some ⟨b, off, none⟩)))).bind k) h n Q ↔ optG (h.get b) fun B => Run W n0 (optK (B.cells[off]?) k) h n Q) ∧ (∀ {k' : IntKind} (a b : Int) (h0 : 0 ≤ b), bin2 Tryz.prog .shl 38 (.int .u32 a) (.int k' b) = some (.int .u32 (IntKind.u32.wrap (a * 2 ^ (min b.toNat (IntKind.u32).bits))))) ∧ (∀ (a b : Int), bin2 Tryz.prog .mul 38 (.int .u32 a) (.int .u32 b) = some (.int .u32 (IntKind.u32.wrap (a * b)))) ∧ (∀ (a b : Int), bin2 Tryz.prog .xor 38 (.int .u32 a) (.int .u32 b) = some (.int .u32 (IntKind.u32.wrap (BitVec.ofInt (IntKind.u32).bits a ^^^ BitVec.ofInt (IntKind.u32).bits b).toNat))) ∧ (∀ (b off : Nat) (k : IntKind) (i : Int) (h0 : 0 ≤ i) (h1 : i < 256), evIndexAddr Tryz.prog 204 (.pointer (some ⟨b, off, none⟩)) (.int k i) = some (.pointer (some ⟨b, off + i.toNat, none⟩))) ∧ (∀ {β : Type} {W : Nat → Prop} {n0 : Nat} {h : H} {n : Nat} {Q : β → H → Nat → Prop} (b off : Nat) (v : Value) (k : Value → M β) (hb : b < n) (h1 : one v = true), Run W n0 ((inside (evStore Tryz.prog 38 (.pointer (some ⟨b, off, none⟩)) v)).bind k) h n Q ↔ optG (h.get b) fun B => B.own = true ∧ off < B.cells.length ∧ (n0 ≤ b ∨ W b) ∧ Run W n0 (k undef) (h.set b (some ⟨B.elem, B.own, B.cells.set off v⟩)) n Q) ∧ (∀ (b off : Nat), evFieldAddr Tryz.prog 164 (.pointer (some ⟨b, off, none⟩)) 1 = some (.pointer (some ⟨b, off + 3, none⟩))) ∧ (evBuild Tryz.prog 111 [] = M.ret (.agg #[(Go.Value.string { data := #[] }), (Go.Value.int Go.IntKind.u32 0), (Go.Value.int Go.IntKind.i64 0)])) ∧ (∀ (b off : Nat), evFieldAddr Tryz.prog 160 (.pointer (some ⟨b, off, none⟩)) 1 = some (.pointer (some ⟨b, off + 1, none⟩))) ∧ (∀ {β : Type} {W : Nat → Prop} {n0 : Nat} {h : H} {n : Nat} {Q : β → H → Nat → Prop} (b off : Nat) (k : Value → M β) (hb : b < n), Run W n0 ((inside (evLoad Tryz.prog 157 (.pointer (some ⟨b, off, none⟩)))).bind k) h n Q ↔ optG (h.get b) fun B => Run W n0 (optK (B.cells[off]?) k) h n Q) ∧ (∀ (b off : Nat), evFieldAddr Tryz.prog 160 (.pointer (some ⟨b, off, none⟩)) 2 = some (.pointer (some ⟨b, off + 2, none⟩))) ∧ (∀ (v0 : ByteArray) (v1 : Int) (v2 : Int), evBuild Tryz.prog 111 [(0, (Value.string v0)), (1, (Value.int .u32 v1)), (2, (Value.int .i64 v2))] = M.ret (.agg #[(Value.string v0), (Value.int .u32 v1), (Value.int .i64 v2)])) ∧ (∀ (a : Addr), bin2 Tryz.prog .eql 157 (.pointer (some a)) (.pointer none) = some (.bool false)) ∧ (bin2 Tryz.prog .eql 157 (.pointer none) (.pointer none) = some (.bool true)) ∧ (∀ (b off : Nat), evFieldAddr Tryz.prog 207 (.pointer (some ⟨b, off, none⟩)) 1 = some (.pointer (some ⟨b, off + 256, none⟩))) ∧ (∀ (a : Addr), bin2 Tryz.prog .neq 157 (.pointer (some a)) (.pointer none) = some (.bool true)) ∧ (bin2 Tryz.prog .neq 157 (.pointer none) (.pointer none) = some (.bool false)) ∧ (∀ (b off : Nat), evFieldAddr Tryz.prog 166 (.pointer (some ⟨b, off, none⟩)) 1 = some (.pointer (some ⟨b, off + 1, none⟩))) ∧ (∀ (b off : Nat), evFieldAddr Tryz.prog 166 (.pointer (some ⟨b, off, none⟩)) 0 = some (.pointer (some ⟨b, off + 0, none⟩))) ∧ (∀ (a b : Int), bin2 Tryz.prog .neq 5 (.int .u8 a) (.int .u8 b) = some (.bool (a != b))) := ⟨@bshr93, @beql93, @bd209x, @beql161s, @beql161n, @bd166x, @fa209f0, @fa111f1, @ldr38, @bshl38, @bmul38, @bxor38, @ia204, @str38, @fa164f1, @bd111x, @fa160f1, @ldr157, @fa160f2, @bd111x0x1x2, @beql157s, @beql157n, @fa207f1, @bneq157s, @bneq157n, @fa166f1, @fa166f0, @bneq5⟩

noncomputable def b_balerlaw23_PressNil (lf d : Nat) (a0 : Value) (a1 : Value) : M Value :=
 (inside (evCall2 Tryz.prog gt lf d 26 #[(Value.pointer none), a0])).bind fun v8n1 =>
 optK (bin2 Tryz.prog .eql 3 v8n1 (Value.int .i64 0)) fun v9n2 =>
 ifV v9n2 (
 (inside (evCall2 Tryz.prog gt lf d 29 #[(Value.pointer none)])).bind fun v12n3 =>
 optK (bin2 Tryz.prog .eql 25 v12n3 (Value.int .i64 7)) fun v13n4 =>
 ifV v13n4 (
 (inside (evCall2 Tryz.prog gt lf d 30 #[(Value.pointer none), a1])).bind fun v18n5 =>
 optK (bin2 Tryz.prog .eql 3 v18n5 (Value.int .i64 0)) fun v19n6 =>
 ifV v19n6 (
 (inside (evCall2 Tryz.prog gt lf d 28 #[(Value.pointer none)])).bind fun v23n7 =>
 ifV v23n7 (
 (inside (evCall2 Tryz.prog gt lf d 31 #[(Value.pointer none), a1])).bind fun v28n8 =>
 optK (bin2 Tryz.prog .eql 9 v28n8 (Value.string { data := #[] })) fun v29n9 =>
 ifV v29n9 (
 (inside (evCall2 Tryz.prog gt lf d 32 #[(Value.pointer none)])).bind fun v33n10 =>
 optK (bin2 Tryz.prog .eql 3 v33n10 (Value.int .i64 0)) fun v34n11 =>
 ifV v34n11 (
 (inside (evCall2 Tryz.prog gt lf d 33 #[(Value.pointer none)])).bind fun v38n12 =>
 optK (un2 Tryz.prog .not v38n12) fun v39n13 =>
 ifV v39n13 (
 (inside (evCall2 Tryz.prog gt lf d 34 #[(Value.pointer none)])).bind fun v43n14 =>
 optK (bin2 Tryz.prog .eql 3 v43n14 (Value.int .i64 0)) fun v44n15 =>
 ifV v44n15 (
 (inside (evCall2 Tryz.prog gt lf d 27 #[(Value.pointer none)])).bind fun v48n16 =>
 optK (bin2 Tryz.prog .eql 3 v48n16 (Value.int .i64 0)) fun v49n17 =>
 ifV v49n17 (
 (inside (evCall2 Tryz.prog gt lf d 24 #[])).bind fun v52n18 =>
 outK [v52n18]) (
 outK [(Value.bool false)])) (
 outK [(Value.bool false)])) (
 outK [(Value.bool false)])) (
 outK [(Value.bool false)])) (
 outK [(Value.bool false)])) (
 outK [(Value.bool false)])) (
 outK [(Value.bool false)])) (
 outK [(Value.bool false)])) (
 outK [(Value.bool false)])
theorem sh_balerlaw23_PressNil (lf d : Nat) (a0 : Value) (a1 : Value) : evCall2 Tryz.prog gt lf (d + 1) 6 #[a0, a1] = inside (b_balerlaw23_PressNil lf d a0 a1) := by kernel_rfl

noncomputable def b_press_Press_Feed (lf d : Nat) (a0 : Value) (a1 : Value) : M Value :=
 optK (bin2 Tryz.prog .eql 48 a0 (Value.pointer none)) fun v7n1 =>
 ifV v7n1 (
 outK [(Value.int .i64 0)]) (
 optK (nil2 a0) fun v10n2 =>
 optK (evFieldAddr Tryz.prog 109 v10n2 2) fun v11n3 =>
 (inside (evLoad Tryz.prog 4 v11n3)).bind fun v12n4 =>
 ifV v12n4 (
 outK [(Value.int .i64 0)]) (
 optK (len2 Tryz.prog #[9] [a1]) fun v15n5 =>
 optK (nil2 a0) fun v17n6 =>
 optK (evFieldAddr Tryz.prog 109 v17n6 0) fun v18n7 =>
 (inside (evLoad Tryz.prog 3 v18n7)).bind fun v19n8 =>
 optK (nil2 a0) fun v21n9 =>
 optK (evFieldAddr Tryz.prog 109 v21n9 1) fun v22n10 =>
 (inside (evLoad Tryz.prog 9 v22n10)).bind fun v23n11 =>
 optK (len2 Tryz.prog #[9] [v23n11]) fun v24n12 =>
 optK (bin2 Tryz.prog .sub 3 v19n8 v24n12) fun v25n13 =>
 optK (min2 [v15n5, v25n13]) fun v26n14 =>
 optK (nil2 a0) fun v28n15 =>
 optK (evFieldAddr Tryz.prog 109 v28n15 1) fun v29n16 =>
 (inside (evLoad Tryz.prog 9 v29n16)).bind fun v30n17 =>
 slice2 Tryz.prog 9 a1 none (some v26n14) none fun v33n18 =>
 optK (bin2 Tryz.prog .add 9 v30n17 v33n18) fun v34n19 =>
 optK (nil2 a0) fun v35n20 =>
 optK (evFieldAddr Tryz.prog 109 v35n20 1) fun v36n21 =>
 (inside (evStore Tryz.prog 9 v36n21 v34n19)).bind fun u22 =>
 outK [v26n14]))
theorem sh_press_Press_Feed (lf d : Nat) (a0 : Value) (a1 : Value) : evCall2 Tryz.prog gt lf (d + 1) 26 #[a0, a1] = inside (b_press_Press_Feed lf d a0 a1) := by kernel_rfl

noncomputable def lpA_press_Press_Held (lf d fu : Nat) (k : Ex → Fr → M Value) (x0 : Value) (x2 : Value) (x3 : Value) (x7 : Value) (x34 : Value) (x35 : Value) (x36 : Value) : M Value := loopK (fun s1 k1 => codeK Tryz.prog (evCall2 Tryz.prog gt lf d) (gt 27) lf (codeAt (bodyOf Tryz.prog 27) [true, true, true, false, true, false, false]) s1 k1) [0, 2, 3, 7, 34, 35, 36] fu [(0, x0), (2, x2), (3, x3), (7, x7), (34, x34), (35, x35), (36, x36)] k
noncomputable def kcA_press_Press_Held (lf d : Nat) : Ex → Fr → M Value := contAt Tryz.prog (evCall2 Tryz.prog gt lf d) (gt 27) lf (bodyOf Tryz.prog 27) [true, true, true, false, true, false] (endK Tryz.prog (resOf Tryz.prog 27))
noncomputable def b_press_Press_Held (lf d : Nat) (a0 : Value) : M Value :=
 optK (bin2 Tryz.prog .eql 48 a0 (Value.pointer none)) fun v7n1 =>
 ifV v7n1 (
 outK [(Value.int .i64 0)]) (
 optK (nil2 a0) fun v9n2 =>
 optK (evFieldAddr Tryz.prog 109 v9n2 1) fun v10n3 =>
 (timed (
 (inside (evLoad Tryz.prog 9 v10n3)).bind fun v11n5 => M.ret v11n5)).bind fun vtn4 =>
 optK (len2 Tryz.prog #[9] [vtn4.1]) fun v12n6 =>
 optK (nil2 a0) fun v14n7 =>
 optK (evFieldAddr Tryz.prog 109 v14n7 3) fun v15n8 =>
 (timed (
 (inside (evLoad Tryz.prog 101 v15n8)).bind fun v16n10 => M.ret v16n10)).bind fun vtn9 =>
 (timed (
 (inside (evCall2 Tryz.prog gt lf d 73 #[vtn9.1])).bind fun v17n12 => M.ret v17n12)).bind fun vtn11 =>
 optK (bin2 Tryz.prog .add 3 v12n6 vtn11.1) fun v18n13 =>
 optK (nil2 a0) fun v20n14 =>
 optK (evFieldAddr Tryz.prog 109 v20n14 6) fun v21n15 =>
 (timed (
 (inside (evLoad Tryz.prog 107 v21n15)).bind fun v22n17 => M.ret v22n17)).bind fun vtn16 =>
 (timed (
 (inside (evCall2 Tryz.prog gt lf d 74 #[vtn16.1])).bind fun v23n19 => M.ret v23n19)).bind fun vtn18 =>
 optK (bin2 Tryz.prog .add 3 v18n13 vtn18.1) fun v24n20 =>
 optK (nil2 a0) fun v26n21 =>
 optK (evFieldAddr Tryz.prog 109 v26n21 9) fun v27n22 =>
 (timed (
 (inside (evLoad Tryz.prog 9 v27n22)).bind fun v28n24 => M.ret v28n24)).bind fun vtn23 =>
 optK (len2 Tryz.prog #[9] [vtn23.1]) fun v29n25 =>
 optK (bin2 Tryz.prog .add 3 v24n20 v29n25) fun v30n26 =>
 chkT ((!(Tk.clash vtn4.2 vtn11.2) && (!(Tk.clash vtn4.2 vtn18.2) && true)) && ((!(Tk.clash vtn11.2 vtn16.2) && (!(Tk.clash vtn11.2 vtn23.2) && true)) && ((!(Tk.clash vtn18.2 vtn23.2) && true) && true))) (
 optK (nil2 a0) fun v32n27 =>
 optK (evFieldAddr Tryz.prog 109 v32n27 5) fun v33n28 =>
 (inside (evLoad Tryz.prog 106 v33n28)).bind fun v34n29 =>
 optK (len2 Tryz.prog #[106] [v34n29]) fun v35n30 =>
 lpA_press_Press_Held lf d lf (kcA_press_Press_Held lf d) a0 (Value.int .i64 0) v30n26 v7n1 v34n29 v35n30 (Value.int .i64 0)))
theorem sh_press_Press_Held (lf d : Nat) (a0 : Value) : evCall2 Tryz.prog gt lf (d + 1) 27 #[a0] = inside (b_press_Press_Held lf d a0) := by kernel_rfl
noncomputable def b_press_Press_Stopped (lf d : Nat) (a0 : Value) : M Value :=
 optK (bin2 Tryz.prog .eql 48 a0 (Value.pointer none)) fun v5n1 =>
 ifV v5n1 (
 outK [(Value.bool true)]) (
 optK (nil2 a0) fun v8n2 =>
 optK (evFieldAddr Tryz.prog 109 v8n2 10) fun v9n3 =>
 (inside (evLoad Tryz.prog 4 v9n3)).bind fun v10n4 =>
 ifV v10n4 (
 outK [(Value.bool true)]) (
 (inside (evCall2 Tryz.prog gt lf d 75 #[a0])).bind fun v14n5 =>
 ifV v14n5 (
 optK (nil2 a0) fun v16n6 =>
 optK (evFieldAddr Tryz.prog 109 v16n6 9) fun v17n7 =>
 (inside (evLoad Tryz.prog 9 v17n7)).bind fun v18n8 =>
 optK (bin2 Tryz.prog .neq 9 v18n8 (Value.string { data := #[] })) fun v19n9 =>
 outK [v19n9]) (
 (inside (evCall2 Tryz.prog gt lf d 76 #[a0])).bind fun v21n10 =>
 optK (un2 Tryz.prog .not v21n10) fun v22n11 =>
 ifV v22n11 (
 optK (nil2 a0) fun v25n12 =>
 optK (evFieldAddr Tryz.prog 109 v25n12 1) fun v26n13 =>
 (inside (evLoad Tryz.prog 9 v26n13)).bind fun v27n14 =>
 optK (bin2 Tryz.prog .eql 9 v27n14 (Value.string { data := #[] })) fun v28n15 =>
 outK [v28n15]) (
 outK [(Value.bool false)]))))
theorem sh_press_Press_Stopped (lf d : Nat) (a0 : Value) : evCall2 Tryz.prog gt lf (d + 1) 28 #[a0] = inside (b_press_Press_Stopped lf d a0) := by kernel_rfl

noncomputable def b_press_Press_End (lf d : Nat) (a0 : Value) : M Value :=
 optK (bin2 Tryz.prog .eql 48 a0 (Value.pointer none)) fun v4n1 =>
 ifV v4n1 (
 outK [(Value.int .i64 7)]) (
 optK (nil2 a0) fun v7n2 =>
 optK (evFieldAddr Tryz.prog 109 v7n2 2) fun v8n3 =>
 (inside (evLoad Tryz.prog 4 v8n3)).bind fun v9n4 =>
 ifV v9n4 (
 outK [(Value.int .i64 7)]) (
 optK (nil2 a0) fun v12n5 =>
 optK (evFieldAddr Tryz.prog 109 v12n5 2) fun v13n6 =>
 (inside (evStore Tryz.prog 4 v13n6 (Value.bool true))).bind fun u7 =>
 (inside (evCall2 Tryz.prog gt lf d 77 #[a0])).bind fun v15n8 =>
 outK [(Value.int .i64 0)]))
theorem sh_press_Press_End (lf d : Nat) (a0 : Value) : evCall2 Tryz.prog gt lf (d + 1) 29 #[a0] = inside (b_press_Press_End lf d a0) := by kernel_rfl

noncomputable def lpA_press_Press_Step (lf d fu : Nat) (k : Ex → Fr → M Value) (x0 : Value) (x1 : Value) (x4 : Value) (x5 : Value) : M Value := loopK (fun s1 k1 => codeK Tryz.prog (evCall2 Tryz.prog gt lf d) (gt 30) lf (codeAt (bodyOf Tryz.prog 30) [true, true, false, false, false]) s1 k1) [0, 1, 4, 5] fu [(0, x0), (1, x1), (4, x4), (5, x5)] k
noncomputable def kcA_press_Press_Step (lf d : Nat) : Ex → Fr → M Value := contAt Tryz.prog (evCall2 Tryz.prog gt lf d) (gt 30) lf (bodyOf Tryz.prog 30) [true, true, false, false] (endK Tryz.prog (resOf Tryz.prog 30))
noncomputable def b_press_Press_Step (lf d : Nat) (a0 : Value) (a1 : Value) : M Value :=
 lpA_press_Press_Step lf d lf (kcA_press_Press_Step lf d) a0 a1 (Value.int .i64 0) (Value.int .i64 0)
theorem sh_press_Press_Step (lf d : Nat) (a0 : Value) (a1 : Value) : evCall2 Tryz.prog gt lf (d + 1) 30 #[a0, a1] = inside (b_press_Press_Step lf d a0 a1) := by kernel_rfl
theorem succA_press_Press_Step (lf d fu : Nat) (k : Ex → Fr → M Value) (x0 : Value) (x1 : Value) (x4 : Value) (x5 : Value) : lpA_press_Press_Step lf d (fu + 1) k x0 x1 x4 x5 =
  optK (bin2 Tryz.prog .lss 3 x5 x1) fun v8n1 =>
  ifV v8n1 (
    (inside (evCall2 Tryz.prog gt lf d 28 #[x0])).bind fun v11n2 =>
    optK (un2 Tryz.prog .not v11n2) fun v12n3 =>
    ifV v12n3 (
      optK (bin2 Tryz.prog .sub 3 x1 x5) fun v18n4 =>
      (inside (evCall2 Tryz.prog gt lf d 78 #[x0, v18n4])).bind fun v19n5 =>
      optK (bin2 Tryz.prog .add 3 x5 v19n5) fun v20n6 =>
      lpA_press_Press_Step lf d fu k x0 x1 x4 v20n6) (
      k (Ex.exit 0) [(0, x0), (1, x1), (4, x4), (5, x5), (13, v12n3)])) (
    k (Ex.exit 0) [(0, x0), (1, x1), (4, x4), (5, x5), (13, (Value.bool false))]) := by kernel_rfl
theorem kcAa_press_Press_Step (lf d : Nat) (y0 : Value) (y1 : Value) (y4 : Value) (y5 : Value) (y13 : Value) : kcA_press_Press_Step lf d (Ex.exit 0) [(0, y0), (1, y1), (4, y4), (5, y5), (13, y13)] =
  optK (bin2 Tryz.prog .neq 48 y0 (Value.pointer none)) fun v22n7 =>
  ifV v22n7 (
    optK (nil2 y0) fun v24n8 =>
    optK (evFieldAddr Tryz.prog 109 v24n8 11) fun v25n9 =>
    (inside (evLoad Tryz.prog 3 v25n9)).bind fun v26n10 =>
    optK (bin2 Tryz.prog .add 3 v26n10 y5) fun v28n11 =>
    optK (nil2 y0) fun v29n12 =>
    optK (evFieldAddr Tryz.prog 109 v29n12 11) fun v30n13 =>
    (inside (evStore Tryz.prog 3 v30n13 v28n11)).bind fun u14 =>
    outK [y5]) (
    outK [y5]) := by kernel_rfl

noncomputable def b_press_Press_Take (lf d : Nat) (a0 : Value) (a1 : Value) : M Value :=
 optK (bin2 Tryz.prog .eql 48 a0 (Value.pointer none)) fun v8n1 =>
 ifV v8n1 (
 outK [(Value.string { data := #[] })]) (
 optK (bin2 Tryz.prog .lss 3 a1 (Value.int .i64 1)) fun v11n2 =>
 ifV v11n2 (
 outK [(Value.string { data := #[] })]) (
 optK (nil2 a0) fun v15n3 =>
 optK (evFieldAddr Tryz.prog 109 v15n3 9) fun v16n4 =>
 (inside (evLoad Tryz.prog 9 v16n4)).bind fun v17n5 =>
 optK (len2 Tryz.prog #[9] [v17n5]) fun v18n6 =>
 optK (min2 [a1, v18n6]) fun v19n7 =>
 optK (nil2 a0) fun v21n8 =>
 optK (evFieldAddr Tryz.prog 109 v21n8 9) fun v22n9 =>
 (inside (evLoad Tryz.prog 9 v22n9)).bind fun v23n10 =>
 slice2 Tryz.prog 9 v23n10 none (some v19n7) none fun v25n11 =>
 optK (nil2 a0) fun v28n12 =>
 optK (evFieldAddr Tryz.prog 109 v28n12 9) fun v29n13 =>
 (inside (evLoad Tryz.prog 9 v29n13)).bind fun v30n14 =>
 slice2 Tryz.prog 9 v30n14 (some v19n7) none none fun v32n15 =>
 optK (nil2 a0) fun v33n16 =>
 optK (evFieldAddr Tryz.prog 109 v33n16 9) fun v34n17 =>
 (inside (evStore Tryz.prog 9 v34n17 v32n15)).bind fun u18 =>
 outK [v25n11]))
theorem sh_press_Press_Take (lf d : Nat) (a0 : Value) (a1 : Value) : evCall2 Tryz.prog gt lf (d + 1) 31 #[a0, a1] = inside (b_press_Press_Take lf d a0 a1) := by kernel_rfl

noncomputable def b_press_Press_Waiting (lf d : Nat) (a0 : Value) : M Value :=
 optK (bin2 Tryz.prog .eql 48 a0 (Value.pointer none)) fun v4n1 =>
 ifV v4n1 (
 outK [(Value.int .i64 0)]) (
 optK (nil2 a0) fun v6n2 =>
 optK (evFieldAddr Tryz.prog 109 v6n2 9) fun v7n3 =>
 (inside (evLoad Tryz.prog 9 v7n3)).bind fun v8n4 =>
 optK (len2 Tryz.prog #[9] [v8n4]) fun v9n5 =>
 outK [v9n5])
theorem sh_press_Press_Waiting (lf d : Nat) (a0 : Value) : evCall2 Tryz.prog gt lf (d + 1) 32 #[a0] = inside (b_press_Press_Waiting lf d a0) := by kernel_rfl

noncomputable def b_press_Press_Done (lf d : Nat) (a0 : Value) : M Value :=
 optK (bin2 Tryz.prog .neq 48 a0 (Value.pointer none)) fun v4n1 =>
 ifV v4n1 (
 optK (nil2 a0) fun v7n2 =>
 optK (evFieldAddr Tryz.prog 109 v7n2 10) fun v8n3 =>
 (inside (evLoad Tryz.prog 4 v8n3)).bind fun v9n4 =>
 outK [v9n4]) (
 outK [(Value.bool false)])
theorem sh_press_Press_Done (lf d : Nat) (a0 : Value) : evCall2 Tryz.prog gt lf (d + 1) 33 #[a0] = inside (b_press_Press_Done lf d a0) := by kernel_rfl

noncomputable def b_press_Press_Steps (lf d : Nat) (a0 : Value) : M Value :=
 optK (bin2 Tryz.prog .eql 48 a0 (Value.pointer none)) fun v4n1 =>
 ifV v4n1 (
 outK [(Value.int .i64 0)]) (
 optK (nil2 a0) fun v6n2 =>
 optK (evFieldAddr Tryz.prog 109 v6n2 11) fun v7n3 =>
 (inside (evLoad Tryz.prog 3 v7n3)).bind fun v8n4 =>
 outK [v8n4])
theorem sh_press_Press_Steps (lf d : Nat) (a0 : Value) : evCall2 Tryz.prog gt lf (d + 1) 34 #[a0] = inside (b_press_Press_Steps lf d a0) := by kernel_rfl

noncomputable def lpA_bits_Writer_Pad (lf d fu : Nat) (k : Ex → Fr → M Value) (x0 : Value) : M Value := loopK (fun s1 k1 => codeK Tryz.prog (evCall2 Tryz.prog gt lf d) (gt 56) lf (codeAt (bodyOf Tryz.prog 56) [false, false]) s1 k1) [0] fu [(0, x0)] k
noncomputable def kcA_bits_Writer_Pad (lf d : Nat) : Ex → Fr → M Value := contAt Tryz.prog (evCall2 Tryz.prog gt lf d) (gt 56) lf (bodyOf Tryz.prog 56) [false] (endK Tryz.prog (resOf Tryz.prog 56))
noncomputable def lpA_bits_Writer_Put (lf d fu : Nat) (k : Ex → Fr → M Value) (x0 : Value) (x1 : Value) (x2 : Value) (x6 : Value) (x8 : Value) (x11 : Value) (x16 : Value) (x17 : Value) : M Value := loopK (fun s1 k1 => codeK Tryz.prog (evCall2 Tryz.prog gt lf d) (gt 65) lf (codeAt (bodyOf Tryz.prog 65) [true, true, false, true, false, false]) s1 k1) [0, 1, 2, 6, 8, 11, 16, 17] fu [(0, x0), (1, x1), (2, x2), (6, x6), (8, x8), (11, x11), (16, x16), (17, x17)] k
noncomputable def kcA_bits_Writer_Put (lf d : Nat) : Ex → Fr → M Value := contAt Tryz.prog (evCall2 Tryz.prog gt lf d) (gt 65) lf (bodyOf Tryz.prog 65) [true, true, false, true, false] (endK Tryz.prog (resOf Tryz.prog 65))
noncomputable def lpA_stream_New (lf d fu : Nat) (k : Ex → Fr → M Value) (x0 : Value) (x2 : Value) (x3 : Value) (x4 : Value) (x11 : Value) (x15 : Value) : M Value := loopK (fun s1 k1 => codeK Tryz.prog (evCall2 Tryz.prog gt lf d) (gt 72) lf (codeAt (bodyOf Tryz.prog 72) [true, true, true, false, true, false, false]) s1 k1) [0, 2, 3, 4, 11, 15] fu [(0, x0), (2, x2), (3, x3), (4, x4), (11, x11), (15, x15)] k
noncomputable def kcA_stream_New (lf d : Nat) : Ex → Fr → M Value := contAt Tryz.prog (evCall2 Tryz.prog gt lf d) (gt 72) lf (bodyOf Tryz.prog 72) [true, true, true, false, true, false] (endK Tryz.prog (resOf Tryz.prog 72))
noncomputable def lpA_crc_Table (lf d fu : Nat) (k : Ex → Fr → M Value) (x0 : Value) (x1 : Value) (x5 : Value) : M Value := loopK (fun s1 k1 => codeK Tryz.prog (evCall2 Tryz.prog gt lf d) (gt 169) lf (codeAt (bodyOf Tryz.prog 169) [true, true, false, true, false, false]) s1 k1) [0, 1, 5] fu [(0, x0), (1, x1), (5, x5)] k
noncomputable def kcA_crc_Table (lf d : Nat) : Ex → Fr → M Value := contAt Tryz.prog (evCall2 Tryz.prog gt lf d) (gt 169) lf (bodyOf Tryz.prog 169) [true, true, false, true, false] (endK Tryz.prog (resOf Tryz.prog 169))
noncomputable def lpB_crc_Table (lf d fu : Nat) (k : Ex → Fr → M Value) (x0 : Value) (x1 : Value) (x2 : Value) (x3 : Value) (x5 : Value) (x6 : Value) (x11 : Value) : M Value := loopK (fun s1 k1 => codeK Tryz.prog (evCall2 Tryz.prog gt lf d) (gt 169) lf (codeAt (bodyOf Tryz.prog 169) [true, true, false, true, false, false, true, true, false, false, true, true, false, true, false, false]) s1 k1) [0, 1, 2, 3, 5, 6, 11] fu [(0, x0), (1, x1), (2, x2), (3, x3), (5, x5), (6, x6), (11, x11)] k
noncomputable def kcB_crc_Table (lf d fu : Nat) (k : Ex → Fr → M Value) : Ex → Fr → M Value := contAt Tryz.prog (evCall2 Tryz.prog gt lf d) (gt 169) lf (codeAt (bodyOf Tryz.prog 169) [true, true, false, true, false, false]) [true, true, false, false, true, true, false, true, false] (againK (fun s1 => loopK (fun s1 k1 => codeK Tryz.prog (evCall2 Tryz.prog gt lf d) (gt 169) lf (codeAt (bodyOf Tryz.prog 169) [true, true, false, true, false, false]) s1 k1) [0, 1, 5] fu (s1.keep [0, 1, 5]) k) k)
end Go.Proofs.YthhhkplbjcknkaaGreatDoor

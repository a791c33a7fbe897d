/- What the evaluators second form makes of the functions that the small statements of layer 23 reach. -/
import Derived.Test.YthhhkplbjcknkaaGreatDoorRows
import Derived.Test.YthhhkplbjcknkaaGreatDoorEvXx
namespace Go.Proofs.YthhhkplbjcknkaaGreatDoor
set_option linter.unusedVariables false
set_option linter.unusedSimpArgs false
open Go.RowKit Ev
def gtL : List (List Nat) := [[], [], [], [], [], [0, 1, 2, 4, 5, 6, 7, 9, 10, 11, 24, 36, 37, 38, 39, 44, 57, 72], [0, 1, 4, 5], [0, 1, 2, 3, 4, 5, 6, 29], [], [], [], [], [], [], [], [], [], [], [], [], [], [0, 2, 4], [0, 2, 4], [0, 1, 2], [], [0, 1, 2, 6, 7, 8, 9, 10, 12, 26], [0, 1, 4, 5, 13], [0, 2, 3, 5, 7, 34, 35, 36, 37], [0, 2, 3, 12], [0, 2, 10], [0, 1, 4, 5, 13, 22], [0, 1, 4, 5, 6, 12], [0, 2, 4], [0, 2], [0, 2, 4], [0, 1, 2, 6, 7, 8, 9, 22], [0, 1, 2, 6, 7], [], [], [], [], [], [], [], [], [], [], [], [], [], [], [], [], [0], [], [0, 2, 4], [0, 11], [0, 2, 3, 5], [], [], [0, 2, 8], [], [], [], [], [0, 1, 2, 6, 7, 8, 11, 16, 17, 18], [0, 2, 4], [0, 1, 2, 6], [], [0, 1, 4, 5, 19], [0, 2], [0, 2, 3, 9], [0, 2, 3, 4, 5, 11, 15, 16], [0, 2, 4], [0, 2, 4], [0, 2, 4], [0, 2], [0, 19], [0, 1, 4, 5, 27, 34, 55, 64], [], [], [], [], [], [], [], [], [], [], [], [], [], [], [], [], [], [], [], [], [], [0, 1, 4, 29], [], [], [0, 2], [], [], [], [], [], [], [0, 1, 4], [0, 2], [0, 2], [], [], [], [], [], [], [0], [0], [0, 2, 4], [], [0, 2, 3, 4, 5, 6, 7, 8, 9, 11, 23, 32, 44], [0, 2, 3, 23], [0, 2, 3, 25], [], [], [], [], [], [], [], [], [], [], [], [], [], [], [], [], [], [], [], [], [], [], [], [], [], [], [], [], [], [], [], [], [], [], [], [], [], [], [], [], [], [], [], [0, 1, 2, 3, 4, 5, 6, 11, 12], [0, 2, 4], [0, 1, 2, 4, 6, 7, 8, 9, 22], [0, 2, 3, 4, 10], [], [], [], [], [], [], [], [], [], [], [], [], [], [], [], [], [], [], [], [], [], [], [], [], [], [], [], [], [], [0, 2, 3], [], [0, 2, 4], [0, 3], [0, 1, 4, 5, 7, 22, 44], [], [], [], [], [], [], [], [], [], [], [], [], [], [], [], [], [], [], [], [], [], [], [], [], [], [], [0, 1, 2, 3, 11], [], [], [], [], [], [], [], [], [], [], [], [], [], [], [], [], [], [], [], [], [], [], [], [], [], [], [], [], [], [], [], [], [], [], [], [], [], [], [], [], [], [], [], [], [], [], [], [], [], [], [], [], [], [], [], [], [], [], [], [], [], [], [], [], [], [], [], [], [], [], [], [], []]
def gt (f : Nat) : List Nat := gtL.getD f []
theorem okd : okDsts Tryz.prog = true := by kernel_rfl
theorem sz46 : size? Tryz.prog 46 = some 3 := by kernel_rfl
theorem aga46 : agg? Tryz.prog 46 = some true := by kernel_rfl
theorem len47 (a : Option Addr) (n c : Nat) : len2 Tryz.prog #[47] [.slice a n c] = some (.int .i64 n) := len_slice Tryz.underlying47 a n c
theorem nt3 : isNilT Tryz.prog 3 = false := by kernel_rfl
theorem bgtr3 (a b : Int) : bin2 Tryz.prog .gtr 3 (.int .i64 a) (.int .i64 b) = some (.bool (decide (b < a))) := b_gtr nt3 a b
theorem fa46f2 (b off : Nat) : evFieldAddr Tryz.prog 46 (.pointer (some ⟨b, off, none⟩)) 2 = some (.pointer (some ⟨b, off + 2, none⟩)) := by kernel_rfl
theorem ag3 : agg? Tryz.prog 3 = some false := by kernel_rfl
theorem ldr3 {β : Type} {W : Nat → Prop} {n0 : Nat} {h : H} {n : Nat} {Q : β → H → Nat → Prop} (b off : Nat) (k : Value → M β) (hb : b < n) : Run W n0 ((inside (evLoad Tryz.prog 3 (.pointer (some ⟨b, off, none⟩)))).bind k) h n Q ↔ optG (h.get b) fun B => Run W n0 (optK (B.cells[off]?) k) h n Q := ld_iff ag3 b off k hb
theorem fa46f0 (b off : Nat) : evFieldAddr Tryz.prog 46 (.pointer (some ⟨b, off, none⟩)) 0 = some (.pointer (some ⟨b, off + 0, none⟩)) := by kernel_rfl
theorem fa46f1 (b off : Nat) : evFieldAddr Tryz.prog 46 (.pointer (some ⟨b, off, none⟩)) 1 = some (.pointer (some ⟨b, off + 1, none⟩)) := by kernel_rfl
theorem blss3 (a b : Int) : bin2 Tryz.prog .lss 3 (.int .i64 a) (.int .i64 b) = some (.bool (decide (a < b))) := b_lss nt3 a b
theorem sz9 : size? Tryz.prog 9 = some 1 := by kernel_rfl
theorem ix47 (b off n c : Nat) (k : IntKind) (i : Int) (h0 : 0 ≤ i) (h1 : i < n) : evIndexAddr Tryz.prog 47 (.slice (some ⟨b, off, none⟩) n c) (.int k i) = some (.pointer (some ⟨b, off + i.toNat, none⟩)) := (ix_slice Tryz.underlying47 sz9 b off n c k i h0 h1).trans (by rw [Nat.mul_one])
theorem ag9 : agg? Tryz.prog 9 = some false := by kernel_rfl
theorem ldr9 {β : Type} {W : Nat → Prop} {n0 : Nat} {h : H} {n : Nat} {Q : β → H → Nat → Prop} (b off : Nat) (k : Value → M β) (hb : b < n) : Run W n0 ((inside (evLoad Tryz.prog 9 (.pointer (some ⟨b, off, none⟩)))).bind k) h n Q ↔ optG (h.get b) fun B => Run W n0 (optK (B.cells[off]?) k) h n Q := ld_iff ag9 b off k hb
theorem len9 (s : List UInt8) : len2 Tryz.prog #[9] [.string ⟨s.toArray⟩] = some (.int .i64 s.length) := len_strL Tryz.underlying9 s
theorem bsub3 (a b : Int) : bin2 Tryz.prog .sub 3 (.int .i64 a) (.int .i64 b) = some (.int .i64 (IntKind.i64.wrap (a - b))) := b_sub nt3 a b
theorem bneq3 (a b : Int) : bin2 Tryz.prog .neq 3 (.int .i64 a) (.int .i64 b) = some (.bool (a != b)) := b_neq nt3 a b
theorem badd3 (a b : Int) : bin2 Tryz.prog .add 3 (.int .i64 a) (.int .i64 b) = some (.int .i64 (IntKind.i64.wrap (a + b))) := b_add nt3 a b
theorem beql3 (a b : Int) : bin2 Tryz.prog .eql 3 (.int .i64 a) (.int .i64 b) = some (.bool (a == b)) := b_eql nt3 a b
theorem nt25 : isNilT Tryz.prog 25 = false := by kernel_rfl
theorem beql25 (a b : Int) : bin2 Tryz.prog .eql 25 (.int .i64 a) (.int .i64 b) = some (.bool (a == b)) := b_eql nt25 a b
theorem nt9 : isNilT Tryz.prog 9 = false := by kernel_rfl
theorem beql9 (a b : List UInt8) : bin2 Tryz.prog .eql 9 (.string ⟨a.toArray⟩) (.string ⟨b.toArray⟩) = some (.bool (decide (a = b))) := b_eqlS nt9 a b
theorem beql48s (a : Addr) : bin2 Tryz.prog .eql 48 (.pointer (some a)) (.pointer none) = some (.bool false) := by kernel_rfl
theorem beql48n : bin2 Tryz.prog .eql 48 (.pointer none) (.pointer none) = some (.bool true) := by kernel_rfl
theorem beql39s (a : Addr) : bin2 Tryz.prog .eql 39 (.pointer (some a)) (.pointer none) = some (.bool false) := by kernel_rfl
theorem beql39n : bin2 Tryz.prog .eql 39 (.pointer none) (.pointer none) = some (.bool true) := by kernel_rfl
theorem fa89f0 (b off : Nat) : evFieldAddr Tryz.prog 89 (.pointer (some ⟨b, off, none⟩)) 0 = some (.pointer (some ⟨b, off + 0, none⟩)) := by kernel_rfl
theorem ag71 : agg? Tryz.prog 71 = some false := by kernel_rfl
theorem ldr71 {β : Type} {W : Nat → Prop} {n0 : Nat} {h : H} {n : Nat} {Q : β → H → Nat → Prop} (b off : Nat) (k : Value → M β) (hb : b < n) : Run W n0 ((inside (evLoad Tryz.prog 71 (.pointer (some ⟨b, off, none⟩)))).bind k) h n Q ↔ optG (h.get b) fun B => Run W n0 (optK (B.cells[off]?) k) h n Q := ld_iff ag71 b off k hb
theorem bneq25 (a b : Int) : bin2 Tryz.prog .neq 25 (.int .i64 a) (.int .i64 b) = some (.bool (a != b)) := b_neq nt25 a b
theorem bd109x0x3x8x9 (v0 : Int) (v3 : Option Addr) (v8 : Option Addr) (v9 : ByteArray) : evBuild Tryz.prog 109 [(0, (Value.int .i64 v0)), (3, (Value.pointer v3)), (8, (Value.pointer v8)), (9, (Value.string v9))] = M.ret (.agg #[(Value.int .i64 v0), (Go.Value.string { data := #[] }), (Go.Value.bool false), (Value.pointer v3), (Go.Value.bool false), (Go.Value.slice none 0 0), (Go.Value.pointer none), (Go.Value.int Go.IntKind.i64 0), (Value.pointer v8), (Value.string v9), (Go.Value.bool false), (Go.Value.int Go.IntKind.i64 0)]) := by kernel_rfl
theorem sz109 : size? Tryz.prog 109 = some 12 := by kernel_rfl
theorem fa109f2 (b off : Nat) : evFieldAddr Tryz.prog 109 (.pointer (some ⟨b, off, none⟩)) 2 = some (.pointer (some ⟨b, off + 2, none⟩)) := by kernel_rfl
theorem ag4 : agg? Tryz.prog 4 = some false := by kernel_rfl
theorem ldr4 {β : Type} {W : Nat → Prop} {n0 : Nat} {h : H} {n : Nat} {Q : β → H → Nat → Prop} (b off : Nat) (k : Value → M β) (hb : b < n) : Run W n0 ((inside (evLoad Tryz.prog 4 (.pointer (some ⟨b, off, none⟩)))).bind k) h n Q ↔ optG (h.get b) fun B => Run W n0 (optK (B.cells[off]?) k) h n Q := ld_iff ag4 b off k hb
theorem fa109f0 (b off : Nat) : evFieldAddr Tryz.prog 109 (.pointer (some ⟨b, off, none⟩)) 0 = some (.pointer (some ⟨b, off + 0, none⟩)) := by kernel_rfl
theorem fa109f1 (b off : Nat) : evFieldAddr Tryz.prog 109 (.pointer (some ⟨b, off, none⟩)) 1 = some (.pointer (some ⟨b, off + 1, none⟩)) := by kernel_rfl
theorem slh9 {β : Type} (l : List UInt8) (kd : IntKind) (j : Int) (k : Value → M β) (h0 : 0 ≤ j) (h1 : j ≤ l.length) : slice2 Tryz.prog 9 (.string ⟨l.toArray⟩) none (some (.int kd j)) none k = k (.string ⟨(l.take j.toNat).toArray⟩) := sls_hi Tryz.underlying9 l kd j k h0 h1
theorem sll9 {β : Type} (l : List UInt8) (kd : IntKind) (i : Int) (k : Value → M β) (h0 : 0 ≤ i) (h1 : i ≤ l.length) : slice2 Tryz.prog 9 (.string ⟨l.toArray⟩) (some (.int kd i)) none none k = k (.string ⟨(l.drop i.toNat).toArray⟩) := sls_lo Tryz.underlying9 l kd i k h0 h1
theorem slb9 {β : Type} (l : List UInt8) (kd kd' : IntKind) (i j : Int) (k : Value → M β) (h0 : 0 ≤ i) (h1 : i ≤ j) (h2 : j ≤ l.length) : slice2 Tryz.prog 9 (.string ⟨l.toArray⟩) (some (.int kd i)) (some (.int kd' j)) none k = k (.string ⟨((l.drop i.toNat).take (j.toNat - i.toNat)).toArray⟩) := sls_both Tryz.underlying9 l kd kd' i j k h0 h1 h2
theorem badd9 (a b : List UInt8) (h : a.length + b.length ≤ 9223372036854775807) : bin2 Tryz.prog .add 9 (.string ⟨a.toArray⟩) (.string ⟨b.toArray⟩) = some (.string ⟨(a ++ b).toArray⟩) := b_addS nt9 a b h
theorem str9 {β : Type} {W : Nat → Prop} {n0 : Nat} {h : H} {n : Nat} {Q : β → H → Nat → Prop} (b off : Nat) (v : Value) (k : Value → M β) (hb : b < n) (h1 : one v = true) : Run W n0 ((inside (evStore Tryz.prog 9 (.pointer (some ⟨b, off, none⟩)) v)).bind k) h n Q ↔ optG (h.get b) fun B => B.own = true ∧ off < B.cells.length ∧ (n0 ≤ b ∨ W b) ∧ Run W n0 (k undef) (h.set b (some ⟨B.elem, B.own, B.cells.set off v⟩)) n Q := st_iff sz9 b off v k hb h1
theorem fa109f3 (b off : Nat) : evFieldAddr Tryz.prog 109 (.pointer (some ⟨b, off, none⟩)) 3 = some (.pointer (some ⟨b, off + 3, none⟩)) := by kernel_rfl
theorem ag101 : agg? Tryz.prog 101 = some false := by kernel_rfl
theorem ldr101 {β : Type} {W : Nat → Prop} {n0 : Nat} {h : H} {n : Nat} {Q : β → H → Nat → Prop} (b off : Nat) (k : Value → M β) (hb : b < n) : Run W n0 ((inside (evLoad Tryz.prog 101 (.pointer (some ⟨b, off, none⟩)))).bind k) h n Q ↔ optG (h.get b) fun B => Run W n0 (optK (B.cells[off]?) k) h n Q := ld_iff ag101 b off k hb
theorem fa109f6 (b off : Nat) : evFieldAddr Tryz.prog 109 (.pointer (some ⟨b, off, none⟩)) 6 = some (.pointer (some ⟨b, off + 6, none⟩)) := by kernel_rfl
theorem ag107 : agg? Tryz.prog 107 = some false := by kernel_rfl
theorem ldr107 {β : Type} {W : Nat → Prop} {n0 : Nat} {h : H} {n : Nat} {Q : β → H → Nat → Prop} (b off : Nat) (k : Value → M β) (hb : b < n) : Run W n0 ((inside (evLoad Tryz.prog 107 (.pointer (some ⟨b, off, none⟩)))).bind k) h n Q ↔ optG (h.get b) fun B => Run W n0 (optK (B.cells[off]?) k) h n Q := ld_iff ag107 b off k hb
theorem fa109f9 (b off : Nat) : evFieldAddr Tryz.prog 109 (.pointer (some ⟨b, off, none⟩)) 9 = some (.pointer (some ⟨b, off + 9, none⟩)) := by kernel_rfl
theorem fa109f5 (b off : Nat) : evFieldAddr Tryz.prog 109 (.pointer (some ⟨b, off, none⟩)) 5 = some (.pointer (some ⟨b, off + 5, none⟩)) := by kernel_rfl
theorem ag106 : agg? Tryz.prog 106 = some false := by kernel_rfl
theorem ldr106 {β : Type} {W : Nat → Prop} {n0 : Nat} {h : H} {n : Nat} {Q : β → H → Nat → Prop} (b off : Nat) (k : Value → M β) (hb : b < n) : Run W n0 ((inside (evLoad Tryz.prog 106 (.pointer (some ⟨b, off, none⟩)))).bind k) h n Q ↔ optG (h.get b) fun B => Run W n0 (optK (B.cells[off]?) k) h n Q := ld_iff ag106 b off k hb
theorem len106 (a : Option Addr) (n c : Nat) : len2 Tryz.prog #[106] [.slice a n c] = some (.int .i64 n) := len_slice Tryz.underlying106 a n c
theorem sz111 : size? Tryz.prog 111 = some 3 := by kernel_rfl
theorem ix106 (b off n c : Nat) (k : IntKind) (i : Int) (h0 : 0 ≤ i) (h1 : i < n) : evIndexAddr Tryz.prog 106 (.slice (some ⟨b, off, none⟩) n c) (.int k i) = some (.pointer (some ⟨b, off + i.toNat * 3, none⟩)) := ix_slice Tryz.underlying106 sz111 b off n c k i h0 h1
theorem aga111 : agg? Tryz.prog 111 = some true := by kernel_rfl
theorem zr111 : zero? Tryz.prog 111 = some (Go.Value.agg #[(Go.Value.string { data := #[] }), (Go.Value.int Go.IntKind.u32 0), (Go.Value.int Go.IntKind.i64 0)]) := by kernel_rfl
theorem fa111f0 (b off : Nat) : evFieldAddr Tryz.prog 111 (.pointer (some ⟨b, off, none⟩)) 0 = some (.pointer (some ⟨b, off + 0, none⟩)) := by kernel_rfl
theorem fa109f10 (b off : Nat) : evFieldAddr Tryz.prog 109 (.pointer (some ⟨b, off, none⟩)) 10 = some (.pointer (some ⟨b, off + 10, none⟩)) := by kernel_rfl
theorem bneq9 (a b : List UInt8) : bin2 Tryz.prog .neq 9 (.string ⟨a.toArray⟩) (.string ⟨b.toArray⟩) = some (.bool (!decide (a = b))) := b_neqS nt9 a b
theorem sz4 : size? Tryz.prog 4 = some 1 := by kernel_rfl
theorem str4 {β : Type} {W : Nat → Prop} {n0 : Nat} {h : H} {n : Nat} {Q : β → H → Nat → Prop} (b off : Nat) (v : Value) (k : Value → M β) (hb : b < n) (h1 : one v = true) : Run W n0 ((inside (evStore Tryz.prog 4 (.pointer (some ⟨b, off, none⟩)) v)).bind k) h n Q ↔ optG (h.get b) fun B => B.own = true ∧ off < B.cells.length ∧ (n0 ≤ b ∨ W b) ∧ Run W n0 (k undef) (h.set b (some ⟨B.elem, B.own, B.cells.set off v⟩)) n Q := st_iff sz4 b off v k hb h1
theorem bneq48s (a : Addr) : bin2 Tryz.prog .neq 48 (.pointer (some a)) (.pointer none) = some (.bool true) := by kernel_rfl
theorem bneq48n : bin2 Tryz.prog .neq 48 (.pointer none) (.pointer none) = some (.bool false) := by kernel_rfl
theorem fa109f11 (b off : Nat) : evFieldAddr Tryz.prog 109 (.pointer (some ⟨b, off, none⟩)) 11 = some (.pointer (some ⟨b, off + 11, none⟩)) := by kernel_rfl
theorem sz3 : size? Tryz.prog 3 = some 1 := by kernel_rfl
theorem str3 {β : Type} {W : Nat → Prop} {n0 : Nat} {h : H} {n : Nat} {Q : β → H → Nat → Prop} (b off : Nat) (v : Value) (k : Value → M β) (hb : b < n) (h1 : one v = true) : Run W n0 ((inside (evStore Tryz.prog 3 (.pointer (some ⟨b, off, none⟩)) v)).bind k) h n Q ↔ optG (h.get b) fun B => B.own = true ∧ off < B.cells.length ∧ (n0 ≤ b ∨ W b) ∧ Run W n0 (k undef) (h.set b (some ⟨B.elem, B.own, B.cells.set off v⟩)) n Q := st_iff sz3 b off v k hb h1
theorem bmul3 (a b : Int) : bin2 Tryz.prog .mul 3 (.int .i64 a) (.int .i64 b) = some (.int .i64 (IntKind.i64.wrap (a * b))) := b_mul nt3 a b
theorem bd135x  : evBuild Tryz.prog 135 [] = M.ret (.agg #[(Go.Value.slice none 0 0), (Go.Value.int Go.IntKind.u8 0), (Go.Value.int Go.IntKind.i64 0)]) := by kernel_rfl
theorem sz135 : size? Tryz.prog 135 = some 3 := by kernel_rfl
theorem beql71s (a : Addr) : bin2 Tryz.prog .eql 71 (.pointer (some a)) (.pointer none) = some (.bool false) := by kernel_rfl
theorem beql71n : bin2 Tryz.prog .eql 71 (.pointer none) (.pointer none) = some (.bool true) := by kernel_rfl
theorem fa135f2 (b off : Nat) : evFieldAddr Tryz.prog 135 (.pointer (some ⟨b, off, none⟩)) 2 = some (.pointer (some ⟨b, off + 2, none⟩)) := by kernel_rfl
theorem bneq71s (a : Addr) : bin2 Tryz.prog .neq 71 (.pointer (some a)) (.pointer none) = some (.bool true) := by kernel_rfl
theorem bneq71n : bin2 Tryz.prog .neq 71 (.pointer none) (.pointer none) = some (.bool false) := by kernel_rfl
theorem brem3 (a b : Int) (h0 : b ≠ 0) : bin2 Tryz.prog .rem 3 (.int .i64 a) (.int .i64 b) = some (.int .i64 (a.tmod b)) := b_rem nt3 a b h0
theorem fa135f0 (b off : Nat) : evFieldAddr Tryz.prog 135 (.pointer (some ⟨b, off, none⟩)) 0 = some (.pointer (some ⟨b, off + 0, none⟩)) := by kernel_rfl
theorem ag133 : agg? Tryz.prog 133 = some false := by kernel_rfl
theorem ldr133 {β : Type} {W : Nat → Prop} {n0 : Nat} {h : H} {n : Nat} {Q : β → H → Nat → Prop} (b off : Nat) (k : Value → M β) (hb : b < n) : Run W n0 ((inside (evLoad Tryz.prog 133 (.pointer (some ⟨b, off, none⟩)))).bind k) h n Q ↔ optG (h.get b) fun B => Run W n0 (optK (B.cells[off]?) k) h n Q := ld_iff ag133 b off k hb
theorem sz133 : size? Tryz.prog 133 = some 1 := by kernel_rfl
theorem str133 {β : Type} {W : Nat → Prop} {n0 : Nat} {h : H} {n : Nat} {Q : β → H → Nat → Prop} (b off : Nat) (v : Value) (k : Value → M β) (hb : b < n) (h1 : one v = true) : Run W n0 ((inside (evStore Tryz.prog 133 (.pointer (some ⟨b, off, none⟩)) v)).bind k) h n Q ↔ optG (h.get b) fun B => B.own = true ∧ off < B.cells.length ∧ (n0 ≤ b ∨ W b) ∧ Run W n0 (k undef) (h.set b (some ⟨B.elem, B.own, B.cells.set off v⟩)) n Q := st_iff sz133 b off v k hb h1
theorem nt38 : isNilT Tryz.prog 38 = false := by kernel_rfl
theorem bshr38 {k' : IntKind} (a b : Int) (h0 : 0 ≤ b) : bin2 Tryz.prog .shr 38 (.int .u32 a) (.int k' b) = some (.int .u32 (a.fdiv (2 ^ (min b.toNat (IntKind.u32).bits)))) := b_shr nt38 a b h0
theorem band38 (a b : Int) : bin2 Tryz.prog .and 38 (.int .u32 a) (.int .u32 b) = some (.int .u32 (IntKind.u32.wrap (BitVec.ofInt (IntKind.u32).bits a &&& BitVec.ofInt (IntKind.u32).bits b).toNat)) := b_and nt38 a b
theorem cv38x5 {β : Type} (x : Int) (k : Value → M β) : conv2 Tryz.prog 38 5 (.int .u32 x) k = k (.int .u8 (IntKind.u8.wrap x)) := by kernel_rfl
theorem len133 (a : Option Addr) (n c : Nat) : len2 Tryz.prog #[133] [.slice a n c] = some (.int .i64 n) := len_slice Tryz.underlying133 a n c
theorem bgeq3 (a b : Int) : bin2 Tryz.prog .geq 3 (.int .i64 a) (.int .i64 b) = some (.bool (decide (b ≤ a))) := b_geq nt3 a b
theorem bleq3 (a b : Int) : bin2 Tryz.prog .leq 3 (.int .i64 a) (.int .i64 b) = some (.bool (decide (a ≤ b))) := b_leq nt3 a b
theorem bd160x1 (v1 : Option Addr) : evBuild Tryz.prog 160 [(1, (Value.pointer v1))] = M.ret (.agg #[(Go.Value.slice none 0 0), (Value.pointer v1), (Go.Value.int Go.IntKind.i64 0)]) := by kernel_rfl
theorem bd164x0x1x2 (v0f0a : Option Addr) (v0f0n v0f0c : Nat) (v0f1 : Option Addr) (v0f2 : Int) (v1 : Int) (v2 : Option Addr) : evBuild Tryz.prog 164 [(0, (Value.agg #[(Value.slice v0f0a v0f0n v0f0c), (Value.pointer v0f1), (Value.int .i64 v0f2)])), (1, (Value.int .i64 v1)), (2, (Value.pointer v2))] = M.ret (.agg #[(Value.slice v0f0a v0f0n v0f0c), (Value.pointer v0f1), (Value.int .i64 v0f2), (Value.int .i64 v1), (Value.pointer v2)]) := by kernel_rfl
theorem sz164 : size? Tryz.prog 164 = some 5 := by kernel_rfl
theorem bd89x0 (v0 : Option Addr) : evBuild Tryz.prog 89 [(0, (Value.pointer v0))] = M.ret (.agg #[(Value.pointer v0), (Go.Value.int Go.IntKind.u32 0), (Go.Value.bool false)]) := by kernel_rfl
theorem sz89 : size? Tryz.prog 89 = some 3 := by kernel_rfl
theorem ixs9 (l : List UInt8) (k : IntKind) (i : Int) (h0 : 0 ≤ i) (h1 : i < l.length) : index2 Tryz.prog 9 (.string ⟨l.toArray⟩) (.int k i) = some (.int .u8 (l.getD i.toNat 0).toNat) := idx_str Tryz.underlying9 l k i h0 h1
theorem cv5x38 {β : Type} (x : Int) (k : Value → M β) : conv2 Tryz.prog 5 38 (.int .u8 x) k = k (.int .u32 (IntKind.u32.wrap x)) := by kernel_rfl
theorem cv3x38 {β : Type} (x : Int) (k : Value → M β) : conv2 Tryz.prog 3 38 (.int .i64 x) k = k (.int .u32 (IntKind.u32.wrap x)) := by kernel_rfl
theorem beql101s (a : Addr) : bin2 Tryz.prog .eql 101 (.pointer (some a)) (.pointer none) = some (.bool false) := by kernel_rfl
theorem beql101n : bin2 Tryz.prog .eql 101 (.pointer none) (.pointer none) = some (.bool true) := by kernel_rfl
theorem fa164f0 (b off : Nat) : evFieldAddr Tryz.prog 164 (.pointer (some ⟨b, off, none⟩)) 0 = some (.pointer (some ⟨b, off + 0, none⟩)) := by kernel_rfl
theorem fa160f0 (b off : Nat) : evFieldAddr Tryz.prog 160 (.pointer (some ⟨b, off, none⟩)) 0 = some (.pointer (some ⟨b, off + 0, none⟩)) := by kernel_rfl
theorem fa164f2 (b off : Nat) : evFieldAddr Tryz.prog 164 (.pointer (some ⟨b, off, none⟩)) 2 = some (.pointer (some ⟨b, off + 4, none⟩)) := by kernel_rfl
theorem ag161 : agg? Tryz.prog 161 = some false := by kernel_rfl
theorem ldr161 {β : Type} {W : Nat → Prop} {n0 : Nat} {h : H} {n : Nat} {Q : β → H → Nat → Prop} (b off : Nat) (k : Value → M β) (hb : b < n) : Run W n0 ((inside (evLoad Tryz.prog 161 (.pointer (some ⟨b, off, none⟩)))).bind k) h n Q ↔ optG (h.get b) fun B => Run W n0 (optK (B.cells[off]?) k) h n Q := ld_iff ag161 b off k hb
theorem fv166f1 (c0 c1 : Value) : evField Tryz.prog 166 (.agg #[c0, c1]) 1 = some c1 := by kernel_rfl
theorem beql107s (a : Addr) : bin2 Tryz.prog .eql 107 (.pointer (some a)) (.pointer none) = some (.bool false) := by kernel_rfl
theorem beql107n : bin2 Tryz.prog .eql 107 (.pointer none) (.pointer none) = some (.bool true) := by kernel_rfl
theorem fa170f1 (b off : Nat) : evFieldAddr Tryz.prog 170 (.pointer (some ⟨b, off, none⟩)) 1 = some (.pointer (some ⟨b, off + 1, none⟩)) := by kernel_rfl
theorem ag168 : agg? Tryz.prog 168 = some false := by kernel_rfl
theorem ldr168 {β : Type} {W : Nat → Prop} {n0 : Nat} {h : H} {n : Nat} {Q : β → H → Nat → Prop} (b off : Nat) (k : Value → M β) (hb : b < n) : Run W n0 ((inside (evLoad Tryz.prog 168 (.pointer (some ⟨b, off, none⟩)))).bind k) h n Q ↔ optG (h.get b) fun B => Run W n0 (optK (B.cells[off]?) k) h n Q := ld_iff ag168 b off k hb
theorem fa170f3 (b off : Nat) : evFieldAddr Tryz.prog 170 (.pointer (some ⟨b, off, none⟩)) 3 = some (.pointer (some ⟨b, off + 3, none⟩)) := by kernel_rfl
theorem bneq107s (a : Addr) : bin2 Tryz.prog .neq 107 (.pointer (some a)) (.pointer none) = some (.bool true) := by kernel_rfl
theorem bneq107n : bin2 Tryz.prog .neq 107 (.pointer none) (.pointer none) = some (.bool false) := by kernel_rfl
theorem fa109f7 (b off : Nat) : evFieldAddr Tryz.prog 109 (.pointer (some ⟨b, off, none⟩)) 7 = some (.pointer (some ⟨b, off + 7, none⟩)) := by kernel_rfl
theorem fa109f4 (b off : Nat) : evFieldAddr Tryz.prog 109 (.pointer (some ⟨b, off, none⟩)) 4 = some (.pointer (some ⟨b, off + 4, none⟩)) := by kernel_rfl
theorem sz106 : size? Tryz.prog 106 = some 1 := by kernel_rfl
theorem str106 {β : Type} {W : Nat → Prop} {n0 : Nat} {h : H} {n : Nat} {Q : β → H → Nat → Prop} (b off : Nat) (v : Value) (k : Value → M β) (hb : b < n) (h1 : one v = true) : Run W n0 ((inside (evStore Tryz.prog 106 (.pointer (some ⟨b, off, none⟩)) v)).bind k) h n Q ↔ optG (h.get b) fun B => B.own = true ∧ off < B.cells.length ∧ (n0 ≤ b ∨ W b) ∧ Run W n0 (k undef) (h.set b (some ⟨B.elem, B.own, B.cells.set off v⟩)) n Q := st_iff sz106 b off v k hb h1
theorem sz107 : size? Tryz.prog 107 = some 1 := by kernel_rfl
theorem str107 {β : Type} {W : Nat → Prop} {n0 : Nat} {h : H} {n : Nat} {Q : β → H → Nat → Prop} (b off : Nat) (v : Value) (k : Value → M β) (hb : b < n) (h1 : one v = true) : Run W n0 ((inside (evStore Tryz.prog 107 (.pointer (some ⟨b, off, none⟩)) v)).bind k) h n Q ↔ optG (h.get b) fun B => B.own = true ∧ off < B.cells.length ∧ (n0 ≤ b ∨ W b) ∧ Run W n0 (k undef) (h.set b (some ⟨B.elem, B.own, B.cells.set off v⟩)) n Q := st_iff sz107 b off v k hb h1
theorem fa109f8 (b off : Nat) : evFieldAddr Tryz.prog 109 (.pointer (some ⟨b, off, none⟩)) 8 = some (.pointer (some ⟨b, off + 8, none⟩)) := by kernel_rfl
theorem ag39 : agg? Tryz.prog 39 = some false := by kernel_rfl
theorem ldr39 {β : Type} {W : Nat → Prop} {n0 : Nat} {h : H} {n : Nat} {Q : β → H → Nat → Prop} (b off : Nat) (k : Value → M β) (hb : b < n) : Run W n0 ((inside (evLoad Tryz.prog 39 (.pointer (some ⟨b, off, none⟩)))).bind k) h n Q ↔ optG (h.get b) fun B => Run W n0 (optK (B.cells[off]?) k) h n Q := ld_iff ag39 b off k hb
theorem fa135f1 (b off : Nat) : evFieldAddr Tryz.prog 135 (.pointer (some ⟨b, off, none⟩)) 1 = some (.pointer (some ⟨b, off + 1, none⟩)) := by kernel_rfl
theorem ag5 : agg? Tryz.prog 5 = some false := by kernel_rfl
theorem ldr5 {β : Type} {W : Nat → Prop} {n0 : Nat} {h : H} {n : Nat} {Q : β → H → Nat → Prop} (b off : Nat) (k : Value → M β) (hb : b < n) : Run W n0 ((inside (evLoad Tryz.prog 5 (.pointer (some ⟨b, off, none⟩)))).bind k) h n Q ↔ optG (h.get b) fun B => Run W n0 (optK (B.cells[off]?) k) h n Q := ld_iff ag5 b off k hb
theorem nt5 : isNilT Tryz.prog 5 = false := by kernel_rfl
theorem bshl5 {k' : IntKind} (a b : Int) (h0 : 0 ≤ b) : bin2 Tryz.prog .shl 5 (.int .u8 a) (.int k' b) = some (.int .u8 (IntKind.u8.wrap (a * 2 ^ (min b.toNat (IntKind.u8).bits)))) := b_shl nt5 a b h0
theorem bor5 (a b : Int) : bin2 Tryz.prog .or 5 (.int .u8 a) (.int .u8 b) = some (.int .u8 (IntKind.u8.wrap (BitVec.ofInt (IntKind.u8).bits a ||| BitVec.ofInt (IntKind.u8).bits b).toNat)) := b_or nt5 a b
theorem sz5 : size? Tryz.prog 5 = some 1 := by kernel_rfl
theorem str5 {β : Type} {W : Nat → Prop} {n0 : Nat} {h : H} {n : Nat} {Q : β → H → Nat → Prop} (b off : Nat) (v : Value) (k : Value → M β) (hb : b < n) (h1 : one v = true) : Run W n0 ((inside (evStore Tryz.prog 5 (.pointer (some ⟨b, off, none⟩)) v)).bind k) h n Q ↔ optG (h.get b) fun B => B.own = true ∧ off < B.cells.length ∧ (n0 ≤ b ∨ W b) ∧ Run W n0 (k undef) (h.set b (some ⟨B.elem, B.own, B.cells.set off v⟩)) n Q := st_iff sz5 b off v k hb h1
theorem c1x133 : Cell1 Tryz.prog 133 5 (Go.Value.int Go.IntKind.u8 0) := ⟨Tryz.underlying133, ⟨Tryz.t5, by kernel_rfl, by kernel_rfl, by decide⟩, by kernel_rfl, by kernel_rfl⟩
theorem fa170f0 (b off : Nat) : evFieldAddr Tryz.prog 170 (.pointer (some ⟨b, off, none⟩)) 0 = some (.pointer (some ⟨b, off + 0, none⟩)) := by kernel_rfl
theorem cv38x93 {β : Type} (x : Int) (k : Value → M β) : conv2 Tryz.prog 38 93 (.int .u32 x) k = k (.int .u64 (IntKind.u64.wrap x)) := by kernel_rfl
theorem nt93 : isNilT Tryz.prog 93 = false := by kernel_rfl
theorem bshr93 {k' : IntKind} (a b : Int) (h0 : 0 ≤ b) : bin2 Tryz.prog .shr 93 (.int .u64 a) (.int k' b) = some (.int .u64 (a.fdiv (2 ^ (min b.toNat (IntKind.u64).bits)))) := b_shr nt93 a b h0
theorem beql93 (a b : Int) : bin2 Tryz.prog .eql 93 (.int .u64 a) (.int .u64 b) = some (.bool (a == b)) := b_eql nt93 a b
theorem sz207 : size? Tryz.prog 207 = some 257 := by kernel_rfl
theorem bd209x  : evBuild Tryz.prog 209 [] = M.ret (.agg #[(Go.Value.int Go.IntKind.u8 0), (Go.Value.int Go.IntKind.i64 0)]) := by kernel_rfl
theorem sz209 : size? Tryz.prog 209 = some 2 := by kernel_rfl
theorem zr166 : zero? Tryz.prog 166 = some (Go.Value.agg #[(Go.Value.int Go.IntKind.u8 0), (Go.Value.int Go.IntKind.i64 0)]) := by kernel_rfl
theorem beql161s (a : Addr) : bin2 Tryz.prog .eql 161 (.pointer (some a)) (.pointer none) = some (.bool false) := by kernel_rfl
theorem beql161n : bin2 Tryz.prog .eql 161 (.pointer none) (.pointer none) = some (.bool true) := by kernel_rfl
theorem bd166x  : evBuild Tryz.prog 166 [] = M.ret (.agg #[(Go.Value.int Go.IntKind.u8 0), (Go.Value.int Go.IntKind.i64 0)]) := by kernel_rfl
theorem sz166 : size? Tryz.prog 166 = some 2 := by kernel_rfl
theorem fa209f0 (b off : Nat) : evFieldAddr Tryz.prog 209 (.pointer (some ⟨b, off, none⟩)) 0 = some (.pointer (some ⟨b, off + 0, none⟩)) := by kernel_rfl
theorem aga166 : agg? Tryz.prog 166 = some true := by kernel_rfl
theorem fa111f1 (b off : Nat) : evFieldAddr Tryz.prog 111 (.pointer (some ⟨b, off, none⟩)) 1 = some (.pointer (some ⟨b, off + 1, none⟩)) := by kernel_rfl
theorem ag38 : agg? Tryz.prog 38 = some false := by kernel_rfl
theorem ldr38 {β : Type} {W : Nat → Prop} {n0 : Nat} {h : H} {n : Nat} {Q : β → H → Nat → Prop} (b off : Nat) (k : Value → M β) (hb : b < n) : Run W n0 ((inside (evLoad Tryz.prog 38 (.pointer (some ⟨b, off, none⟩)))).bind k) h n Q ↔ optG (h.get b) fun B => Run W n0 (optK (B.cells[off]?) k) h n Q := ld_iff ag38 b off k hb
theorem zr204 : zero? Tryz.prog 204 = some (.agg (List.replicate 256 (Go.Value.int Go.IntKind.u32 0)).toArray) := by kernel_rfl
theorem sz204 : size? Tryz.prog 204 = some 256 := by kernel_rfl
theorem bshl38 {k' : IntKind} (a b : Int) (h0 : 0 ≤ b) : bin2 Tryz.prog .shl 38 (.int .u32 a) (.int k' b) = some (.int .u32 (IntKind.u32.wrap (a * 2 ^ (min b.toNat (IntKind.u32).bits)))) := b_shl nt38 a b h0
theorem bmul38 (a b : Int) : bin2 Tryz.prog .mul 38 (.int .u32 a) (.int .u32 b) = some (.int .u32 (IntKind.u32.wrap (a * b))) := b_mul nt38 a b
theorem bxor38 (a b : Int) : bin2 Tryz.prog .xor 38 (.int .u32 a) (.int .u32 b) = some (.int .u32 (IntKind.u32.wrap (BitVec.ofInt (IntKind.u32).bits a ^^^ BitVec.ofInt (IntKind.u32).bits b).toNat)) := b_xor nt38 a b
theorem sz38 : size? Tryz.prog 38 = some 1 := by kernel_rfl
theorem ia204 (b off : Nat) (k : IntKind) (i : Int) (h0 : 0 ≤ i) (h1 : i < 256) : evIndexAddr Tryz.prog 204 (.pointer (some ⟨b, off, none⟩)) (.int k i) = some (.pointer (some ⟨b, off + i.toNat, none⟩)) := (ix_arr Tryz.underlying204 sz38 b off k i h0 h1).trans (by rw [Nat.mul_one])
theorem str38 {β : Type} {W : Nat → Prop} {n0 : Nat} {h : H} {n : Nat} {Q : β → H → Nat → Prop} (b off : Nat) (v : Value) (k : Value → M β) (hb : b < n) (h1 : one v = true) : Run W n0 ((inside (evStore Tryz.prog 38 (.pointer (some ⟨b, off, none⟩)) v)).bind k) h n Q ↔ optG (h.get b) fun B => B.own = true ∧ off < B.cells.length ∧ (n0 ≤ b ∨ W b) ∧ Run W n0 (k undef) (h.set b (some ⟨B.elem, B.own, B.cells.set off v⟩)) n Q := st_iff sz38 b off v k hb h1
theorem aga204 : agg? Tryz.prog 204 = some true := by kernel_rfl
theorem fa164f1 (b off : Nat) : evFieldAddr Tryz.prog 164 (.pointer (some ⟨b, off, none⟩)) 1 = some (.pointer (some ⟨b, off + 3, none⟩)) := by kernel_rfl
theorem bd111x  : evBuild Tryz.prog 111 [] = M.ret (.agg #[(Go.Value.string { data := #[] }), (Go.Value.int Go.IntKind.u32 0), (Go.Value.int Go.IntKind.i64 0)]) := by kernel_rfl
theorem fa160f1 (b off : Nat) : evFieldAddr Tryz.prog 160 (.pointer (some ⟨b, off, none⟩)) 1 = some (.pointer (some ⟨b, off + 1, none⟩)) := by kernel_rfl
theorem ag157 : agg? Tryz.prog 157 = some false := by kernel_rfl
theorem ldr157 {β : Type} {W : Nat → Prop} {n0 : Nat} {h : H} {n : Nat} {Q : β → H → Nat → Prop} (b off : Nat) (k : Value → M β) (hb : b < n) : Run W n0 ((inside (evLoad Tryz.prog 157 (.pointer (some ⟨b, off, none⟩)))).bind k) h n Q ↔ optG (h.get b) fun B => Run W n0 (optK (B.cells[off]?) k) h n Q := ld_iff ag157 b off k hb
theorem fa160f2 (b off : Nat) : evFieldAddr Tryz.prog 160 (.pointer (some ⟨b, off, none⟩)) 2 = some (.pointer (some ⟨b, off + 2, none⟩)) := by kernel_rfl
theorem bd111x0x1x2 (v0 : ByteArray) (v1 : Int) (v2 : Int) : evBuild Tryz.prog 111 [(0, (Value.string v0)), (1, (Value.int .u32 v1)), (2, (Value.int .i64 v2))] = M.ret (.agg #[(Value.string v0), (Value.int .u32 v1), (Value.int .i64 v2)]) := by kernel_rfl
theorem beql157s (a : Addr) : bin2 Tryz.prog .eql 157 (.pointer (some a)) (.pointer none) = some (.bool false) := by kernel_rfl
theorem beql157n : bin2 Tryz.prog .eql 157 (.pointer none) (.pointer none) = some (.bool true) := by kernel_rfl
theorem fa207f1 (b off : Nat) : evFieldAddr Tryz.prog 207 (.pointer (some ⟨b, off, none⟩)) 1 = some (.pointer (some ⟨b, off + 256, none⟩)) := by kernel_rfl
theorem bneq157s (a : Addr) : bin2 Tryz.prog .neq 157 (.pointer (some a)) (.pointer none) = some (.bool true) := by kernel_rfl
theorem bneq157n : bin2 Tryz.prog .neq 157 (.pointer none) (.pointer none) = some (.bool false) := by kernel_rfl
theorem fa166f1 (b off : Nat) : evFieldAddr Tryz.prog 166 (.pointer (some ⟨b, off, none⟩)) 1 = some (.pointer (some ⟨b, off + 1, none⟩)) := by kernel_rfl
theorem fa166f0 (b off : Nat) : evFieldAddr Tryz.prog 166 (.pointer (some ⟨b, off, none⟩)) 0 = some (.pointer (some ⟨b, off + 0, none⟩)) := by kernel_rfl
theorem bneq5 (a b : Int) : bin2 Tryz.prog .neq 5 (.int .u8 a) (.int .u8 b) = some (.bool (a != b)) := b_neq nt5 a b
theorem FX1 : (∀ (a : Option Addr) (n c : Nat), len2 Tryz.prog #[47] [.slice a n c] = some (.int .i64 n)) ∧ (∀ (a b : Int), bin2 Tryz.prog .gtr 3 (.int .i64 a) (.int .i64 b) = some (.bool (decide (b < a)))) ∧ (∀ (b off : Nat), evFieldAddr Tryz.prog 46 (.pointer (some ⟨b, off, none⟩)) 2 = some (.pointer (some ⟨b, off + 2, none⟩))) ∧ (∀ {β : Type} {W : Nat → Prop} {n0 : Nat} {h : H} {n : Nat} {Q : β → H → Nat → Prop} (b off : Nat) (k : Value → M β) (hb : b < n), Run W n0 ((inside (evLoad Tryz.prog 3 (.pointer (some ⟨b, off, none⟩)))).bind k) h n Q ↔ optG (h.get b) fun B => Run W n0 (optK (B.cells[off]?) k) h n Q) ∧ (∀ (b off : Nat), evFieldAddr Tryz.prog 46 (.pointer (some ⟨b, off, none⟩)) 0 = some (.pointer (some ⟨b, off + 0, none⟩))) ∧ (∀ (b off : Nat), evFieldAddr Tryz.prog 46 (.pointer (some ⟨b, off, none⟩)) 1 = some (.pointer (some ⟨b, off + 1, none⟩))) ∧ (∀ (a b : Int), bin2 Tryz.prog .lss 3 (.int .i64 a) (.int .i64 b) = some (.bool (decide (a < b)))) ∧ (∀ (b off n c : Nat) (k : IntKind) (i : Int) (h0 : 0 ≤ i) (h1 : i < n), evIndexAddr Tryz.prog 47 (.slice (some ⟨b, off, none⟩) n c) (.int k i) = some (.pointer (some ⟨b, off + i.toNat, none⟩))) ∧ (∀ {β : Type} {W : Nat → Prop} {n0 : Nat} {h : H} {n : Nat} {Q : β → H → Nat → Prop} (b off : Nat) (k : Value → M β) (hb : b < n), Run W n0 ((inside (evLoad Tryz.prog 9 (.pointer (some ⟨b, off, none⟩)))).bind k) h n Q ↔ optG (h.get b) fun B => Run W n0 (optK (B.cells[off]?) k) h n Q) ∧ (∀ (s : List UInt8), len2 Tryz.prog #[9] [.string ⟨s.toArray⟩] = some (.int .i64 s.length)) ∧ (∀ (a b : Int), bin2 Tryz.prog .sub 3 (.int .i64 a) (.int .i64 b) = some (.int .i64 (IntKind.i64.wrap (a - b)))) ∧ (∀ (a b : Int), bin2 Tryz.prog .neq 3 (.int .i64 a) (.int .i64 b) = some (.bool (a != b))) ∧ (∀ (a b : Int), bin2 Tryz.prog .add 3 (.int .i64 a) (.int .i64 b) = some (.int .i64 (IntKind.i64.wrap (a + b)))) ∧ (∀ (a b : Int), bin2 Tryz.prog .eql 3 (.int .i64 a) (.int .i64 b) = some (.bool (a == b))) ∧ (∀ (a b : Int), bin2 Tryz.prog .eql 25 (.int .i64 a) (.int .i64 b) = some (.bool (a == b))) ∧ (∀ (a b : List UInt8), bin2 Tryz.prog .eql 9 (.string ⟨a.toArray⟩) (.string ⟨b.toArray⟩) = some (.bool (decide (a = b)))) ∧ (∀ (a : Addr), bin2 Tryz.prog .eql 48 (.pointer (some a)) (.pointer none) = some (.bool false)) ∧ (bin2 Tryz.prog .eql 48 (.pointer none) (.pointer none) = some (.bool true)) ∧ (∀ (a : Addr), bin2 Tryz.prog .eql 39 (.pointer (some a)) (.pointer none) = some (.bool false)) ∧ (bin2 Tryz.prog .eql 39 (.pointer none) (.pointer none) = some (.bool true)) ∧ (∀ (b off : Nat), evFieldAddr Tryz.prog 89 (.pointer (some ⟨b, off, none⟩)) 0 = some (.pointer (some ⟨b, off + 0, none⟩))) ∧ (∀ {β : Type} {W : Nat → Prop} {n0 : Nat} {h : H} {n : Nat} {Q : β → H → Nat → Prop} (b off : Nat) (k : Value → M β) (hb : b < n), Run W n0 ((inside (evLoad Tryz.prog 71 (.pointer (some ⟨b, off, none⟩)))).bind k) h n Q ↔ optG (h.get b) fun B => Run W n0 (optK (B.cells[off]?) k) h n Q) ∧ (∀ (a b : Int), bin2 Tryz.prog .neq 25 (.int .i64 a) (.int .i64 b) = some (.bool (a != b))) ∧ (∀ (v0 : Int) (v3 : Option Addr) (v8 : Option Addr) (v9 : ByteArray), evBuild Tryz.prog 109 [(0, (Value.int .i64 v0)), (3, (Value.pointer v3)), (8, (Value.pointer v8)), (9, (Value.string v9))] = M.ret (.agg #[(Value.int .i64 v0), (Go.Value.string { data := #[] }), (Go.Value.bool false), (Value.pointer v3), (Go.Value.bool false), (Go.Value.slice none 0 0), (Go.Value.pointer none), (Go.Value.int Go.IntKind.i64 0), (Value.pointer v8), (Value.string v9), (Go.Value.bool false), (Go.Value.int Go.IntKind.i64 0)])) ∧ (∀ (b off : Nat), evFieldAddr Tryz.prog 109 (.pointer (some ⟨b, off, none⟩)) 2 = some (.pointer (some ⟨b, off + 2, none⟩))) ∧ (∀ {β : Type} {W : Nat → Prop} {n0 : Nat} {h : H} {n : Nat} {Q : β → H → Nat → Prop} (b off : Nat) (k : Value → M β) (hb : b < n), Run W n0 ((inside (evLoad Tryz.prog 4 (.pointer (some ⟨b, off, none⟩)))).bind k) h n Q ↔ optG (h.get b) fun B => Run W n0 (optK (B.cells[off]?) k) h n Q) ∧ (∀ (b off : Nat), evFieldAddr Tryz.prog 109 (.pointer (some ⟨b, off, none⟩)) 0 = some (.pointer (some ⟨b, off + 0, none⟩))) ∧ (∀ (b off : Nat), evFieldAddr Tryz.prog 109 (.pointer (some ⟨b, off, none⟩)) 1 = some (.pointer (some ⟨b, off + 1, none⟩))) ∧ (∀ {β : Type} (l : List UInt8) (kd : IntKind) (j : Int) (k : Value → M β) (h0 : 0 ≤ j) (h1 : j ≤ l.length), slice2 Tryz.prog 9 (.string ⟨l.toArray⟩) none (some (.int kd j)) none k = k (.string ⟨(l.take j.toNat).toArray⟩)) ∧ (∀ {β : Type} (l : List UInt8) (kd : IntKind) (i : Int) (k : Value → M β) (h0 : 0 ≤ i) (h1 : i ≤ l.length), slice2 Tryz.prog 9 (.string ⟨l.toArray⟩) (some (.int kd i)) none none k = k (.string ⟨(l.drop i.toNat).toArray⟩)) ∧ (∀ {β : Type} (l : List UInt8) (kd kd' : IntKind) (i j : Int) (k : Value → M β) (h0 : 0 ≤ i) (h1 : i ≤ j) (h2 : j ≤ l.length), slice2 Tryz.prog 9 (.string ⟨l.toArray⟩) (some (.int kd i)) (some (.int kd' j)) none k = k (.string ⟨((l.drop i.toNat).take (j.toNat - i.toNat)).toArray⟩)) ∧ (∀ (a b : List UInt8) (h : a.length + b.length ≤ 9223372036854775807), bin2 Tryz.prog .add 9 (.string ⟨a.toArray⟩) (.string ⟨b.toArray⟩) = some (.string ⟨(a ++ b).toArray⟩)) ∧ (∀ {β : Type} {W : Nat → Prop} {n0 : Nat} {h : H} {n : Nat} {Q : β → H → Nat → Prop} (b off : Nat) (v : Value) (k : Value → M β) (hb : b < n) (h1 : one v = true), Run W n0 ((inside (evStore Tryz.prog 9 (.pointer (some ⟨b, off, none⟩)) v)).bind k) h n Q ↔ optG (h.get b) fun B => B.own = true ∧ off < B.cells.length ∧ (n0 ≤ b ∨ W b) ∧ Run W n0 (k undef) (h.set b (some ⟨B.elem, B.own, B.cells.set off v⟩)) n Q) ∧ (∀ (b off : Nat), evFieldAddr Tryz.prog 109 (.pointer (some ⟨b, off, none⟩)) 3 = some (.pointer (some ⟨b, off + 3, none⟩))) ∧ (∀ {β : Type} {W : Nat → Prop} {n0 : Nat} {h : H} {n : Nat} {Q : β → H → Nat → Prop} (b off : Nat) (k : Value → M β) (hb : b < n), Run W n0 ((inside (evLoad Tryz.prog 101 (.pointer (some ⟨b, off, none⟩)))).bind k) h n Q ↔ optG (h.get b) fun B => Run W n0 (optK (B.cells[off]?) k) h n Q) ∧ (∀ (b off : Nat), evFieldAddr Tryz.prog 109 (.pointer (some ⟨b, off, none⟩)) 6 = some (.pointer (some ⟨b, off + 6, none⟩))) ∧ (∀ {β : Type} {W : Nat → Prop} {n0 : Nat} {h : H} {n : Nat} {Q : β → H → Nat → Prop} (b off : Nat) (k : Value → M β) (hb : b < n), Run W n0 ((inside (evLoad Tryz.prog 107 (.pointer (some ⟨b, off, none⟩)))).bind k) h n Q ↔ optG (h.get b) fun B => Run W n0 (optK (B.cells[off]?) k) h n Q) ∧ (∀ (b off : Nat), evFieldAddr Tryz.prog 109 (.pointer (some ⟨b, off, none⟩)) 9 = some (.pointer (some ⟨b, off + 9, none⟩))) ∧ (∀ (b off : Nat), evFieldAddr Tryz.prog 109 (.pointer (some ⟨b, off, none⟩)) 5 = some (.pointer (some ⟨b, off + 5, none⟩))) ∧ (∀ {β : Type} {W : Nat → Prop} {n0 : Nat} {h : H} {n : Nat} {Q : β → H → Nat → Prop} (b off : Nat) (k : Value → M β) (hb : b < n), Run W n0 ((inside (evLoad Tryz.prog 106 (.pointer (some ⟨b, off, none⟩)))).bind k) h n Q ↔ optG (h.get b) fun B => Run W n0 (optK (B.cells[off]?) k) h n Q) ∧ (∀ (a : Option Addr) (n c : Nat), len2 Tryz.prog #[106] [.slice a n c] = some (.int .i64 n)) ∧ (∀ (b off n c : Nat) (k : IntKind) (i : Int) (h0 : 0 ≤ i) (h1 : i < n), evIndexAddr Tryz.prog 106 (.slice (some ⟨b, off, none⟩) n c) (.int k i) = some (.pointer (some ⟨b, off + i.toNat * 3, none⟩))) ∧ (∀ (b off : Nat), evFieldAddr Tryz.prog 111 (.pointer (some ⟨b, off, none⟩)) 0 = some (.pointer (some ⟨b, off + 0, none⟩))) ∧ (∀ (b off : Nat), evFieldAddr Tryz.prog 109 (.pointer (some ⟨b, off, none⟩)) 10 = some (.pointer (some ⟨b, off + 10, none⟩))) ∧ (∀ (a b : List UInt8), bin2 Tryz.prog .neq 9 (.string ⟨a.toArray⟩) (.string ⟨b.toArray⟩) = some (.bool (!decide (a = b)))) ∧ (∀ {β : Type} {W : Nat → Prop} {n0 : Nat} {h : H} {n : Nat} {Q : β → H → Nat → Prop} (b off : Nat) (v : Value) (k : Value → M β) (hb : b < n) (h1 : one v = true), Run W n0 ((inside (evStore Tryz.prog 4 (.pointer (some ⟨b, off, none⟩)) v)).bind k) h n Q ↔ optG (h.get b) fun B => B.own = true ∧ off < B.cells.length ∧ (n0 ≤ b ∨ W b) ∧ Run W n0 (k undef) (h.set b (some ⟨B.elem, B.own, B.cells.set off v⟩)) n Q) ∧ (∀ (a : Addr), bin2 Tryz.prog .neq 48 (.pointer (some a)) (.pointer none) = some (.bool true)) ∧ (bin2 Tryz.prog .neq 48 (.pointer none) (.pointer none) = some (.bool false)) ∧ (∀ (b off : Nat), evFieldAddr Tryz.prog 109 (.pointer (some ⟨b, off, none⟩)) 11 = some (.pointer (some ⟨b, off + 11, none⟩))) ∧ (∀ {β : Type} {W : Nat → Prop} {n0 : Nat} {h : H} {n : Nat} {Q : β → H → Nat → Prop} (b off : Nat) (v : Value) (k : Value → M β) (hb : b < n) (h1 : one v = true), Run W n0 ((inside (evStore Tryz.prog 3 (.pointer (some ⟨b, off, none⟩)) v)).bind k) h n Q ↔ optG (h.get b) fun B => B.own = true ∧ off < B.cells.length ∧ (n0 ≤ b ∨ W b) ∧ Run W n0 (k undef) (h.set b (some ⟨B.elem, B.own, B.cells.set off v⟩)) n Q) := ⟨@len47, @bgtr3, @fa46f2, @ldr3, @fa46f0, @fa46f1, @blss3, @ix47, @ldr9, @len9, @bsub3, @bneq3, @badd3, @beql3, @beql25, @beql9, @beql48s, @beql48n, @beql39s, @beql39n, @fa89f0, @ldr71, @bneq25, @bd109x0x3x8x9, @fa109f2, @ldr4, @fa109f0, @fa109f1, @slh9, @sll9, @slb9, @badd9, @str9, @fa109f3, @ldr101, @fa109f6, @ldr107, @fa109f9, @fa109f5, @ldr106, @len106, @ix106, @fa111f0, @fa109f10, @bneq9, @str4, @bneq48s, @bneq48n, @fa109f11, @str3⟩
theorem FX2 : (∀ (a b : Int), bin2 Tryz.prog .mul 3 (.int .i64 a) (.int .i64 b) = some (.int .i64 (IntKind.i64.wrap (a * b)))) ∧ (evBuild Tryz.prog 135 [] = M.ret (.agg #[(Go.Value.slice none 0 0), (Go.Value.int Go.IntKind.u8 0), (Go.Value.int Go.IntKind.i64 0)])) ∧ (∀ (a : Addr), bin2 Tryz.prog .eql 71 (.pointer (some a)) (.pointer none) = some (.bool false)) ∧ (bin2 Tryz.prog .eql 71 (.pointer none) (.pointer none) = some (.bool true)) ∧ (∀ (b off : Nat), evFieldAddr Tryz.prog 135 (.pointer (some ⟨b, off, none⟩)) 2 = some (.pointer (some ⟨b, off + 2, none⟩))) ∧ (∀ (a : Addr), bin2 Tryz.prog .neq 71 (.pointer (some a)) (.pointer none) = some (.bool true)) ∧ (bin2 Tryz.prog .neq 71 (.pointer none) (.pointer none) = some (.bool false)) ∧ (∀ (a b : Int) (h0 : b ≠ 0), bin2 Tryz.prog .rem 3 (.int .i64 a) (.int .i64 b) = some (.int .i64 (a.tmod b))) ∧ (∀ (b off : Nat), evFieldAddr Tryz.prog 135 (.pointer (some ⟨b, off, none⟩)) 0 = some (.pointer (some ⟨b, off + 0, none⟩))) ∧ (∀ {β : Type} {W : Nat → Prop} {n0 : Nat} {h : H} {n : Nat} {Q : β → H → Nat → Prop} (b off : Nat) (k : Value → M β) (hb : b < n), Run W n0 ((inside (evLoad Tryz.prog 133 (.pointer (some ⟨b, off, none⟩)))).bind k) h n Q ↔ optG (h.get b) fun B => Run W n0 (optK (B.cells[off]?) k) h n Q) ∧ (∀ {β : Type} {W : Nat → Prop} {n0 : Nat} {h : H} {n : Nat} {Q : β → H → Nat → Prop} (b off : Nat) (v : Value) (k : Value → M β) (hb : b < n) (h1 : one v = true), Run W n0 ((inside (evStore Tryz.prog 133 (.pointer (some ⟨b, off, none⟩)) v)).bind k) h n Q ↔ optG (h.get b) fun B => B.own = true ∧ off < B.cells.length ∧ (n0 ≤ b ∨ W b) ∧ Run W n0 (k undef) (h.set b (some ⟨B.elem, B.own, B.cells.set off v⟩)) n Q) ∧ (∀ {k' : IntKind} (a b : Int) (h0 : 0 ≤ b), bin2 Tryz.prog .shr 38 (.int .u32 a) (.int k' b) = some (.int .u32 (a.fdiv (2 ^ (min b.toNat (IntKind.u32).bits))))) ∧ (∀ (a b : Int), bin2 Tryz.prog .and 38 (.int .u32 a) (.int .u32 b) = some (.int .u32 (IntKind.u32.wrap (BitVec.ofInt (IntKind.u32).bits a &&& BitVec.ofInt (IntKind.u32).bits b).toNat))) ∧ (∀ {β : Type} (x : Int) (k : Value → M β), conv2 Tryz.prog 38 5 (.int .u32 x) k = k (.int .u8 (IntKind.u8.wrap x))) ∧ (∀ (a : Option Addr) (n c : Nat), len2 Tryz.prog #[133] [.slice a n c] = some (.int .i64 n)) ∧ (∀ (a b : Int), bin2 Tryz.prog .geq 3 (.int .i64 a) (.int .i64 b) = some (.bool (decide (b ≤ a)))) ∧ (∀ (a b : Int), bin2 Tryz.prog .leq 3 (.int .i64 a) (.int .i64 b) = some (.bool (decide (a ≤ b)))) ∧ (∀ (v1 : Option Addr), evBuild Tryz.prog 160 [(1, (Value.pointer v1))] = M.ret (.agg #[(Go.Value.slice none 0 0), (Value.pointer v1), (Go.Value.int Go.IntKind.i64 0)])) ∧ (∀ (v0f0a : Option Addr) (v0f0n v0f0c : Nat) (v0f1 : Option Addr) (v0f2 : Int) (v1 : Int) (v2 : Option Addr), evBuild Tryz.prog 164 [(0, (Value.agg #[(Value.slice v0f0a v0f0n v0f0c), (Value.pointer v0f1), (Value.int .i64 v0f2)])), (1, (Value.int .i64 v1)), (2, (Value.pointer v2))] = M.ret (.agg #[(Value.slice v0f0a v0f0n v0f0c), (Value.pointer v0f1), (Value.int .i64 v0f2), (Value.int .i64 v1), (Value.pointer v2)])) ∧ (∀ (v0 : Option Addr), evBuild Tryz.prog 89 [(0, (Value.pointer v0))] = M.ret (.agg #[(Value.pointer v0), (Go.Value.int Go.IntKind.u32 0), (Go.Value.bool false)])) ∧ (∀ (l : List UInt8) (k : IntKind) (i : Int) (h0 : 0 ≤ i) (h1 : i < l.length), index2 Tryz.prog 9 (.string ⟨l.toArray⟩) (.int k i) = some (.int .u8 (l.getD i.toNat 0).toNat)) ∧ (∀ {β : Type} (x : Int) (k : Value → M β), conv2 Tryz.prog 5 38 (.int .u8 x) k = k (.int .u32 (IntKind.u32.wrap x))) ∧ (∀ {β : Type} (x : Int) (k : Value → M β), conv2 Tryz.prog 3 38 (.int .i64 x) k = k (.int .u32 (IntKind.u32.wrap x))) ∧ (∀ (a : Addr), bin2 Tryz.prog .eql 101 (.pointer (some a)) (.pointer none) = some (.bool false)) ∧ (bin2 Tryz.prog .eql 101 (.pointer none) (.pointer none) = some (.bool true)) ∧ (∀ (b off : Nat), evFieldAddr Tryz.prog 164 (.pointer (some ⟨b, off, none⟩)) 0 = some (.pointer (some ⟨b, off + 0, none⟩))) ∧ (∀ (b off : Nat), evFieldAddr Tryz.prog 160 (.pointer (some ⟨b, off, none⟩)) 0 = some (.pointer (some ⟨b, off + 0, none⟩))) ∧ (∀ (b off : Nat), evFieldAddr Tryz.prog 164 (.pointer (some ⟨b, off, none⟩)) 2 = some (.pointer (some ⟨b, off + 4, none⟩))) ∧ (∀ {β : Type} {W : Nat → Prop} {n0 : Nat} {h : H} {n : Nat} {Q : β → H → Nat → Prop} (b off : Nat) (k : Value → M β) (hb : b < n), Run W n0 ((inside (evLoad Tryz.prog 161 (.pointer (some ⟨b, off, none⟩)))).bind k) h n Q ↔ optG (h.get b) fun B => Run W n0 (optK (B.cells[off]?) k) h n Q) ∧ (∀ (c0 c1 : Value), evField Tryz.prog 166 (.agg #[c0, c1]) 1 = some c1) ∧ (∀ (a : Addr), bin2 Tryz.prog .eql 107 (.pointer (some a)) (.pointer none) = some (.bool false)) ∧ (bin2 Tryz.prog .eql 107 (.pointer none) (.pointer none) = some (.bool true)) ∧ (∀ (b off : Nat), evFieldAddr Tryz.prog 170 (.pointer (some ⟨b, off, none⟩)) 1 = some (.pointer (some ⟨b, off + 1, none⟩))) ∧ (∀ {β : Type} {W : Nat → Prop} {n0 : Nat} {h : H} {n : Nat} {Q : β → H → Nat → Prop} (b off : Nat) (k : Value → M β) (hb : b < n), Run W n0 ((inside (evLoad Tryz.prog 168 (.pointer (some ⟨b, off, none⟩)))).bind k) h n Q ↔ optG (h.get b) fun B => Run W n0 (optK (B.cells[off]?) k) h n Q) ∧ (∀ (b off : Nat), evFieldAddr Tryz.prog 170 (.pointer (some ⟨b, off, none⟩)) 3 = some (.pointer (some ⟨b, off + 3, none⟩))) ∧ (∀ (a : Addr), bin2 Tryz.prog .neq 107 (.pointer (some a)) (.pointer none) = some (.bool true)) ∧ (bin2 Tryz.prog .neq 107 (.pointer none) (.pointer none) = some (.bool false)) ∧ (∀ (b off : Nat), evFieldAddr Tryz.prog 109 (.pointer (some ⟨b, off, none⟩)) 7 = some (.pointer (some ⟨b, off + 7, none⟩))) ∧ (∀ (b off : Nat), evFieldAddr Tryz.prog 109 (.pointer (some ⟨b, off, none⟩)) 4 = some (.pointer (some ⟨b, off + 4, none⟩))) ∧ (∀ {β : Type} {W : Nat → Prop} {n0 : Nat} {h : H} {n : Nat} {Q : β → H → Nat → Prop} (b off : Nat) (v : Value) (k : Value → M β) (hb : b < n) (h1 : one v = true), Run W n0 ((inside (evStore Tryz.prog 106 (.pointer (some ⟨b, off, none⟩)) v)).bind k) h n Q ↔ optG (h.get b) fun B => B.own = true ∧ off < B.cells.length ∧ (n0 ≤ b ∨ W b) ∧ Run W n0 (k undef) (h.set b (some ⟨B.elem, B.own, B.cells.set off v⟩)) n Q) ∧ (∀ {β : Type} {W : Nat → Prop} {n0 : Nat} {h : H} {n : Nat} {Q : β → H → Nat → Prop} (b off : Nat) (v : Value) (k : Value → M β) (hb : b < n) (h1 : one v = true), Run W n0 ((inside (evStore Tryz.prog 107 (.pointer (some ⟨b, off, none⟩)) v)).bind k) h n Q ↔ optG (h.get b) fun B => B.own = true ∧ off < B.cells.length ∧ (n0 ≤ b ∨ W b) ∧ Run W n0 (k undef) (h.set b (some ⟨B.elem, B.own, B.cells.set off v⟩)) n Q) ∧ (∀ (b off : Nat), evFieldAddr Tryz.prog 109 (.pointer (some ⟨b, off, none⟩)) 8 = some (.pointer (some ⟨b, off + 8, none⟩))) ∧ (∀ {β : Type} {W : Nat → Prop} {n0 : Nat} {h : H} {n : Nat} {Q : β → H → Nat → Prop} (b off : Nat) (k : Value → M β) (hb : b < n), Run W n0 ((inside (evLoad Tryz.prog 39 (.pointer (some ⟨b, off, none⟩)))).bind k) h n Q ↔ optG (h.get b) fun B => Run W n0 (optK (B.cells[off]?) k) h n Q) ∧ (∀ (b off : Nat), evFieldAddr Tryz.prog 135 (.pointer (some ⟨b, off, none⟩)) 1 = some (.pointer (some ⟨b, off + 1, none⟩))) ∧ (∀ {β : Type} {W : Nat → Prop} {n0 : Nat} {h : H} {n : Nat} {Q : β → H → Nat → Prop} (b off : Nat) (k : Value → M β) (hb : b < n), Run W n0 ((inside (evLoad Tryz.prog 5 (.pointer (some ⟨b, off, none⟩)))).bind k) h n Q ↔ optG (h.get b) fun B => Run W n0 (optK (B.cells[off]?) k) h n Q) ∧ (∀ {k' : IntKind} (a b : Int) (h0 : 0 ≤ b), bin2 Tryz.prog .shl 5 (.int .u8 a) (.int k' b) = some (.int .u8 (IntKind.u8.wrap (a * 2 ^ (min b.toNat (IntKind.u8).bits))))) ∧ (∀ (a b : Int), bin2 Tryz.prog .or 5 (.int .u8 a) (.int .u8 b) = some (.int .u8 (IntKind.u8.wrap (BitVec.ofInt (IntKind.u8).bits a ||| BitVec.ofInt (IntKind.u8).bits b).toNat))) ∧ (∀ {β : Type} {W : Nat → Prop} {n0 : Nat} {h : H} {n : Nat} {Q : β → H → Nat → Prop} (b off : Nat) (v : Value) (k : Value → M β) (hb : b < n) (h1 : one v = true), Run W n0 ((inside (evStore Tryz.prog 5 (.pointer (some ⟨b, off, none⟩)) v)).bind k) h n Q ↔ optG (h.get b) fun B => B.own = true ∧ off < B.cells.length ∧ (n0 ≤ b ∨ W b) ∧ Run W n0 (k undef) (h.set b (some ⟨B.elem, B.own, B.cells.set off v⟩)) n Q) ∧ (∀ (b off : Nat), evFieldAddr Tryz.prog 170 (.pointer (some ⟨b, off, none⟩)) 0 = some (.pointer (some ⟨b, off + 0, none⟩))) ∧ (∀ {β : Type} (x : Int) (k : Value → M β), conv2 Tryz.prog 38 93 (.int .u32 x) k = k (.int .u64 (IntKind.u64.wrap x))) := ⟨@bmul3, @bd135x, @beql71s, @beql71n, @fa135f2, @bneq71s, @bneq71n, @brem3, @fa135f0, @ldr133, @str133, @bshr38, @band38, @cv38x5, @len133, @bgeq3, @bleq3, @bd160x1, @bd164x0x1x2, @bd89x0, @ixs9, @cv5x38, @cv3x38, @beql101s, @beql101n, @fa164f0, @fa160f0, @fa164f2, @ldr161, @fv166f1, @beql107s, @beql107n, @fa170f1, @ldr168, @fa170f3, @bneq107s, @bneq107n, @fa109f7, @fa109f4, @str106, @str107, @fa109f8, @ldr39, @fa135f1, @ldr5, @bshl5, @bor5, @str5, @fa170f0, @cv38x93⟩
theorem FX3 : (∀ {k' : IntKind} (a b : Int) (h0 : 0 ≤ b), bin2 Tryz.prog .shr 93 (.int .u64 a) (.int k' b) = some (.int .u64 (a.fdiv (2 ^ (min b.toNat (IntKind.u64).bits))))) ∧ (∀ (a b : Int), bin2 Tryz.prog .eql 93 (.int .u64 a) (.int .u64 b) = some (.bool (a == b))) ∧ (evBuild Tryz.prog 209 [] = M.ret (.agg #[(Go.Value.int Go.IntKind.u8 0), (Go.Value.int Go.IntKind.i64 0)])) ∧ (∀ (a : Addr), bin2 Tryz.prog .eql 161 (.pointer (some a)) (.pointer none) = some (.bool false)) ∧ (bin2 Tryz.prog .eql 161 (.pointer none) (.pointer none) = some (.bool true)) ∧ (evBuild Tryz.prog 166 [] = M.ret (.agg #[(Go.Value.int Go.IntKind.u8 0), (Go.Value.int Go.IntKind.i64 0)])) ∧ (∀ (b off : Nat), evFieldAddr Tryz.prog 209 (.pointer (some ⟨b, off, none⟩)) 0 = some (.pointer (some ⟨b, off + 0, none⟩))) ∧ (∀ (b off : Nat), evFieldAddr Tryz.prog 111 (.pointer (some ⟨b, off, none⟩)) 1 = some (.pointer (some ⟨b, off + 1, none⟩))) ∧ (∀ {β : Type} {W : Nat → Prop} {n0 : Nat} {h : H} {n : Nat} {Q : β → H → Nat → Prop} (b off : Nat) (k : Value → M β) (hb : b < n), Run W n0 ((inside (evLoad Tryz.prog 38 (.pointer (some ⟨b, off, none⟩)))).bind k) h n Q ↔ optG (h.get b) fun B => Run W n0 (optK (B.cells[off]?) k) h n Q) ∧ (∀ {k' : IntKind} (a b : Int) (h0 : 0 ≤ b), bin2 Tryz.prog .shl 38 (.int .u32 a) (.int k' b) = some (.int .u32 (IntKind.u32.wrap (a * 2 ^ (min b.toNat (IntKind.u32).bits))))) ∧ (∀ (a b : Int), bin2 Tryz.prog .mul 38 (.int .u32 a) (.int .u32 b) = some (.int .u32 (IntKind.u32.wrap (a * b)))) ∧ (∀ (a b : Int), bin2 Tryz.prog .xor 38 (.int .u32 a) (.int .u32 b) = some (.int .u32 (IntKind.u32.wrap (BitVec.ofInt (IntKind.u32).bits a ^^^ BitVec.ofInt (IntKind.u32).bits b).toNat))) ∧ (∀ (b off : Nat) (k : IntKind) (i : Int) (h0 : 0 ≤ i) (h1 : i < 256), evIndexAddr Tryz.prog 204 (.pointer (some ⟨b, off, none⟩)) (.int k i) = some (.pointer (some ⟨b, off + i.toNat, none⟩))) ∧ (∀ {β : Type} {W : Nat → Prop} {n0 : Nat} {h : H} {n : Nat} {Q : β → H → Nat → Prop} (b off : Nat) (v : Value) (k : Value → M β) (hb : b < n) (h1 : one v = true), Run W n0 ((inside (evStore Tryz.prog 38 (.pointer (some ⟨b, off, none⟩)) v)).bind k) h n Q ↔ optG (h.get b) fun B => B.own = true ∧ off < B.cells.length ∧ (n0 ≤ b ∨ W b) ∧ Run W n0 (k undef) (h.set b (some ⟨B.elem, B.own, B.cells.set off v⟩)) n Q) ∧ (∀ (b off : Nat), evFieldAddr Tryz.prog 164 (.pointer (some ⟨b, off, none⟩)) 1 = some (.pointer (some ⟨b, off + 3, none⟩))) ∧ (evBuild Tryz.prog 111 [] = M.ret (.agg #[(Go.Value.string { data := #[] }), (Go.Value.int Go.IntKind.u32 0), (Go.Value.int Go.IntKind.i64 0)])) ∧ (∀ (b off : Nat), evFieldAddr Tryz.prog 160 (.pointer (some ⟨b, off, none⟩)) 1 = some (.pointer (some ⟨b, off + 1, none⟩))) ∧ (∀ {β : Type} {W : Nat → Prop} {n0 : Nat} {h : H} {n : Nat} {Q : β → H → Nat → Prop} (b off : Nat) (k : Value → M β) (hb : b < n), Run W n0 ((inside (evLoad Tryz.prog 157 (.pointer (some ⟨b, off, none⟩)))).bind k) h n Q ↔ optG (h.get b) fun B => Run W n0 (optK (B.cells[off]?) k) h n Q) ∧ (∀ (b off : Nat), evFieldAddr Tryz.prog 160 (.pointer (some ⟨b, off, none⟩)) 2 = some (.pointer (some ⟨b, off + 2, none⟩))) ∧ (∀ (v0 : ByteArray) (v1 : Int) (v2 : Int), evBuild Tryz.prog 111 [(0, (Value.string v0)), (1, (Value.int .u32 v1)), (2, (Value.int .i64 v2))] = M.ret (.agg #[(Value.string v0), (Value.int .u32 v1), (Value.int .i64 v2)])) ∧ (∀ (a : Addr), bin2 Tryz.prog .eql 157 (.pointer (some a)) (.pointer none) = some (.bool false)) ∧ (bin2 Tryz.prog .eql 157 (.pointer none) (.pointer none) = some (.bool true)) ∧ (∀ (b off : Nat), evFieldAddr Tryz.prog 207 (.pointer (some ⟨b, off, none⟩)) 1 = some (.pointer (some ⟨b, off + 256, none⟩))) ∧ (∀ (a : Addr), bin2 Tryz.prog .neq 157 (.pointer (some a)) (.pointer none) = some (.bool true)) ∧ (bin2 Tryz.prog .neq 157 (.pointer none) (.pointer none) = some (.bool false)) ∧ (∀ (b off : Nat), evFieldAddr Tryz.prog 166 (.pointer (some ⟨b, off, none⟩)) 1 = some (.pointer (some ⟨b, off + 1, none⟩))) ∧ (∀ (b off : Nat), evFieldAddr Tryz.prog 166 (.pointer (some ⟨b, off, none⟩)) 0 = some (.pointer (some ⟨b, off + 0, none⟩))) ∧ (∀ (a b : Int), bin2 Tryz.prog .neq 5 (.int .u8 a) (.int .u8 b) = some (.bool (a != b))) := ⟨@bshr93, @beql93, @bd209x, @beql161s, @beql161n, @bd166x, @fa209f0, @fa111f1, @ldr38, @bshl38, @bmul38, @bxor38, @ia204, @str38, @fa164f1, @bd111x, @fa160f1, @ldr157, @fa160f2, @bd111x0x1x2, @beql157s, @beql157n, @fa207f1, @bneq157s, @bneq157n, @fa166f1, @fa166f0, @bneq5⟩

noncomputable def lpA_balerlaw23_PressFeeds (lf d fu : Nat) (k : Ex → Fr → M Value) (x0 : Value) (x1 : Value) (x2 : Value) (x4 : Value) (x5 : Value) (x6 : Value) (x7 : Value) (x24 : Value) (x36 : Value) (x37 : Value) (x38 : Value) : M Value := loopK (fun s1 k1 => codeK Tryz.prog (evCall2 Tryz.prog gt lf d) (gt 5) lf (codeAt (bodyOf Tryz.prog 5) [true, true, true, true, false, true, false, false]) s1 k1) [0, 1, 2, 4, 5, 6, 7, 24, 36, 37, 38] fu [(0, x0), (1, x1), (2, x2), (4, x4), (5, x5), (6, x6), (7, x7), (24, x24), (36, x36), (37, x37), (38, x38)] k
noncomputable def kcA_balerlaw23_PressFeeds (lf d : Nat) : Ex → Fr → M Value := contAt Tryz.prog (evCall2 Tryz.prog gt lf d) (gt 5) lf (bodyOf Tryz.prog 5) [true, true, true, true, false, true, false] (endK Tryz.prog (resOf Tryz.prog 5))
noncomputable def b_balerlaw23_PressFeeds (lf d : Nat) (a0 : Value) (a1 : Value) : M Value :=
 (inside (evBox Tryz.prog 46 a0)).bind fun v2n1 =>
 (inside (evLoad Tryz.prog 46 v2n1)).bind fun v12n2 =>
 (inside (evCall2 Tryz.prog gt lf d 23 #[v12n2])).bind fun v13n3 =>
 optK (un2 Tryz.prog .not v13n3) fun v14n4 =>
 ifV v14n4 (
 (inside (evCall2 Tryz.prog gt lf d 24 #[])).bind fun v25n5 =>
 outK [v25n5]) (
 optK (len2 Tryz.prog #[47] [a1]) fun v17n6 =>
 optK (bin2 Tryz.prog .gtr 3 v17n6 (Value.int .i64 20)) fun v18n7 =>
 ifV v18n7 (
 (inside (evCall2 Tryz.prog gt lf d 24 #[])).bind fun v25n8 =>
 outK [v25n8]) (
 optK (evFieldAddr Tryz.prog 46 v2n1 2) fun v21n9 =>
 (inside (evLoad Tryz.prog 3 v21n9)).bind fun v22n10 =>
 optK (bin2 Tryz.prog .gtr 3 v22n10 (Value.int .i64 300)) fun v23n11 =>
 ifV v23n11 (
 (inside (evCall2 Tryz.prog gt lf d 24 #[])).bind fun v25n12 =>
 outK [v25n12]) (
 optK (evFieldAddr Tryz.prog 46 v2n1 0) fun v27n13 =>
 (inside (evLoad Tryz.prog 3 v27n13)).bind fun v28n14 =>
 optK (evFieldAddr Tryz.prog 46 v2n1 1) fun v29n15 =>
 (inside (evLoad Tryz.prog 3 v29n15)).bind fun v30n16 =>
 optK (evFieldAddr Tryz.prog 46 v2n1 2) fun v31n17 =>
 (inside (evLoad Tryz.prog 3 v31n17)).bind fun v32n18 =>
 (inside (evCall2 Tryz.prog gt lf d 25 #[v28n14, v30n16, v32n18])).bind fun v33n19 =>
 optK (evExtract v33n19 0) fun v34n20 =>
 optK (evExtract v33n19 1) fun v35n21 =>
 optK (len2 Tryz.prog #[47] [a1]) fun v37n22 =>
 lpA_balerlaw23_PressFeeds lf d lf (kcA_balerlaw23_PressFeeds lf d) a0 a1 v2n1 (Value.bool false) v34n20 v35n21 (Value.int .i64 0) v23n11 a1 v37n22 (Value.int .i64 0))))
theorem sh_balerlaw23_PressFeeds (lf d : Nat) (a0 : Value) (a1 : Value) : evCall2 Tryz.prog gt lf (d + 1) 5 #[a0, a1] = inside (b_balerlaw23_PressFeeds lf d a0 a1) := by kernel_rfl
theorem succA_balerlaw23_PressFeeds (lf d fu : Nat) (k : Ex → Fr → M Value) (x0 : Value) (x1 : Value) (x2 : Value) (x4 : Value) (x5 : Value) (x6 : Value) (x7 : Value) (x24 : Value) (x36 : Value) (x37 : Value) (x38 : Value) : lpA_balerlaw23_PressFeeds lf d (fu + 1) k x0 x1 x2 x4 x5 x6 x7 x24 x36 x37 x38 =
  optK (bin2 Tryz.prog .lss 3 x38 x37) fun v39n23 =>
  ifV v39n23 (
    optK (evIndexAddr Tryz.prog 47 x36 x38) fun v40n24 =>
    (inside (evLoad Tryz.prog 9 v40n24)).bind fun v41n25 =>
    optK (len2 Tryz.prog #[9] [v41n25]) fun v43n26 =>
    optK (bin2 Tryz.prog .gtr 3 v43n26 (Value.int .i64 200)) fun v44n27 =>
    ifV v44n27 (
      (inside (evCall2 Tryz.prog gt lf d 24 #[])).bind fun v45n28 =>
      k Ex.ret [(0, x0), (1, x1), (2, x2), (4, v45n28), (5, x5), (6, x6), (7, x7), (9, v41n25), (24, x24), (36, x36), (37, x37), (38, x38), (39, v39n23), (44, v44n27)]) (
      optK (len2 Tryz.prog #[9] [v41n25]) fun v47n29 =>
      optK (evFieldAddr Tryz.prog 46 x2 2) fun v48n30 =>
      (inside (evLoad Tryz.prog 3 v48n30)).bind fun v49n31 =>
      optK (bin2 Tryz.prog .sub 3 v49n31 x7) fun v51n32 =>
      optK (min2 [v47n29, v51n32]) fun v52n33 =>
      (inside (evCall2 Tryz.prog gt lf d 26 #[x5, v41n25])).bind fun v55n34 =>
      optK (bin2 Tryz.prog .neq 3 v55n34 v52n33) fun v57n35 =>
      ifV v57n35 (
        k Ex.ret [(0, x0), (1, x1), (2, x2), (4, (Value.bool false)), (5, x5), (6, x6), (7, x7), (9, v41n25), (10, v52n33), (24, x24), (36, x36), (37, x37), (38, x38), (39, v39n23), (44, v44n27), (57, v57n35)]) (
        optK (bin2 Tryz.prog .add 3 x7 v52n33) fun v60n36 =>
        (inside (evCall2 Tryz.prog gt lf d 27 #[x5])).bind fun v62n37 =>
        optK (bin2 Tryz.prog .add 3 v60n36 (Value.int .i64 4)) fun v64n38 =>
        optK (bin2 Tryz.prog .neq 3 v62n37 v64n38) fun v65n39 =>
        ifV v65n39 (
          k Ex.ret [(0, x0), (1, x1), (2, x2), (4, (Value.bool false)), (5, x5), (6, x6), (7, v60n36), (9, v41n25), (10, v52n33), (24, x24), (36, x36), (37, x37), (38, x38), (39, v39n23), (44, v44n27), (57, v57n35), (72, (Value.bool true))]) (
          (inside (evCall2 Tryz.prog gt lf d 28 #[x5])).bind fun v68n40 =>
          optK (bin2 Tryz.prog .eql 3 v60n36 (Value.int .i64 0)) fun v70n41 =>
          optK (bin2 Tryz.prog .neq 4 v68n40 v70n41) fun v71n42 =>
          ifV v71n42 (
            k Ex.ret [(0, x0), (1, x1), (2, x2), (4, (Value.bool false)), (5, x5), (6, x6), (7, v60n36), (9, v41n25), (10, v52n33), (24, x24), (36, x36), (37, x37), (38, x38), (39, v39n23), (44, v44n27), (57, v57n35), (72, v71n42)]) (
            optK (bin2 Tryz.prog .add 3 x38 (Value.int .i64 1)) fun v73n43 =>
            lpA_balerlaw23_PressFeeds lf d fu k x0 x1 x2 x4 x5 x6 v60n36 x24 x36 x37 v73n43))))) (
    k (Ex.exit 0) [(0, x0), (1, x1), (2, x2), (4, x4), (5, x5), (6, x6), (7, x7), (24, x24), (36, x36), (37, x37), (38, x38), (39, v39n23)]) := by kernel_rfl
theorem kcAa_balerlaw23_PressFeeds (lf d : Nat) (y0 : Value) (y1 : Value) (y2 : Value) (y4 : Value) (y5 : Value) (y6 : Value) (y7 : Value) (y9 : Value) (y24 : Value) (y36 : Value) (y37 : Value) (y38 : Value) (y39 : Value) (y44 : Value) : kcA_balerlaw23_PressFeeds lf d Ex.ret [(0, y0), (1, y1), (2, y2), (4, y4), (5, y5), (6, y6), (7, y7), (9, y9), (24, y24), (36, y36), (37, y37), (38, y38), (39, y39), (44, y44)] =
  outK [y4] := by kernel_rfl
theorem kcAd_balerlaw23_PressFeeds (lf d : Nat) (y0 : Value) (y1 : Value) (y2 : Value) (y4 : Value) (y5 : Value) (y6 : Value) (y7 : Value) (y24 : Value) (y36 : Value) (y37 : Value) (y38 : Value) (y39 : Value) : kcA_balerlaw23_PressFeeds lf d (Ex.exit 0) [(0, y0), (1, y1), (2, y2), (4, y4), (5, y5), (6, y6), (7, y7), (24, y24), (36, y36), (37, y37), (38, y38), (39, y39)] =
  (inside (evCall2 Tryz.prog gt lf d 29 #[y5])).bind fun v75n44 =>
  optK (bin2 Tryz.prog .eql 25 y6 (Value.int .i64 0)) fun v77n45 =>
  ifV v77n45 (
    optK (bin2 Tryz.prog .eql 25 v75n44 (Value.int .i64 0)) fun v80n46 =>
    ifV v80n46 (
      (inside (evCall2 Tryz.prog gt lf d 26 #[y5, (Value.string { data := #[97] })])).bind fun v84n47 =>
      optK (bin2 Tryz.prog .eql 3 v84n47 (Value.int .i64 0)) fun v85n48 =>
      ifV v85n48 (
        (inside (evCall2 Tryz.prog gt lf d 29 #[y5])).bind fun v89n49 =>
        optK (bin2 Tryz.prog .eql 25 v89n49 (Value.int .i64 7)) fun v90n50 =>
        ifV v90n50 (
          (inside (evCall2 Tryz.prog gt lf d 24 #[])).bind fun v93n51 =>
          outK [v93n51]) (
          outK [(Value.bool false)])) (
        outK [(Value.bool false)])) (
      outK [(Value.bool false)])) (
    outK [(Value.bool false)]) := by kernel_rfl

noncomputable def b_balerlaw23_PressNews (lf d : Nat) (a0 : Value) : M Value :=
 (inside (evBox Tryz.prog 46 a0)).bind fun v1n1 =>
 optK (evFieldAddr Tryz.prog 46 v1n1 0) fun v8n2 =>
 (inside (evLoad Tryz.prog 3 v8n2)).bind fun v9n3 =>
 optK (evFieldAddr Tryz.prog 46 v1n1 1) fun v10n4 =>
 (inside (evLoad Tryz.prog 3 v10n4)).bind fun v11n5 =>
 optK (evFieldAddr Tryz.prog 46 v1n1 2) fun v12n6 =>
 (inside (evLoad Tryz.prog 3 v12n6)).bind fun v13n7 =>
 (inside (evCall2 Tryz.prog gt lf d 25 #[v9n3, v11n5, v13n7])).bind fun v14n8 =>
 optK (evExtract v14n8 0) fun v15n9 =>
 optK (evExtract v14n8 1) fun v16n10 =>
 optK (evFieldAddr Tryz.prog 46 v1n1 0) fun v18n11 =>
 (inside (evLoad Tryz.prog 3 v18n11)).bind fun v19n12 =>
 optK (evFieldAddr Tryz.prog 46 v1n1 1) fun v20n13 =>
 (inside (evLoad Tryz.prog 3 v20n13)).bind fun v21n14 =>
 optK (evFieldAddr Tryz.prog 46 v1n1 2) fun v22n15 =>
 (inside (evLoad Tryz.prog 3 v22n15)).bind fun v23n16 =>
 (inside (evCall2 Tryz.prog gt lf d 35 #[v19n12, v21n14, v23n16])).bind fun v24n17 =>
 optK (evExtract v24n17 0) fun v25n18 =>
 optK (evExtract v24n17 1) fun v26n19 =>
 (inside (evLoad Tryz.prog 46 v1n1)).bind fun v27n20 =>
 (inside (evCall2 Tryz.prog gt lf d 23 #[v27n20])).bind fun v28n21 =>
 optK (un2 Tryz.prog .not v28n21) fun v29n22 =>
 ifV v29n22 (
 optK (bin2 Tryz.prog .eql 25 v16n10 (Value.int .i64 1)) fun v31n23 =>
 ifV v31n23 (
 optK (bin2 Tryz.prog .eql 25 v26n19 (Value.int .i64 1)) fun v34n24 =>
 ifV v34n24 (
 optK (bin2 Tryz.prog .eql 48 v15n9 (Value.pointer none)) fun v38n25 =>
 ifV v38n25 (
 optK (bin2 Tryz.prog .eql 3 v25n18 (Value.int .i64 0)) fun v42n26 =>
 ifV v42n26 (
 (inside (evCall2 Tryz.prog gt lf d 24 #[])).bind fun v45n27 =>
 outK [v45n27]) (
 outK [(Value.bool false)])) (
 outK [(Value.bool false)])) (
 outK [(Value.bool false)])) (
 outK [(Value.bool false)])) (
 optK (bin2 Tryz.prog .eql 25 v16n10 (Value.int .i64 0)) fun v48n28 =>
 ifV v48n28 (
 optK (bin2 Tryz.prog .eql 25 v26n19 (Value.int .i64 0)) fun v51n29 =>
 ifV v51n29 (
 optK (evFieldAddr Tryz.prog 46 v1n1 0) fun v55n30 =>
 (inside (evLoad Tryz.prog 3 v55n30)).bind fun v56n31 =>
 optK (evFieldAddr Tryz.prog 46 v1n1 1) fun v57n32 =>
 (inside (evLoad Tryz.prog 3 v57n32)).bind fun v58n33 =>
 optK (evFieldAddr Tryz.prog 46 v1n1 2) fun v59n34 =>
 (inside (evLoad Tryz.prog 3 v59n34)).bind fun v60n35 =>
 (inside (evCall2 Tryz.prog gt lf d 36 #[v56n31, v58n33, v60n35])).bind fun v61n36 =>
 optK (bin2 Tryz.prog .eql 3 v25n18 v61n36) fun v62n37 =>
 ifV v62n37 (
 (inside (evCall2 Tryz.prog gt lf d 32 #[v15n9])).bind fun v66n38 =>
 optK (bin2 Tryz.prog .eql 3 v66n38 (Value.int .i64 4)) fun v67n39 =>
 ifV v67n39 (
 (inside (evCall2 Tryz.prog gt lf d 27 #[v15n9])).bind fun v71n40 =>
 optK (bin2 Tryz.prog .eql 3 v71n40 (Value.int .i64 4)) fun v72n41 =>
 ifV v72n41 (
 (inside (evCall2 Tryz.prog gt lf d 33 #[v15n9])).bind fun v76n42 =>
 optK (un2 Tryz.prog .not v76n42) fun v77n43 =>
 ifV v77n43 (
 (inside (evCall2 Tryz.prog gt lf d 28 #[v15n9])).bind fun v81n44 =>
 ifV v81n44 (
 (inside (evCall2 Tryz.prog gt lf d 34 #[v15n9])).bind fun v85n45 =>
 optK (bin2 Tryz.prog .eql 3 v85n45 (Value.int .i64 0)) fun v86n46 =>
 ifV v86n46 (
 (inside (evCall2 Tryz.prog gt lf d 24 #[])).bind fun v89n47 =>
 outK [v89n47]) (
 outK [(Value.bool false)])) (
 outK [(Value.bool false)])) (
 outK [(Value.bool false)])) (
 outK [(Value.bool false)])) (
 outK [(Value.bool false)])) (
 outK [(Value.bool false)])) (
 outK [(Value.bool false)])) (
 outK [(Value.bool false)]))
theorem sh_balerlaw23_PressNews (lf d : Nat) (a0 : Value) : evCall2 Tryz.prog gt lf (d + 1) 7 #[a0] = inside (b_balerlaw23_PressNews lf d a0) := by kernel_rfl

noncomputable def b_stream_Writer_Take (lf d : Nat) (a0 : Value) : M Value :=
 optK (bin2 Tryz.prog .eql 39 a0 (Value.pointer none)) fun v4n1 =>
 ifV v4n1 (
 outK [(Value.string { data := #[] })]) (
 optK (nil2 a0) fun v6n2 =>
 optK (evFieldAddr Tryz.prog 89 v6n2 0) fun v7n3 =>
 (inside (evLoad Tryz.prog 71 v7n3)).bind fun v8n4 =>
 (inside (evCall2 Tryz.prog gt lf d 57 #[v8n4])).bind fun v9n5 =>
 outK [v9n5])
theorem sh_stream_Writer_Take (lf d : Nat) (a0 : Value) : evCall2 Tryz.prog gt lf (d + 1) 21 #[a0] = inside (b_stream_Writer_Take lf d a0) := by kernel_rfl

noncomputable def b_balerlaw23_Setup_may (lf d : Nat) (a0 : Value) : M Value :=
 (inside (evBox Tryz.prog 46 a0)).bind fun v1n1 =>
 optK (evFieldAddr Tryz.prog 46 v1n1 0) fun v3n2 =>
 (inside (evLoad Tryz.prog 3 v3n2)).bind fun v4n3 =>
 optK (evFieldAddr Tryz.prog 46 v1n1 1) fun v5n4 =>
 (inside (evLoad Tryz.prog 3 v5n4)).bind fun v6n5 =>
 optK (evFieldAddr Tryz.prog 46 v1n1 2) fun v7n6 =>
 (inside (evLoad Tryz.prog 3 v7n6)).bind fun v8n7 =>
 (inside (evCall2 Tryz.prog gt lf d 67 #[v4n3, v6n5, v8n7])).bind fun v9n8 =>
 outK [v9n8]
theorem sh_balerlaw23_Setup_may (lf d : Nat) (a0 : Value) : evCall2 Tryz.prog gt lf (d + 1) 23 #[a0] = inside (b_balerlaw23_Setup_may lf d a0) := by kernel_rfl

noncomputable def b_press_New (lf d : Nat) (a0 : Value) (a1 : Value) (a2 : Value) : M Value :=
 (inside (evCall2 Tryz.prog gt lf d 69 #[a0, a1])).bind fun v17n1 =>
 optK (evExtract v17n1 0) fun v18n2 =>
 optK (evExtract v17n1 1) fun v19n3 =>
 optK (bin2 Tryz.prog .neq 25 v19n3 (Value.int .i64 0)) fun v21n4 =>
 ifV v21n4 (
 outK [(Value.pointer none), (Value.int .i64 1)]) (
 (inside (evCall2 Tryz.prog gt lf d 70 #[a2])).bind fun v24n5 =>
 optK (un2 Tryz.prog .not v24n5) fun v25n6 =>
 ifV v25n6 (
 outK [(Value.pointer none), (Value.int .i64 1)]) (
 (inside (evCall2 Tryz.prog gt lf d 71 #[v18n2])).bind fun v29n7 =>
 optK (evExtract v29n7 0) fun v30n8 =>
 optK (evExtract v29n7 1) fun v31n9 =>
 (inside (evCall2 Tryz.prog gt lf d 72 #[a0])).bind fun v34n10 =>
 optK (evExtract v34n10 0) fun v35n11 =>
 optK (evExtract v34n10 1) fun v36n12 =>
 (inside (evCall2 Tryz.prog gt lf d 21 #[v35n11])).bind fun v41n13 =>
 (inside (evBuild Tryz.prog 109 [(0, a2), (3, v30n8), (8, v35n11), (9, v41n13)])).bind fun v42n14 =>
 (inside (evBox Tryz.prog 109 v42n14)).bind fun v43n15 =>
 outK [v43n15, (Value.int .i64 0)]))
theorem sh_press_New (lf d : Nat) (a0 : Value) (a1 : Value) (a2 : Value) : evCall2 Tryz.prog gt lf (d + 1) 25 #[a0, a1, a2] = inside (b_press_New lf d a0 a1 a2) := by kernel_rfl

noncomputable def b_press_Press_Feed (lf d : Nat) (a0 : Value) (a1 : Value) : M Value :=
 optK (bin2 Tryz.prog .eql 48 a0 (Value.pointer none)) fun v7n1 =>
 ifV v7n1 (
 outK [(Value.int .i64 0)]) (
 optK (nil2 a0) fun v10n2 =>
 optK (evFieldAddr Tryz.prog 109 v10n2 2) fun v11n3 =>
 (inside (evLoad Tryz.prog 4 v11n3)).bind fun v12n4 =>
 ifV v12n4 (
 outK [(Value.int .i64 0)]) (
 optK (len2 Tryz.prog #[9] [a1]) fun v15n5 =>
 optK (nil2 a0) fun v17n6 =>
 optK (evFieldAddr Tryz.prog 109 v17n6 0) fun v18n7 =>
 (inside (evLoad Tryz.prog 3 v18n7)).bind fun v19n8 =>
 optK (nil2 a0) fun v21n9 =>
 optK (evFieldAddr Tryz.prog 109 v21n9 1) fun v22n10 =>
 (inside (evLoad Tryz.prog 9 v22n10)).bind fun v23n11 =>
 optK (len2 Tryz.prog #[9] [v23n11]) fun v24n12 =>
 optK (bin2 Tryz.prog .sub 3 v19n8 v24n12) fun v25n13 =>
 optK (min2 [v15n5, v25n13]) fun v26n14 =>
 optK (nil2 a0) fun v28n15 =>
 optK (evFieldAddr Tryz.prog 109 v28n15 1) fun v29n16 =>
 (inside (evLoad Tryz.prog 9 v29n16)).bind fun v30n17 =>
 slice2 Tryz.prog 9 a1 none (some v26n14) none fun v33n18 =>
 optK (bin2 Tryz.prog .add 9 v30n17 v33n18) fun v34n19 =>
 optK (nil2 a0) fun v35n20 =>
 optK (evFieldAddr Tryz.prog 109 v35n20 1) fun v36n21 =>
 (inside (evStore Tryz.prog 9 v36n21 v34n19)).bind fun u22 =>
 outK [v26n14]))
theorem sh_press_Press_Feed (lf d : Nat) (a0 : Value) (a1 : Value) : evCall2 Tryz.prog gt lf (d + 1) 26 #[a0, a1] = inside (b_press_Press_Feed lf d a0 a1) := by kernel_rfl

noncomputable def lpA_press_Press_Held (lf d fu : Nat) (k : Ex → Fr → M Value) (x0 : Value) (x2 : Value) (x3 : Value) (x7 : Value) (x34 : Value) (x35 : Value) (x36 : Value) : M Value := loopK (fun s1 k1 => codeK Tryz.prog (evCall2 Tryz.prog gt lf d) (gt 27) lf (codeAt (bodyOf Tryz.prog 27) [true, true, true, false, true, false, false]) s1 k1) [0, 2, 3, 7, 34, 35, 36] fu [(0, x0), (2, x2), (3, x3), (7, x7), (34, x34), (35, x35), (36, x36)] k
noncomputable def kcA_press_Press_Held (lf d : Nat) : Ex → Fr → M Value := contAt Tryz.prog (evCall2 Tryz.prog gt lf d) (gt 27) lf (bodyOf Tryz.prog 27) [true, true, true, false, true, false] (endK Tryz.prog (resOf Tryz.prog 27))
noncomputable def b_press_Press_Held (lf d : Nat) (a0 : Value) : M Value :=
 optK (bin2 Tryz.prog .eql 48 a0 (Value.pointer none)) fun v7n1 =>
 ifV v7n1 (
 outK [(Value.int .i64 0)]) (
 optK (nil2 a0) fun v9n2 =>
 optK (evFieldAddr Tryz.prog 109 v9n2 1) fun v10n3 =>
 (timed (
 (inside (evLoad Tryz.prog 9 v10n3)).bind fun v11n5 => M.ret v11n5)).bind fun vtn4 =>
 optK (len2 Tryz.prog #[9] [vtn4.1]) fun v12n6 =>
 optK (nil2 a0) fun v14n7 =>
 optK (evFieldAddr Tryz.prog 109 v14n7 3) fun v15n8 =>
 (timed (
 (inside (evLoad Tryz.prog 101 v15n8)).bind fun v16n10 => M.ret v16n10)).bind fun vtn9 =>
 (timed (
 (inside (evCall2 Tryz.prog gt lf d 73 #[vtn9.1])).bind fun v17n12 => M.ret v17n12)).bind fun vtn11 =>
 optK (bin2 Tryz.prog .add 3 v12n6 vtn11.1) fun v18n13 =>
 optK (nil2 a0) fun v20n14 =>
 optK (evFieldAddr Tryz.prog 109 v20n14 6) fun v21n15 =>
 (timed (
 (inside (evLoad Tryz.prog 107 v21n15)).bind fun v22n17 => M.ret v22n17)).bind fun vtn16 =>
 (timed (
 (inside (evCall2 Tryz.prog gt lf d 74 #[vtn16.1])).bind fun v23n19 => M.ret v23n19)).bind fun vtn18 =>
 optK (bin2 Tryz.prog .add 3 v18n13 vtn18.1) fun v24n20 =>
 optK (nil2 a0) fun v26n21 =>
 optK (evFieldAddr Tryz.prog 109 v26n21 9) fun v27n22 =>
 (timed (
 (inside (evLoad Tryz.prog 9 v27n22)).bind fun v28n24 => M.ret v28n24)).bind fun vtn23 =>
 optK (len2 Tryz.prog #[9] [vtn23.1]) fun v29n25 =>
 optK (bin2 Tryz.prog .add 3 v24n20 v29n25) fun v30n26 =>
 chkT ((!(Tk.clash vtn4.2 vtn11.2) && (!(Tk.clash vtn4.2 vtn18.2) && true)) && ((!(Tk.clash vtn11.2 vtn16.2) && (!(Tk.clash vtn11.2 vtn23.2) && true)) && ((!(Tk.clash vtn18.2 vtn23.2) && true) && true))) (
 optK (nil2 a0) fun v32n27 =>
 optK (evFieldAddr Tryz.prog 109 v32n27 5) fun v33n28 =>
 (inside (evLoad Tryz.prog 106 v33n28)).bind fun v34n29 =>
 optK (len2 Tryz.prog #[106] [v34n29]) fun v35n30 =>
 lpA_press_Press_Held lf d lf (kcA_press_Press_Held lf d) a0 (Value.int .i64 0) v30n26 v7n1 v34n29 v35n30 (Value.int .i64 0)))
theorem sh_press_Press_Held (lf d : Nat) (a0 : Value) : evCall2 Tryz.prog gt lf (d + 1) 27 #[a0] = inside (b_press_Press_Held lf d a0) := by kernel_rfl
theorem succA_press_Press_Held (lf d fu : Nat) (k : Ex → Fr → M Value) (x0 : Value) (x2 : Value) (x3 : Value) (x7 : Value) (x34 : Value) (x35 : Value) (x36 : Value) : lpA_press_Press_Held lf d (fu + 1) k x0 x2 x3 x7 x34 x35 x36 =
  optK (bin2 Tryz.prog .lss 3 x36 x35) fun v37n31 =>
  ifV v37n31 (
    optK (evIndexAddr Tryz.prog 106 x34 x36) fun v38n32 =>
    (inside (evLoad Tryz.prog 111 v38n32)).bind fun v39n33 =>
    (inside (evAlloc Tryz.prog 111)).bind fun v5n34 =>
    (inside (evStore Tryz.prog 111 v5n34 v39n33)).bind fun u35 =>
    optK (evFieldAddr Tryz.prog 111 v5n34 0) fun v41n36 =>
    (inside (evLoad Tryz.prog 9 v41n36)).bind fun v42n37 =>
    optK (len2 Tryz.prog #[9] [v42n37]) fun v43n38 =>
    optK (bin2 Tryz.prog .add 3 x3 v43n38) fun v44n39 =>
    optK (bin2 Tryz.prog .add 3 x36 (Value.int .i64 1)) fun v45n40 =>
    lpA_press_Press_Held lf d fu k x0 x2 v44n39 x7 x34 x35 v45n40) (
    k (Ex.exit 0) [(0, x0), (2, x2), (3, x3), (7, x7), (34, x34), (35, x35), (36, x36), (37, v37n31)]) := by kernel_rfl
theorem kcAa_press_Press_Held (lf d : Nat) (y0 : Value) (y2 : Value) (y3 : Value) (y7 : Value) (y34 : Value) (y35 : Value) (y36 : Value) (y37 : Value) : kcA_press_Press_Held lf d (Ex.exit 0) [(0, y0), (2, y2), (3, y3), (7, y7), (34, y34), (35, y35), (36, y36), (37, y37)] =
  outK [y3] := by kernel_rfl

noncomputable def b_press_Press_Stopped (lf d : Nat) (a0 : Value) : M Value :=
 optK (bin2 Tryz.prog .eql 48 a0 (Value.pointer none)) fun v5n1 =>
 ifV v5n1 (
 outK [(Value.bool true)]) (
 optK (nil2 a0) fun v8n2 =>
 optK (evFieldAddr Tryz.prog 109 v8n2 10) fun v9n3 =>
 (inside (evLoad Tryz.prog 4 v9n3)).bind fun v10n4 =>
 ifV v10n4 (
 outK [(Value.bool true)]) (
 (inside (evCall2 Tryz.prog gt lf d 75 #[a0])).bind fun v14n5 =>
 ifV v14n5 (
 optK (nil2 a0) fun v16n6 =>
 optK (evFieldAddr Tryz.prog 109 v16n6 9) fun v17n7 =>
 (inside (evLoad Tryz.prog 9 v17n7)).bind fun v18n8 =>
 optK (bin2 Tryz.prog .neq 9 v18n8 (Value.string { data := #[] })) fun v19n9 =>
 outK [v19n9]) (
 (inside (evCall2 Tryz.prog gt lf d 76 #[a0])).bind fun v21n10 =>
 optK (un2 Tryz.prog .not v21n10) fun v22n11 =>
 ifV v22n11 (
 optK (nil2 a0) fun v25n12 =>
 optK (evFieldAddr Tryz.prog 109 v25n12 1) fun v26n13 =>
 (inside (evLoad Tryz.prog 9 v26n13)).bind fun v27n14 =>
 optK (bin2 Tryz.prog .eql 9 v27n14 (Value.string { data := #[] })) fun v28n15 =>
 outK [v28n15]) (
 outK [(Value.bool false)]))))
theorem sh_press_Press_Stopped (lf d : Nat) (a0 : Value) : evCall2 Tryz.prog gt lf (d + 1) 28 #[a0] = inside (b_press_Press_Stopped lf d a0) := by kernel_rfl

noncomputable def b_press_Press_End (lf d : Nat) (a0 : Value) : M Value :=
 optK (bin2 Tryz.prog .eql 48 a0 (Value.pointer none)) fun v4n1 =>
 ifV v4n1 (
 outK [(Value.int .i64 7)]) (
 optK (nil2 a0) fun v7n2 =>
 optK (evFieldAddr Tryz.prog 109 v7n2 2) fun v8n3 =>
 (inside (evLoad Tryz.prog 4 v8n3)).bind fun v9n4 =>
 ifV v9n4 (
 outK [(Value.int .i64 7)]) (
 optK (nil2 a0) fun v12n5 =>
 optK (evFieldAddr Tryz.prog 109 v12n5 2) fun v13n6 =>
 (inside (evStore Tryz.prog 4 v13n6 (Value.bool true))).bind fun u7 =>
 (inside (evCall2 Tryz.prog gt lf d 77 #[a0])).bind fun v15n8 =>
 outK [(Value.int .i64 0)]))
theorem sh_press_Press_End (lf d : Nat) (a0 : Value) : evCall2 Tryz.prog gt lf (d + 1) 29 #[a0] = inside (b_press_Press_End lf d a0) := by kernel_rfl

noncomputable def lpA_press_Press_Step (lf d fu : Nat) (k : Ex → Fr → M Value) (x0 : Value) (x1 : Value) (x4 : Value) (x5 : Value) : M Value := loopK (fun s1 k1 => codeK Tryz.prog (evCall2 Tryz.prog gt lf d) (gt 30) lf (codeAt (bodyOf Tryz.prog 30) [true, true, false, false, false]) s1 k1) [0, 1, 4, 5] fu [(0, x0), (1, x1), (4, x4), (5, x5)] k
noncomputable def kcA_press_Press_Step (lf d : Nat) : Ex → Fr → M Value := contAt Tryz.prog (evCall2 Tryz.prog gt lf d) (gt 30) lf (bodyOf Tryz.prog 30) [true, true, false, false] (endK Tryz.prog (resOf Tryz.prog 30))
noncomputable def b_press_Press_Waiting (lf d : Nat) (a0 : Value) : M Value :=
 optK (bin2 Tryz.prog .eql 48 a0 (Value.pointer none)) fun v4n1 =>
 ifV v4n1 (
 outK [(Value.int .i64 0)]) (
 optK (nil2 a0) fun v6n2 =>
 optK (evFieldAddr Tryz.prog 109 v6n2 9) fun v7n3 =>
 (inside (evLoad Tryz.prog 9 v7n3)).bind fun v8n4 =>
 optK (len2 Tryz.prog #[9] [v8n4]) fun v9n5 =>
 outK [v9n5])
theorem sh_press_Press_Waiting (lf d : Nat) (a0 : Value) : evCall2 Tryz.prog gt lf (d + 1) 32 #[a0] = inside (b_press_Press_Waiting lf d a0) := by kernel_rfl

noncomputable def b_press_Press_Done (lf d : Nat) (a0 : Value) : M Value :=
 optK (bin2 Tryz.prog .neq 48 a0 (Value.pointer none)) fun v4n1 =>
 ifV v4n1 (
 optK (nil2 a0) fun v7n2 =>
 optK (evFieldAddr Tryz.prog 109 v7n2 10) fun v8n3 =>
 (inside (evLoad Tryz.prog 4 v8n3)).bind fun v9n4 =>
 outK [v9n4]) (
 outK [(Value.bool false)])
theorem sh_press_Press_Done (lf d : Nat) (a0 : Value) : evCall2 Tryz.prog gt lf (d + 1) 33 #[a0] = inside (b_press_Press_Done lf d a0) := by kernel_rfl

noncomputable def b_press_Press_Steps (lf d : Nat) (a0 : Value) : M Value :=
 optK (bin2 Tryz.prog .eql 48 a0 (Value.pointer none)) fun v4n1 =>
 ifV v4n1 (
 outK [(Value.int .i64 0)]) (
 optK (nil2 a0) fun v6n2 =>
 optK (evFieldAddr Tryz.prog 109 v6n2 11) fun v7n3 =>
 (inside (evLoad Tryz.prog 3 v7n3)).bind fun v8n4 =>
 outK [v8n4])
theorem sh_press_Press_Steps (lf d : Nat) (a0 : Value) : evCall2 Tryz.prog gt lf (d + 1) 34 #[a0] = inside (b_press_Press_Steps lf d a0) := by kernel_rfl

noncomputable def b_press_Need (lf d : Nat) (a0 : Value) (a1 : Value) (a2 : Value) : M Value :=
 (inside (evCall2 Tryz.prog gt lf d 69 #[a0, a1])).bind fun v13n1 =>
 optK (evExtract v13n1 0) fun v14n2 =>
 optK (evExtract v13n1 1) fun v15n3 =>
 optK (bin2 Tryz.prog .neq 25 v15n3 (Value.int .i64 0)) fun v17n4 =>
 ifV v17n4 (
 outK [(Value.int .i64 0), (Value.int .i64 1)]) (
 (inside (evCall2 Tryz.prog gt lf d 70 #[a2])).bind fun v20n5 =>
 optK (un2 Tryz.prog .not v20n5) fun v21n6 =>
 ifV v21n6 (
 outK [(Value.int .i64 0), (Value.int .i64 1)]) (
 optK (bin2 Tryz.prog .mul 3 (Value.int .i64 8) v14n2) fun v25n7 =>
 optK (bin2 Tryz.prog .add 3 a2 v25n7) fun v26n8 =>
 (inside (evCall2 Tryz.prog gt lf d 60 #[v14n2])).bind fun v28n9 =>
 optK (bin2 Tryz.prog .add 3 v26n8 v28n9) fun v29n10 =>
 optK (bin2 Tryz.prog .add 3 v29n10 (Value.int .i64 1024)) fun v30n11 =>
 outK [v30n11, (Value.int .i64 0)]))
theorem sh_press_Need (lf d : Nat) (a0 : Value) (a1 : Value) (a2 : Value) : evCall2 Tryz.prog gt lf (d + 1) 35 #[a0, a1, a2] = inside (b_press_Need lf d a0 a1 a2) := by kernel_rfl

noncomputable def b_balerref23_Need (lf d : Nat) (a0 : Value) (a1 : Value) (a2 : Value) : M Value :=
 optK (bin2 Tryz.prog .mul 3 a0 a1) fun v10n1 =>
 optK (bin2 Tryz.prog .sub 3 v10n1 (Value.int .i64 19)) fun v11n2 =>
 optK (bin2 Tryz.prog .mul 3 (Value.int .i64 8) v11n2) fun v14n3 =>
 optK (bin2 Tryz.prog .add 3 a2 v14n3) fun v15n4 =>
 optK (bin2 Tryz.prog .add 3 v15n4 (Value.int .i64 12000)) fun v16n5 =>
 optK (bin2 Tryz.prog .mul 3 (Value.int .i64 3) v11n2) fun v18n6 =>
 optK (bin2 Tryz.prog .add 3 v16n5 v18n6) fun v19n7 =>
 optK (bin2 Tryz.prog .add 3 v19n7 (Value.int .i64 1024)) fun v20n8 =>
 outK [v20n8]
theorem sh_balerref23_Need (lf d : Nat) (a0 : Value) (a1 : Value) (a2 : Value) : evCall2 Tryz.prog gt lf (d + 1) 36 #[a0, a1, a2] = inside (b_balerref23_Need lf d a0 a1 a2) := by kernel_rfl

noncomputable def b_bits_NewWriter (lf d : Nat) : M Value :=
 (inside (evBuild Tryz.prog 135 [])).bind fun v1n1 =>
 (inside (evBox Tryz.prog 135 v1n1)).bind fun v2n2 =>
 outK [v2n2]
theorem sh_bits_NewWriter (lf d : Nat) : evCall2 Tryz.prog gt lf (d + 1) 53 #[] = inside (b_bits_NewWriter lf d) := by kernel_rfl

noncomputable def lpA_bits_Writer_Pad (lf d fu : Nat) (k : Ex → Fr → M Value) (x0 : Value) : M Value := loopK (fun s1 k1 => codeK Tryz.prog (evCall2 Tryz.prog gt lf d) (gt 56) lf (codeAt (bodyOf Tryz.prog 56) [false, false]) s1 k1) [0] fu [(0, x0)] k
noncomputable def kcA_bits_Writer_Pad (lf d : Nat) : Ex → Fr → M Value := contAt Tryz.prog (evCall2 Tryz.prog gt lf d) (gt 56) lf (bodyOf Tryz.prog 56) [false] (endK Tryz.prog (resOf Tryz.prog 56))
noncomputable def b_bits_Writer_Take (lf d : Nat) (a0 : Value) : M Value :=
 optK (bin2 Tryz.prog .eql 71 a0 (Value.pointer none)) fun v5n1 =>
 ifV v5n1 (
 outK [(Value.string { data := #[] })]) (
 optK (nil2 a0) fun v7n2 =>
 optK (evFieldAddr Tryz.prog 135 v7n2 0) fun v8n3 =>
 (inside (evLoad Tryz.prog 133 v8n3)).bind fun v9n4 =>
 conv2 Tryz.prog 133 9 v9n4 fun v10n5 =>
 optK (nil2 a0) fun v12n6 =>
 optK (evFieldAddr Tryz.prog 135 v12n6 0) fun v13n7 =>
 (inside (evStore Tryz.prog 133 v13n7 (Value.slice none 0 0))).bind fun u8 =>
 outK [v10n5])
theorem sh_bits_Writer_Take (lf d : Nat) (a0 : Value) : evCall2 Tryz.prog gt lf (d + 1) 57 #[a0] = inside (b_bits_Writer_Take lf d a0) := by kernel_rfl

noncomputable def b_stream_Most (lf d : Nat) (a0 : Value) : M Value :=
 optK (bin2 Tryz.prog .lss 3 a0 (Value.int .i64 5)) fun v4n1 =>
 ifV v4n1 (
 outK [(Value.int .i64 0)]) (
 optK (bin2 Tryz.prog .gtr 3 a0 (Value.int .i64 900000)) fun v7n2 =>
 ifV v7n2 (
 outK [(Value.int .i64 0)]) (
 optK (bin2 Tryz.prog .mul 3 (Value.int .i64 3) a0) fun v10n3 =>
 optK (bin2 Tryz.prog .add 3 (Value.int .i64 12000) v10n3) fun v11n4 =>
 outK [v11n4]))
theorem sh_stream_Most (lf d : Nat) (a0 : Value) : evCall2 Tryz.prog gt lf (d + 1) 60 #[a0] = inside (b_stream_Most lf d a0) := by kernel_rfl

noncomputable def lpA_bits_Writer_Put (lf d fu : Nat) (k : Ex → Fr → M Value) (x0 : Value) (x1 : Value) (x2 : Value) (x6 : Value) (x8 : Value) (x11 : Value) (x16 : Value) (x17 : Value) : M Value := loopK (fun s1 k1 => codeK Tryz.prog (evCall2 Tryz.prog gt lf d) (gt 65) lf (codeAt (bodyOf Tryz.prog 65) [true, true, false, true, false, false]) s1 k1) [0, 1, 2, 6, 8, 11, 16, 17] fu [(0, x0), (1, x1), (2, x2), (6, x6), (8, x8), (11, x11), (16, x16), (17, x17)] k
noncomputable def kcA_bits_Writer_Put (lf d : Nat) : Ex → Fr → M Value := contAt Tryz.prog (evCall2 Tryz.prog gt lf d) (gt 65) lf (bodyOf Tryz.prog 65) [true, true, false, true, false] (endK Tryz.prog (resOf Tryz.prog 65))
noncomputable def b_bits_Writer_Put (lf d : Nat) (a0 : Value) (a1 : Value) (a2 : Value) : M Value :=
 optK (bin2 Tryz.prog .eql 71 a0 (Value.pointer none)) fun v10n1 =>
 ifV v10n1 (
 outK [(Value.int .i64 7)]) (
 (inside (evCall2 Tryz.prog gt lf d 110 #[a1, a2])).bind fun v14n2 =>
 optK (un2 Tryz.prog .not v14n2) fun v15n3 =>
 ifV v15n3 (
 outK [(Value.int .i64 1)]) (
 lpA_bits_Writer_Put lf d lf (kcA_bits_Writer_Put lf d) a0 a1 a2 (Value.int .i64 0) v10n1 v15n3 a2 (Value.int .i64 0)))
theorem sh_bits_Writer_Put (lf d : Nat) (a0 : Value) (a1 : Value) (a2 : Value) : evCall2 Tryz.prog gt lf (d + 1) 65 #[a0, a1, a2] = inside (b_bits_Writer_Put lf d a0 a1 a2) := by kernel_rfl
theorem succA_bits_Writer_Put (lf d fu : Nat) (k : Ex → Fr → M Value) (x0 : Value) (x1 : Value) (x2 : Value) (x6 : Value) (x8 : Value) (x11 : Value) (x16 : Value) (x17 : Value) : lpA_bits_Writer_Put lf d (fu + 1) k x0 x1 x2 x6 x8 x11 x16 x17 =
  optK (bin2 Tryz.prog .lss 3 x17 x16) fun v18n4 =>
  ifV v18n4 (
    optK (bin2 Tryz.prog .sub 3 x2 (Value.int .i64 1)) fun v23n5 =>
    optK (bin2 Tryz.prog .sub 3 v23n5 x17) fun v25n6 =>
    optK (bin2 Tryz.prog .shr 38 x1 v25n6) fun v26n7 =>
    optK (bin2 Tryz.prog .and 38 v26n7 (Value.int .u32 1)) fun v27n8 =>
    conv2 Tryz.prog 38 5 v27n8 fun v28n9 =>
    (inside (evCall2 Tryz.prog gt lf d 100 #[x0, v28n9])).bind fun v29n10 =>
    optK (bin2 Tryz.prog .add 3 x17 (Value.int .i64 1)) fun v30n11 =>
    lpA_bits_Writer_Put lf d fu k x0 x1 x2 x6 x8 x11 x16 v30n11) (
    k (Ex.exit 1) [(0, x0), (1, x1), (2, x2), (6, x6), (8, x8), (11, x11), (16, x16), (17, x17), (18, v18n4)]) := by kernel_rfl
theorem kcAa_bits_Writer_Put (lf d : Nat) (y0 : Value) (y1 : Value) (y2 : Value) (y6 : Value) (y8 : Value) (y11 : Value) (y16 : Value) (y17 : Value) (y18 : Value) : kcA_bits_Writer_Put lf d (Ex.exit 1) [(0, y0), (1, y1), (2, y2), (6, y6), (8, y8), (11, y11), (16, y16), (17, y17), (18, y18)] =
  outK [(Value.int .i64 0)] := by kernel_rfl

noncomputable def b_balerref23_May (lf d : Nat) (a0 : Value) (a1 : Value) (a2 : Value) : M Value :=
 (inside (evCall2 Tryz.prog gt lf d 111 #[a0])).bind fun v8n1 =>
 ifV v8n1 (
 (inside (evCall2 Tryz.prog gt lf d 112 #[a1])).bind fun v11n2 =>
 ifV v11n2 (
 optK (bin2 Tryz.prog .geq 3 a2 (Value.int .i64 64)) fun v15n3 =>
 ifV v15n3 (
 optK (bin2 Tryz.prog .leq 3 a2 (Value.int .i64 1048576)) fun v19n4 =>
 outK [v19n4]) (
 outK [(Value.bool false)])) (
 outK [(Value.bool false)])) (
 outK [(Value.bool false)])
theorem sh_balerref23_May (lf d : Nat) (a0 : Value) (a1 : Value) (a2 : Value) : evCall2 Tryz.prog gt lf (d + 1) 67 #[a0, a1, a2] = inside (b_balerref23_May lf d a0 a1 a2) := by kernel_rfl

noncomputable def b_split_Room (lf d : Nat) (a0 : Value) (a1 : Value) : M Value :=
 optK (bin2 Tryz.prog .lss 3 a0 (Value.int .i64 1)) fun v7n1 =>
 ifV v7n1 (
 outK [(Value.int .i64 0), (Value.int .i64 1)]) (
 optK (bin2 Tryz.prog .gtr 3 a0 (Value.int .i64 9)) fun v10n2 =>
 ifV v10n2 (
 outK [(Value.int .i64 0), (Value.int .i64 1)]) (
 optK (bin2 Tryz.prog .lss 3 a1 (Value.int .i64 24)) fun v14n3 =>
 ifV v14n3 (
 outK [(Value.int .i64 0), (Value.int .i64 1)]) (
 optK (bin2 Tryz.prog .gtr 3 a1 (Value.int .i64 100000)) fun v18n4 =>
 ifV v18n4 (
 outK [(Value.int .i64 0), (Value.int .i64 1)]) (
 optK (bin2 Tryz.prog .mul 3 a0 a1) fun v22n5 =>
 optK (bin2 Tryz.prog .sub 3 v22n5 (Value.int .i64 19)) fun v23n6 =>
 outK [v23n6, (Value.int .i64 0)]))))
theorem sh_split_Room (lf d : Nat) (a0 : Value) (a1 : Value) : evCall2 Tryz.prog gt lf (d + 1) 69 #[a0, a1] = inside (b_split_Room lf d a0 a1) := by kernel_rfl

noncomputable def b_press_windowed (lf d : Nat) (a0 : Value) : M Value :=
 optK (bin2 Tryz.prog .geq 3 a0 (Value.int .i64 64)) fun v4n1 =>
 ifV v4n1 (
 optK (bin2 Tryz.prog .leq 3 a0 (Value.int .i64 1048576)) fun v7n2 =>
 outK [v7n2]) (
 outK [(Value.bool false)])
theorem sh_press_windowed (lf d : Nat) (a0 : Value) : evCall2 Tryz.prog gt lf (d + 1) 70 #[a0] = inside (b_press_windowed lf d a0) := by kernel_rfl

noncomputable def b_split_New (lf d : Nat) (a0 : Value) : M Value :=
 optK (bin2 Tryz.prog .lss 3 a0 (Value.int .i64 5)) fun v5n1 =>
 ifV v5n1 (
 outK [(Value.pointer none), (Value.int .i64 1)]) (
 optK (bin2 Tryz.prog .gtr 3 a0 (Value.int .i64 900000)) fun v8n2 =>
 ifV v8n2 (
 outK [(Value.pointer none), (Value.int .i64 1)]) (
 (inside (evCall2 Tryz.prog gt lf d 119 #[])).bind fun v10n3 =>
 (inside (evBuild Tryz.prog 160 [(1, v10n3)])).bind fun v11n4 =>
 (inside (evCall2 Tryz.prog gt lf d 120 #[])).bind fun v13n5 =>
 (inside (evBuild Tryz.prog 164 [(0, v11n4), (1, a0), (2, v13n5)])).bind fun v14n6 =>
 (inside (evBox Tryz.prog 164 v14n6)).bind fun v15n7 =>
 outK [v15n7, (Value.int .i64 0)]))
theorem sh_split_New (lf d : Nat) (a0 : Value) : evCall2 Tryz.prog gt lf (d + 1) 71 #[a0] = inside (b_split_New lf d a0) := by kernel_rfl

noncomputable def lpA_stream_New (lf d fu : Nat) (k : Ex → Fr → M Value) (x0 : Value) (x2 : Value) (x3 : Value) (x4 : Value) (x11 : Value) (x15 : Value) : M Value := loopK (fun s1 k1 => codeK Tryz.prog (evCall2 Tryz.prog gt lf d) (gt 72) lf (codeAt (bodyOf Tryz.prog 72) [true, true, true, false, true, false, false]) s1 k1) [0, 2, 3, 4, 11, 15] fu [(0, x0), (2, x2), (3, x3), (4, x4), (11, x11), (15, x15)] k
noncomputable def kcA_stream_New (lf d : Nat) : Ex → Fr → M Value := contAt Tryz.prog (evCall2 Tryz.prog gt lf d) (gt 72) lf (bodyOf Tryz.prog 72) [true, true, true, false, true, false] (endK Tryz.prog (resOf Tryz.prog 72))
noncomputable def b_stream_New (lf d : Nat) (a0 : Value) : M Value :=
 optK (bin2 Tryz.prog .lss 3 a0 (Value.int .i64 1)) fun v7n1 =>
 ifV v7n1 (
 outK [(Value.pointer none), (Value.int .i64 1)]) (
 optK (bin2 Tryz.prog .gtr 3 a0 (Value.int .i64 9)) fun v10n2 =>
 ifV v10n2 (
 outK [(Value.pointer none), (Value.int .i64 1)]) (
 (inside (evCall2 Tryz.prog gt lf d 53 #[])).bind fun v12n3 =>
 (inside (evBuild Tryz.prog 89 [(0, v12n3)])).bind fun v13n4 =>
 (inside (evBox Tryz.prog 89 v13n4)).bind fun v14n5 =>
 lpA_stream_New lf d lf (kcA_stream_New lf d) a0 (Value.pointer none) (Value.int .i64 0) v14n5 v10n2 (Value.int .i64 0)))
theorem sh_stream_New (lf d : Nat) (a0 : Value) : evCall2 Tryz.prog gt lf (d + 1) 72 #[a0] = inside (b_stream_New lf d a0) := by kernel_rfl
theorem succA_stream_New (lf d fu : Nat) (k : Ex → Fr → M Value) (x0 : Value) (x2 : Value) (x3 : Value) (x4 : Value) (x11 : Value) (x15 : Value) : lpA_stream_New lf d (fu + 1) k x0 x2 x3 x4 x11 x15 =
  optK (bin2 Tryz.prog .lss 3 x15 (Value.int .i64 3)) fun v16n6 =>
  ifV v16n6 (
    optK (nil2 x4) fun v19n7 =>
    optK (evFieldAddr Tryz.prog 89 v19n7 0) fun v20n8 =>
    (timed (
      (inside (evLoad Tryz.prog 71 v20n8)).bind fun v21n10 => M.ret v21n10)).bind fun vtn9 =>
    optK (index2 Tryz.prog 9 (Value.string { data := #[66, 90, 104] }) x15) fun v23n11 =>
    (timed (
      conv2 Tryz.prog 5 38 v23n11 fun v24n13 => M.ret v24n13)).bind fun vtn12 =>
    (timed (
      (inside (evCall2 Tryz.prog gt lf d 65 #[vtn9.1, vtn12.1, (Value.int .i64 8)])).bind fun v25n15 => M.ret v25n15)).bind fun vtn14 =>
    chkT ((!(Tk.clash vtn9.2 vtn12.2) && true) && true) (
      optK (bin2 Tryz.prog .add 3 x15 (Value.int .i64 1)) fun v26n16 =>
      lpA_stream_New lf d fu k x0 x2 x3 x4 x11 v26n16)) (
    k (Ex.exit 0) [(0, x0), (2, x2), (3, x3), (4, x4), (11, x11), (15, x15), (16, v16n6)]) := by kernel_rfl
theorem kcAa_stream_New (lf d : Nat) (y0 : Value) (y2 : Value) (y3 : Value) (y4 : Value) (y11 : Value) (y15 : Value) (y16 : Value) : kcA_stream_New lf d (Ex.exit 0) [(0, y0), (2, y2), (3, y3), (4, y4), (11, y11), (15, y15), (16, y16)] =
  optK (nil2 y4) fun v28n17 =>
  optK (evFieldAddr Tryz.prog 89 v28n17 0) fun v29n18 =>
  (inside (evLoad Tryz.prog 71 v29n18)).bind fun v30n19 =>
  optK (bin2 Tryz.prog .add 3 (Value.int .i64 48) y0) fun v32n20 =>
  conv2 Tryz.prog 3 38 v32n20 fun v33n21 =>
  (inside (evCall2 Tryz.prog gt lf d 65 #[v30n19, v33n21, (Value.int .i64 8)])).bind fun v34n22 =>
  outK [y4, (Value.int .i64 0)] := by kernel_rfl

noncomputable def b_split_Splitter_Held (lf d : Nat) (a0 : Value) : M Value :=
 optK (bin2 Tryz.prog .eql 101 a0 (Value.pointer none)) fun v4n1 =>
 ifV v4n1 (
 outK [(Value.int .i64 0)]) (
 optK (nil2 a0) fun v6n2 =>
 optK (evFieldAddr Tryz.prog 164 v6n2 0) fun v7n3 =>
 optK (evFieldAddr Tryz.prog 160 v7n3 0) fun v8n4 =>
 (timed (
 (inside (evLoad Tryz.prog 133 v8n4)).bind fun v9n6 => M.ret v9n6)).bind fun vtn5 =>
 optK (len2 Tryz.prog #[133] [vtn5.1]) fun v10n7 =>
 optK (nil2 a0) fun v12n8 =>
 optK (evFieldAddr Tryz.prog 164 v12n8 2) fun v13n9 =>
 (timed (
 (inside (evLoad Tryz.prog 161 v13n9)).bind fun v14n11 => M.ret v14n11)).bind fun vtn10 =>
 (timed (
 (inside (evCall2 Tryz.prog gt lf d 121 #[vtn10.1])).bind fun v15n13 => M.ret v15n13)).bind fun vtn12 =>
 optK (evField Tryz.prog 166 vtn12.1 1) fun v16n14 =>
 optK (min2 [v16n14, (Value.int .i64 1)]) fun v17n15 =>
 optK (bin2 Tryz.prog .add 3 v10n7 v17n15) fun v18n16 =>
 chkT ((!(Tk.clash vtn5.2 vtn12.2) && true) && true) (
 outK [v18n16]))
theorem sh_split_Splitter_Held (lf d : Nat) (a0 : Value) : evCall2 Tryz.prog gt lf (d + 1) 73 #[a0] = inside (b_split_Splitter_Held lf d a0) := by kernel_rfl

noncomputable def b_press_Press_writes (lf d : Nat) (a0 : Value) : M Value :=
 (inside (evCall2 Tryz.prog gt lf d 76 #[a0])).bind fun v4n1 =>
 ifV v4n1 (
 optK (nil2 a0) fun v6n2 =>
 optK (evFieldAddr Tryz.prog 109 v6n2 6) fun v7n3 =>
 (inside (evLoad Tryz.prog 107 v7n3)).bind fun v8n4 =>
 optK (bin2 Tryz.prog .neq 107 v8n4 (Value.pointer none)) fun v9n5 =>
 ifV v9n5 (
 optK (nil2 a0) fun v12n6 =>
 optK (evFieldAddr Tryz.prog 109 v12n6 6) fun v13n7 =>
 (inside (evLoad Tryz.prog 107 v13n7)).bind fun v14n8 =>
 (inside (evCall2 Tryz.prog gt lf d 103 #[v14n8])).bind fun v15n9 =>
 ifV v15n9 (
 optK (nil2 a0) fun v19n10 =>
 optK (evFieldAddr Tryz.prog 109 v19n10 7) fun v20n11 =>
 (inside (evLoad Tryz.prog 3 v20n11)).bind fun v21n12 =>
 optK (nil2 a0) fun v23n13 =>
 optK (evFieldAddr Tryz.prog 109 v23n13 5) fun v24n14 =>
 (inside (evLoad Tryz.prog 106 v24n14)).bind fun v25n15 =>
 optK (evIndexAddr Tryz.prog 106 v25n15 (Value.int .i64 0)) fun v26n16 =>
 optK (evFieldAddr Tryz.prog 111 v26n16 0) fun v27n17 =>
 (inside (evLoad Tryz.prog 9 v27n17)).bind fun v28n18 =>
 optK (len2 Tryz.prog #[9] [v28n18]) fun v29n19 =>
 optK (bin2 Tryz.prog .sub 3 v29n19 (Value.int .i64 1)) fun v30n20 =>
 optK (bin2 Tryz.prog .eql 3 v21n12 v30n20) fun v31n21 =>
 outK [v31n21]) (
 outK [(Value.bool false)])) (
 outK [(Value.bool false)])) (
 optK (nil2 a0) fun v34n22 =>
 optK (evFieldAddr Tryz.prog 109 v34n22 4) fun v35n23 =>
 (inside (evLoad Tryz.prog 4 v35n23)).bind fun v36n24 =>
 outK [v36n24])
theorem sh_press_Press_writes (lf d : Nat) (a0 : Value) : evCall2 Tryz.prog gt lf (d + 1) 75 #[a0] = inside (b_press_Press_writes lf d a0) := by kernel_rfl

noncomputable def b_press_Press_whole (lf d : Nat) (a0 : Value) : M Value :=
 optK (nil2 a0) fun v4n1 =>
 optK (evFieldAddr Tryz.prog 109 v4n1 5) fun v5n2 =>
 (inside (evLoad Tryz.prog 106 v5n2)).bind fun v6n3 =>
 optK (len2 Tryz.prog #[106] [v6n3]) fun v7n4 =>
 optK (bin2 Tryz.prog .gtr 3 v7n4 (Value.int .i64 0)) fun v8n5 =>
 outK [v8n5]
theorem sh_press_Press_whole (lf d : Nat) (a0 : Value) : evCall2 Tryz.prog gt lf (d + 1) 76 #[a0] = inside (b_press_Press_whole lf d a0) := by kernel_rfl

noncomputable def b_press_Press_flush (lf d : Nat) (a0 : Value) : M Value :=
 optK (nil2 a0) fun v3n1 =>
 optK (evFieldAddr Tryz.prog 109 v3n1 2) fun v4n2 =>
 (inside (evLoad Tryz.prog 4 v4n2)).bind fun v5n3 =>
 ifV v5n3 (
 optK (nil2 a0) fun v8n4 =>
 optK (evFieldAddr Tryz.prog 109 v8n4 1) fun v9n5 =>
 (inside (evLoad Tryz.prog 9 v9n5)).bind fun v10n6 =>
 optK (bin2 Tryz.prog .eql 9 v10n6 (Value.string { data := #[] })) fun v11n7 =>
 ifV v11n7 (
 optK (nil2 a0) fun v15n8 =>
 optK (evFieldAddr Tryz.prog 109 v15n8 4) fun v16n9 =>
 (inside (evLoad Tryz.prog 4 v16n9)).bind fun v17n10 =>
 optK (un2 Tryz.prog .not v17n10) fun v18n11 =>
 ifV v18n11 (
 optK (nil2 a0) fun v22n12 =>
 optK (evFieldAddr Tryz.prog 109 v22n12 5) fun v23n13 =>
 (timed (
 (inside (evLoad Tryz.prog 106 v23n13)).bind fun v24n15 => M.ret v24n15)).bind fun vtn14 =>
 optK (nil2 a0) fun v26n16 =>
 optK (evFieldAddr Tryz.prog 109 v26n16 3) fun v27n17 =>
 (timed (
 (inside (evLoad Tryz.prog 101 v27n17)).bind fun v28n19 => M.ret v28n19)).bind fun vtn18 =>
 (timed (
 (inside (evCall2 Tryz.prog gt lf d 123 #[vtn18.1])).bind fun v29n21 => M.ret v29n21)).bind fun vtn20 =>
 (timed (
 (inside (evAppend Tryz.prog 106 vtn14.1 vtn20.1)).bind fun v30n23 => M.ret v30n23)).bind fun vtn22 =>
 optK (nil2 a0) fun v31n24 =>
 optK (evFieldAddr Tryz.prog 109 v31n24 5) fun v32n25 =>
 (timed (
 (inside (evStore Tryz.prog 106 v32n25 vtn22.1)).bind fun u27 => M.ret u27)).bind fun vtn26 =>
 chkT ((!(Tk.clash vtn14.2 vtn20.2) && true) && true) (
 optK (nil2 a0) fun v34n28 =>
 optK (evFieldAddr Tryz.prog 109 v34n28 4) fun v35n29 =>
 (inside (evStore Tryz.prog 4 v35n29 (Value.bool true))).bind fun u30 =>
 outK [])) (
 outK [])) (
 outK [])) (
 outK [])
theorem sh_press_Press_flush (lf d : Nat) (a0 : Value) : evCall2 Tryz.prog gt lf (d + 1) 77 #[a0] = inside (b_press_Press_flush lf d a0) := by kernel_rfl

noncomputable def b_bits_Writer_bit (lf d : Nat) (a0 : Value) (a1 : Value) : M Value :=
 optK (nil2 a0) fun v6n1 =>
 optK (evFieldAddr Tryz.prog 135 v6n1 2) fun v7n2 =>
 (inside (evLoad Tryz.prog 3 v7n2)).bind fun v8n3 =>
 optK (bin2 Tryz.prog .rem 3 v8n3 (Value.int .i64 8)) fun v9n4 =>
 optK (nil2 a0) fun v11n5 =>
 optK (evFieldAddr Tryz.prog 135 v11n5 1) fun v12n6 =>
 (inside (evLoad Tryz.prog 5 v12n6)).bind fun v13n7 =>
 optK (bin2 Tryz.prog .sub 3 (Value.int .i64 7) v9n4) fun v16n8 =>
 optK (bin2 Tryz.prog .shl 5 a1 v16n8) fun v17n9 =>
 optK (bin2 Tryz.prog .or 5 v13n7 v17n9) fun v18n10 =>
 optK (nil2 a0) fun v19n11 =>
 optK (evFieldAddr Tryz.prog 135 v19n11 1) fun v20n12 =>
 (inside (evStore Tryz.prog 5 v20n12 v18n10)).bind fun u13 =>
 optK (nil2 a0) fun v22n14 =>
 optK (evFieldAddr Tryz.prog 135 v22n14 2) fun v23n15 =>
 (inside (evLoad Tryz.prog 3 v23n15)).bind fun v24n16 =>
 optK (bin2 Tryz.prog .add 3 v24n16 (Value.int .i64 1)) fun v25n17 =>
 optK (nil2 a0) fun v26n18 =>
 optK (evFieldAddr Tryz.prog 135 v26n18 2) fun v27n19 =>
 (inside (evStore Tryz.prog 3 v27n19 v25n17)).bind fun u20 =>
 optK (bin2 Tryz.prog .eql 3 v9n4 (Value.int .i64 7)) fun v29n21 =>
 ifV v29n21 (
 optK (nil2 a0) fun v32n22 =>
 optK (evFieldAddr Tryz.prog 135 v32n22 0) fun v33n23 =>
 (inside (evLoad Tryz.prog 133 v33n23)).bind fun v34n24 =>
 optK (nil2 a0) fun v36n25 =>
 optK (evFieldAddr Tryz.prog 135 v36n25 1) fun v37n26 =>
 (inside (evLoad Tryz.prog 5 v37n26)).bind fun v38n27 =>
 (inside (evBuildSlice Tryz.prog 133 1 [(0, v38n27)])).bind fun v39n28 =>
 (inside (evAppend Tryz.prog 133 v34n24 v39n28)).bind fun v40n29 =>
 optK (nil2 a0) fun v41n30 =>
 optK (evFieldAddr Tryz.prog 135 v41n30 0) fun v42n31 =>
 (inside (evStore Tryz.prog 133 v42n31 v40n29)).bind fun u32 =>
 optK (nil2 a0) fun v44n33 =>
 optK (evFieldAddr Tryz.prog 135 v44n33 1) fun v45n34 =>
 (inside (evStore Tryz.prog 5 v45n34 (Value.int .u8 0))).bind fun u35 =>
 outK []) (
 outK [])
theorem sh_bits_Writer_bit (lf d : Nat) (a0 : Value) (a1 : Value) : evCall2 Tryz.prog gt lf (d + 1) 100 #[a0, a1] = inside (b_bits_Writer_bit lf d a0 a1) := by kernel_rfl

noncomputable def b_bits_fits (lf d : Nat) (a0 : Value) (a1 : Value) : M Value :=
 optK (bin2 Tryz.prog .geq 3 a1 (Value.int .i64 0)) fun v6n1 =>
 ifV v6n1 (
 optK (bin2 Tryz.prog .leq 3 a1 (Value.int .i64 32)) fun v9n2 =>
 ifV v9n2 (
 conv2 Tryz.prog 38 93 a0 fun v13n3 =>
 optK (bin2 Tryz.prog .shr 93 v13n3 a1) fun v15n4 =>
 optK (bin2 Tryz.prog .eql 93 v15n4 (Value.int .u64 0)) fun v16n5 =>
 outK [v16n5]) (
 outK [(Value.bool false)])) (
 outK [(Value.bool false)])
theorem sh_bits_fits (lf d : Nat) (a0 : Value) (a1 : Value) : evCall2 Tryz.prog gt lf (d + 1) 110 #[a0, a1] = inside (b_bits_fits lf d a0 a1) := by kernel_rfl

noncomputable def b_balerref21_Level (lf d : Nat) (a0 : Value) : M Value :=
 optK (bin2 Tryz.prog .geq 3 a0 (Value.int .i64 1)) fun v4n1 =>
 ifV v4n1 (
 optK (bin2 Tryz.prog .leq 3 a0 (Value.int .i64 9)) fun v7n2 =>
 outK [v7n2]) (
 outK [(Value.bool false)])
theorem sh_balerref21_Level (lf d : Nat) (a0 : Value) : evCall2 Tryz.prog gt lf (d + 1) 111 #[a0] = inside (b_balerref21_Level lf d a0) := by kernel_rfl

noncomputable def b_balerref21_Unit (lf d : Nat) (a0 : Value) : M Value :=
 optK (bin2 Tryz.prog .geq 3 a0 (Value.int .i64 24)) fun v4n1 =>
 ifV v4n1 (
 optK (bin2 Tryz.prog .leq 3 a0 (Value.int .i64 100000)) fun v7n2 =>
 outK [v7n2]) (
 outK [(Value.bool false)])
theorem sh_balerref21_Unit (lf d : Nat) (a0 : Value) : evCall2 Tryz.prog gt lf (d + 1) 112 #[a0] = inside (b_balerref21_Unit lf d a0) := by kernel_rfl

noncomputable def b_crc_New (lf d : Nat) : M Value :=
 (inside (evCall2 Tryz.prog gt lf d 169 #[])).bind fun v1n1 =>
 (inside (evBuild Tryz.prog 207 [(0, v1n1), (1, (Value.int .u32 4294967295))])).bind fun v2n2 =>
 (inside (evBox Tryz.prog 207 v2n2)).bind fun v3n3 =>
 outK [v3n3]
theorem sh_crc_New (lf d : Nat) : evCall2 Tryz.prog gt lf (d + 1) 119 #[] = inside (b_crc_New lf d) := by kernel_rfl

noncomputable def b_feed_NewPacker (lf d : Nat) : M Value :=
 (inside (evBuild Tryz.prog 209 [])).bind fun v1n1 =>
 (inside (evBox Tryz.prog 209 v1n1)).bind fun v2n2 =>
 outK [v2n2]
theorem sh_feed_NewPacker (lf d : Nat) : evCall2 Tryz.prog gt lf (d + 1) 120 #[] = inside (b_feed_NewPacker lf d) := by kernel_rfl

noncomputable def b_feed_Packer_Row (lf d : Nat) (a0 : Value) : M Value :=
 (inside (evAlloc Tryz.prog 166)).bind fun v2n1 =>
 optK (bin2 Tryz.prog .eql 161 a0 (Value.pointer none)) fun v4n2 =>
 ifV v4n2 (
 (inside (evBuild Tryz.prog 166 [])).bind fun v5n3 =>
 (inside (evStore Tryz.prog 166 v2n1 v5n3)).bind fun u4 =>
 (evLoad Tryz.prog 166 v2n1).bind fun vrn5 =>
 outK [vrn5]) (
 optK (nil2 a0) fun v7n6 =>
 optK (evFieldAddr Tryz.prog 209 v7n6 0) fun v8n7 =>
 (inside (evLoad Tryz.prog 166 v8n7)).bind fun v9n8 =>
 (inside (evStore Tryz.prog 166 v2n1 v9n8)).bind fun u9 =>
 (evLoad Tryz.prog 166 v2n1).bind fun vrn10 =>
 outK [vrn10])
theorem sh_feed_Packer_Row (lf d : Nat) (a0 : Value) : evCall2 Tryz.prog gt lf (d + 1) 121 #[a0] = inside (b_feed_Packer_Row lf d a0) := by kernel_rfl

noncomputable def b_split_Splitter_End (lf d : Nat) (a0 : Value) : M Value :=
 optK (bin2 Tryz.prog .eql 101 a0 (Value.pointer none)) fun v11n1 =>
 ifV v11n1 (
 outK [(Value.slice none 0 0)]) (
 optK (nil2 a0) fun v13n2 =>
 optK (evFieldAddr Tryz.prog 164 v13n2 2) fun v14n3 =>
 (inside (evLoad Tryz.prog 161 v14n3)).bind fun v15n4 =>
 (inside (evCall2 Tryz.prog gt lf d 121 #[v15n4])).bind fun v16n5 =>
 (inside (evAlloc Tryz.prog 166)).bind fun v4n6 =>
 (inside (evStore Tryz.prog 166 v4n6 v16n5)).bind fun u7 =>
 optK (nil2 a0) fun v18n8 =>
 optK (evFieldAddr Tryz.prog 164 v18n8 2) fun v19n9 =>
 (inside (evLoad Tryz.prog 161 v19n9)).bind fun v20n10 =>
 (inside (evCall2 Tryz.prog gt lf d 170 #[v20n10])).bind fun v21n11 =>
 optK (bin2 Tryz.prog .neq 9 v21n11 (Value.string { data := #[] })) fun v23n12 =>
 ifV v23n12 (
 (inside (evLoad Tryz.prog 166 v4n6)).bind fun v26n13 =>
 optK (len2 Tryz.prog #[9] [v21n11]) fun v28n14 =>
 (inside (evCall2 Tryz.prog gt lf d 171 #[a0, v26n13, v28n14])).bind fun v29n15 =>
 optK (evExtract v29n15 0) fun v30n16 =>
 optK (evExtract v29n15 1) fun v31n17 =>
 (inside (evAlloc Tryz.prog 111)).bind fun v6n18 =>
 (inside (evStore Tryz.prog 111 v6n18 v30n16)).bind fun u19 =>
 ifV v31n17 (
 (inside (evLoad Tryz.prog 111 v6n18)).bind fun v34n20 =>
 (inside (evBuildSlice Tryz.prog 106 1 [(0, v34n20)])).bind fun v35n21 =>
 (inside (evAppend Tryz.prog 106 (Value.slice none 0 0) v35n21)).bind fun v36n22 =>
 optK (nil2 a0) fun v39n23 =>
 optK (evFieldAddr Tryz.prog 164 v39n23 0) fun v40n24 =>
 (inside (evCall2 Tryz.prog gt lf d 172 #[v40n24])).bind fun v41n25 =>
 optK (evExtract v41n25 0) fun v42n26 =>
 optK (evExtract v41n25 1) fun v43n27 =>
 (inside (evAlloc Tryz.prog 111)).bind fun v8n28 =>
 (inside (evStore Tryz.prog 111 v8n28 v42n26)).bind fun u29 =>
 ifV v43n27 (
 (inside (evLoad Tryz.prog 111 v8n28)).bind fun v46n30 =>
 (inside (evBuildSlice Tryz.prog 106 1 [(0, v46n30)])).bind fun v47n31 =>
 (inside (evAppend Tryz.prog 106 v36n22 v47n31)).bind fun v48n32 =>
 outK [v48n32]) (
 outK [v36n22])) (
 optK (nil2 a0) fun v39n33 =>
 optK (evFieldAddr Tryz.prog 164 v39n33 0) fun v40n34 =>
 (inside (evCall2 Tryz.prog gt lf d 172 #[v40n34])).bind fun v41n35 =>
 optK (evExtract v41n35 0) fun v42n36 =>
 optK (evExtract v41n35 1) fun v43n37 =>
 (inside (evAlloc Tryz.prog 111)).bind fun v8n38 =>
 (inside (evStore Tryz.prog 111 v8n38 v42n36)).bind fun u39 =>
 ifV v43n37 (
 (inside (evLoad Tryz.prog 111 v8n38)).bind fun v46n40 =>
 (inside (evBuildSlice Tryz.prog 106 1 [(0, v46n40)])).bind fun v47n41 =>
 (inside (evAppend Tryz.prog 106 (Value.slice none 0 0) v47n41)).bind fun v48n42 =>
 outK [v48n42]) (
 outK [(Value.slice none 0 0)]))) (
 optK (nil2 a0) fun v39n43 =>
 optK (evFieldAddr Tryz.prog 164 v39n43 0) fun v40n44 =>
 (inside (evCall2 Tryz.prog gt lf d 172 #[v40n44])).bind fun v41n45 =>
 optK (evExtract v41n45 0) fun v42n46 =>
 optK (evExtract v41n45 1) fun v43n47 =>
 (inside (evAlloc Tryz.prog 111)).bind fun v8n48 =>
 (inside (evStore Tryz.prog 111 v8n48 v42n46)).bind fun u49 =>
 ifV v43n47 (
 (inside (evLoad Tryz.prog 111 v8n48)).bind fun v46n50 =>
 (inside (evBuildSlice Tryz.prog 106 1 [(0, v46n50)])).bind fun v47n51 =>
 (inside (evAppend Tryz.prog 106 (Value.slice none 0 0) v47n51)).bind fun v48n52 =>
 outK [v48n52]) (
 outK [(Value.slice none 0 0)])))
theorem sh_split_Splitter_End (lf d : Nat) (a0 : Value) : evCall2 Tryz.prog gt lf (d + 1) 123 #[a0] = inside (b_split_Splitter_End lf d a0) := by kernel_rfl

noncomputable def lpA_crc_Table (lf d fu : Nat) (k : Ex → Fr → M Value) (x0 : Value) (x1 : Value) (x5 : Value) : M Value := loopK (fun s1 k1 => codeK Tryz.prog (evCall2 Tryz.prog gt lf d) (gt 169) lf (codeAt (bodyOf Tryz.prog 169) [true, true, false, true, false, false]) s1 k1) [0, 1, 5] fu [(0, x0), (1, x1), (5, x5)] k
noncomputable def kcA_crc_Table (lf d : Nat) : Ex → Fr → M Value := contAt Tryz.prog (evCall2 Tryz.prog gt lf d) (gt 169) lf (bodyOf Tryz.prog 169) [true, true, false, true, false] (endK Tryz.prog (resOf Tryz.prog 169))
noncomputable def lpB_crc_Table (lf d fu : Nat) (k : Ex → Fr → M Value) (x0 : Value) (x1 : Value) (x2 : Value) (x3 : Value) (x5 : Value) (x6 : Value) (x11 : Value) : M Value := loopK (fun s1 k1 => codeK Tryz.prog (evCall2 Tryz.prog gt lf d) (gt 169) lf (codeAt (bodyOf Tryz.prog 169) [true, true, false, true, false, false, true, true, false, false, true, true, false, true, false, false]) s1 k1) [0, 1, 2, 3, 5, 6, 11] fu [(0, x0), (1, x1), (2, x2), (3, x3), (5, x5), (6, x6), (11, x11)] k
noncomputable def kcB_crc_Table (lf d fu : Nat) (k : Ex → Fr → M Value) : Ex → Fr → M Value := contAt Tryz.prog (evCall2 Tryz.prog gt lf d) (gt 169) lf (codeAt (bodyOf Tryz.prog 169) [true, true, false, true, false, false]) [true, true, false, false, true, true, false, true, false] (againK (fun s1 => loopK (fun s1 k1 => codeK Tryz.prog (evCall2 Tryz.prog gt lf d) (gt 169) lf (codeAt (bodyOf Tryz.prog 169) [true, true, false, true, false, false]) s1 k1) [0, 1, 5] fu (s1.keep [0, 1, 5]) k) k)
noncomputable def b_crc_Table (lf d : Nat) : M Value :=
 (inside (evAlloc Tryz.prog 204)).bind fun v0n1 =>
 (inside (evAlloc Tryz.prog 204)).bind fun v1n2 =>
 lpA_crc_Table lf d lf (kcA_crc_Table lf d) v0n1 v1n2 (Value.int .i64 0)
theorem sh_crc_Table (lf d : Nat) : evCall2 Tryz.prog gt lf (d + 1) 169 #[] = inside (b_crc_Table lf d) := by kernel_rfl
theorem succA_crc_Table (lf d fu : Nat) (k : Ex → Fr → M Value) (x0 : Value) (x1 : Value) (x5 : Value) : lpA_crc_Table lf d (fu + 1) k x0 x1 x5 =
  optK (bin2 Tryz.prog .lss 3 x5 (Value.int .i64 256)) fun v6n3 =>
  ifV v6n3 (
    conv2 Tryz.prog 3 38 x5 fun v9n4 =>
    optK (bin2 Tryz.prog .shl 38 v9n4 (Value.int .u64 24)) fun v10n5 =>
    lpB_crc_Table lf d lf (kcB_crc_Table lf d fu k) x0 x1 x5 v10n5 x5 v6n3 (Value.int .i64 0)) (
    k (Ex.exit 0) [(0, x0), (1, x1), (5, x5), (6, v6n3)]) := by kernel_rfl
theorem kcAa_crc_Table (lf d : Nat) (y0 : Value) (y1 : Value) (y5 : Value) (y6 : Value) : kcA_crc_Table lf d (Ex.exit 0) [(0, y0), (1, y1), (5, y5), (6, y6)] =
  (inside (evLoad Tryz.prog 204 y1)).bind fun v25n6 =>
  (inside (evStore Tryz.prog 204 y0 v25n6)).bind fun u7 =>
  (evLoad Tryz.prog 204 y0).bind fun vrn8 =>
  outK [vrn8] := by kernel_rfl
theorem succB_crc_Table (lf d fu : Nat) (k : Ex → Fr → M Value) (x0 : Value) (x1 : Value) (x2 : Value) (x3 : Value) (x5 : Value) (x6 : Value) (x11 : Value) : lpB_crc_Table lf d (fu + 1) k x0 x1 x2 x3 x5 x6 x11 =
  optK (bin2 Tryz.prog .lss 3 x11 (Value.int .i64 8)) fun v12n9 =>
  ifV v12n9 (
    optK (bin2 Tryz.prog .shr 38 x3 (Value.int .u64 31)) fun v14n10 =>
    optK (bin2 Tryz.prog .shl 38 x3 (Value.int .u64 1)) fun v16n11 =>
    optK (bin2 Tryz.prog .mul 38 v14n10 (Value.int .u32 79764919)) fun v18n12 =>
    optK (bin2 Tryz.prog .xor 38 v16n11 v18n12) fun v19n13 =>
    optK (bin2 Tryz.prog .add 3 x11 (Value.int .i64 1)) fun v20n14 =>
    lpB_crc_Table lf d fu k x0 x1 x2 v19n13 x5 x6 v20n14) (
    k (Ex.exit 2) [(0, x0), (1, x1), (2, x2), (3, x3), (5, x5), (6, x6), (11, x11), (12, v12n9)]) := by kernel_rfl
theorem kcBa_crc_Table (lf d fu : Nat) (k : Ex → Fr → M Value) (y0 : Value) (y1 : Value) (y2 : Value) (y3 : Value) (y5 : Value) (y6 : Value) (y11 : Value) (y12 : Value) : kcB_crc_Table lf d fu k (Ex.exit 2) [(0, y0), (1, y1), (2, y2), (3, y3), (5, y5), (6, y6), (11, y11), (12, y12)] =
  optK (evIndexAddr Tryz.prog 204 y1 y2) fun v23n15 =>
  (inside (evStore Tryz.prog 38 v23n15 y3)).bind fun u16 =>
  optK (bin2 Tryz.prog .add 3 y5 (Value.int .i64 1)) fun v24n17 =>
  lpA_crc_Table lf d fu k y0 y1 v24n17 := by kernel_rfl

noncomputable def b_feed_Packer_End (lf d : Nat) (a0 : Value) : M Value :=
 optK (bin2 Tryz.prog .eql 161 a0 (Value.pointer none)) fun v4n1 =>
 ifV v4n1 (
 outK [(Value.string { data := #[] })]) (
 (inside (evCall2 Tryz.prog gt lf d 202 #[a0])).bind fun v6n2 =>
 outK [v6n2])
theorem sh_feed_Packer_End (lf d : Nat) (a0 : Value) : evCall2 Tryz.prog gt lf (d + 1) 170 #[a0] = inside (b_feed_Packer_End lf d a0) := by kernel_rfl

noncomputable def b_split_begun_close (lf d : Nat) (a0 : Value) : M Value :=
 (inside (evAlloc Tryz.prog 111)).bind fun v2n1 =>
 optK (nil2 a0) fun v6n2 =>
 optK (evFieldAddr Tryz.prog 160 v6n2 0) fun v7n3 =>
 (inside (evLoad Tryz.prog 133 v7n3)).bind fun v8n4 =>
 optK (len2 Tryz.prog #[133] [v8n4]) fun v9n5 =>
 optK (bin2 Tryz.prog .eql 3 v9n5 (Value.int .i64 0)) fun v10n6 =>
 ifV v10n6 (
 (inside (evBuild Tryz.prog 111 [])).bind fun v11n7 =>
 (inside (evStore Tryz.prog 111 v2n1 v11n7)).bind fun u8 =>
 (evLoad Tryz.prog 111 v2n1).bind fun vrn9 =>
 outK [vrn9, (Value.bool false)]) (
 optK (nil2 a0) fun v13n10 =>
 optK (evFieldAddr Tryz.prog 160 v13n10 0) fun v14n11 =>
 (timed (
 (inside (evLoad Tryz.prog 133 v14n11)).bind fun v15n13 => M.ret v15n13)).bind fun vtn12 =>
 (timed (
 conv2 Tryz.prog 133 9 vtn12.1 fun v16n15 => M.ret v16n15)).bind fun vtn14 =>
 optK (nil2 a0) fun v18n16 =>
 optK (evFieldAddr Tryz.prog 160 v18n16 1) fun v19n17 =>
 (timed (
 (inside (evLoad Tryz.prog 157 v19n17)).bind fun v20n19 => M.ret v20n19)).bind fun vtn18 =>
 (timed (
 (inside (evCall2 Tryz.prog gt lf d 204 #[vtn18.1])).bind fun v21n21 => M.ret v21n21)).bind fun vtn20 =>
 optK (nil2 a0) fun v23n22 =>
 optK (evFieldAddr Tryz.prog 160 v23n22 2) fun v24n23 =>
 (timed (
 (inside (evLoad Tryz.prog 3 v24n23)).bind fun v25n25 => M.ret v25n25)).bind fun vtn24 =>
 (inside (evBuild Tryz.prog 111 [(0, vtn14.1), (1, vtn20.1), (2, vtn24.1)])).bind fun v26n26 =>
 (timed (
 (inside (evAlloc Tryz.prog 111)).bind fun v4n28 => M.ret v4n28)).bind fun vtn27 =>
 (timed (
 (inside (evStore Tryz.prog 111 vtn27.1 v26n26)).bind fun u30 => M.ret u30)).bind fun vtn29 =>
 chkT ((!(Tk.clash vtn12.2 vtn20.2) && true) && ((!(Tk.clash vtn14.2 vtn18.2) && (!(Tk.clash vtn14.2 vtn20.2) && (!(Tk.clash vtn14.2 vtn24.2) && (!(Tk.clash vtn14.2 vtn27.2) && true)))) && ((!(Tk.clash vtn20.2 vtn24.2) && (!(Tk.clash vtn20.2 vtn27.2) && true)) && true))) (
 optK (nil2 a0) fun v28n31 =>
 optK (evFieldAddr Tryz.prog 160 v28n31 0) fun v29n32 =>
 (inside (evStore Tryz.prog 133 v29n32 (Value.slice none 0 0))).bind fun u33 =>
 optK (nil2 a0) fun v31n34 =>
 optK (evFieldAddr Tryz.prog 160 v31n34 2) fun v32n35 =>
 (inside (evStore Tryz.prog 3 v32n35 (Value.int .i64 0))).bind fun u36 =>
 optK (nil2 a0) fun v34n37 =>
 optK (evFieldAddr Tryz.prog 160 v34n37 1) fun v35n38 =>
 (inside (evLoad Tryz.prog 157 v35n38)).bind fun v36n39 =>
 (inside (evCall2 Tryz.prog gt lf d 205 #[v36n39])).bind fun v37n40 =>
 (inside (evLoad Tryz.prog 111 vtn27.1)).bind fun v38n41 =>
 (inside (evStore Tryz.prog 111 v2n1 v38n41)).bind fun u42 =>
 (evLoad Tryz.prog 111 v2n1).bind fun vrn43 =>
 outK [vrn43, (Value.bool true)]))
theorem sh_split_begun_close (lf d : Nat) (a0 : Value) : evCall2 Tryz.prog gt lf (d + 1) 172 #[a0] = inside (b_split_begun_close lf d a0) := by kernel_rfl

noncomputable def b_feed_Packer_close (lf d : Nat) (a0 : Value) : M Value :=
 optK (nil2 a0) fun v7n1 =>
 optK (evFieldAddr Tryz.prog 209 v7n1 0) fun v8n2 =>
 (inside (evLoad Tryz.prog 166 v8n2)).bind fun v9n3 =>
 (inside (evCall2 Tryz.prog gt lf d 233 #[v9n3])).bind fun v10n4 =>
 optK (evExtract v10n4 0) fun v11n5 =>
 optK (evExtract v10n4 1) fun v12n6 =>
 (inside (evBuild Tryz.prog 166 [])).bind fun v14n7 =>
 optK (nil2 a0) fun v15n8 =>
 optK (evFieldAddr Tryz.prog 209 v15n8 0) fun v16n9 =>
 (inside (evStore Tryz.prog 166 v16n9 v14n7)).bind fun u10 =>
 outK [v11n5]
theorem sh_feed_Packer_close (lf d : Nat) (a0 : Value) : evCall2 Tryz.prog gt lf (d + 1) 202 #[a0] = inside (b_feed_Packer_close lf d a0) := by kernel_rfl

noncomputable def b_rle_Piece (lf d : Nat) (a0 : Value) : M Value :=
 (inside (evBox Tryz.prog 166 a0)).bind fun v1n1 =>
 optK (evFieldAddr Tryz.prog 166 v1n1 1) fun v4n2 =>
 (inside (evLoad Tryz.prog 3 v4n2)).bind fun v5n3 =>
 optK (bin2 Tryz.prog .lss 3 v5n3 (Value.int .i64 1)) fun v6n4 =>
 ifV v6n4 (
 outK [(Value.string { data := #[] }), (Value.int .i64 1)]) (
 optK (evFieldAddr Tryz.prog 166 v1n1 1) fun v8n5 =>
 (inside (evLoad Tryz.prog 3 v8n5)).bind fun v9n6 =>
 optK (bin2 Tryz.prog .gtr 3 v9n6 (Value.int .i64 255)) fun v10n7 =>
 ifV v10n7 (
 outK [(Value.string { data := #[] }), (Value.int .i64 1)]) (
 (inside (evLoad Tryz.prog 166 v1n1)).bind fun v12n8 =>
 (inside (evCall2 Tryz.prog gt lf d 246 #[v12n8])).bind fun v13n9 =>
 outK [v13n9, (Value.int .i64 0)]))
theorem sh_rle_Piece (lf d : Nat) (a0 : Value) : evCall2 Tryz.prog gt lf (d + 1) 233 #[a0] = inside (b_rle_Piece lf d a0) := by kernel_rfl

end Go.Proofs.YthhhkplbjcknkaaGreatDoor

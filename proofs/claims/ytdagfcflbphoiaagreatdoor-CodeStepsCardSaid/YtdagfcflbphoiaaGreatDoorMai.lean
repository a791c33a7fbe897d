import Derived.Test.YtdagfcflbphoiaaGreatDoorRows
import Derived.Test.YtdagfcflbphoiaaGreatDoorMae
namespace Go.Proofs.YtdagfcflbphoiaaGreatDoor
set_option linter.unusedVariables false
set_option linter.unusedSimpArgs false
open Go.RowKit Ev
def gtL : List (List Nat) := [[], [], [], [0, 1, 2, 5, 6, 7, 8, 9, 10, 11, 12, 13, 35, 56], [0, 1, 2, 5, 6, 7, 8, 9, 10, 11, 12, 13, 31, 51], [0, 1, 2, 6, 7, 8, 9, 10, 11, 12, 14, 28, 69], [0, 1, 2, 6, 7, 8, 9, 10, 11, 12, 14, 15, 16, 17, 19, 37, 56, 60, 61, 62, 64, 116, 148, 151, 157, 158, 167, 168], [0, 1, 4, 5, 11, 12, 13, 14], [], [0], [0, 1, 2, 6, 7, 8, 11, 16, 17, 18], [0, 1, 2, 6, 7, 8, 9, 11, 12, 14, 15, 17, 25, 35, 36, 37, 38, 54, 55, 56, 57], [0, 1, 4, 5, 6, 7, 8, 11, 12, 14, 23, 35, 36, 37, 38], [0, 1, 4, 5, 6, 20, 21, 22, 23, 24, 37], [0, 2, 4], [0, 1, 4, 5, 6, 7, 9, 10, 11, 22, 23, 24, 25, 38, 39, 40, 41], [0, 11], [0, 2, 3, 5], [0, 2], [0, 1, 4, 5, 6, 7, 8], [0, 2], [0, 1, 4, 5, 8], [0, 1, 2, 6, 7, 8, 9, 10, 11, 13, 24, 35], [0, 2], [0, 2, 4], [0, 1, 2, 6, 7, 8, 9, 10, 11, 12, 17, 31, 46, 65, 70, 86], [0, 2, 3, 4, 8], [0, 1, 4, 5, 10, 12, 13, 14, 24], [0, 2, 3, 4, 5, 12], [0, 2], [0, 1, 4, 5, 6, 7, 8, 9, 22, 34, 43, 64, 68], [0, 2, 4], [0, 2, 4], [0, 1, 4, 6], [0, 1, 4], [0, 1, 4, 29], [0, 1, 4, 5, 18], [0, 1, 2, 6, 8, 9, 12, 27, 28, 29, 30], [0, 1, 2, 4, 5, 8], [0, 2, 3, 4, 5, 6, 7, 8, 9, 18, 30, 51, 52, 53, 54, 60], [0, 1, 2, 6, 7, 8, 9, 11, 20], [0, 1, 4, 5, 6, 8, 12, 14, 15, 16, 17], [0, 2, 3, 4, 7], [0, 1, 3, 4, 5, 6, 7, 8, 9, 11, 12, 19, 21, 22, 23, 24, 36, 54], [0, 1, 4, 6, 7, 8, 9, 10, 19], [0, 1, 4, 5, 6, 7, 9, 10, 11, 12, 13, 14, 24, 25, 26, 27, 28, 29, 42, 43, 44, 46, 47, 48, 49, 58], [0, 1, 4, 5, 6, 8, 9, 18, 19, 20, 21], [0, 2, 3, 4, 6, 7, 16, 17, 18, 19, 22, 23, 29, 36], [0, 2, 3, 4, 5, 6, 7, 12, 15, 16, 17, 18, 24, 26, 27, 28, 29], [0, 2, 3, 6], [0, 2, 6], [0, 2], [0, 1, 2, 6, 7, 8, 9, 10, 15, 22, 26, 29], [0, 2, 3, 4, 5, 6, 7, 8, 11, 30, 35, 42, 52], [0, 1, 2, 6, 7, 8, 10, 11, 12, 21, 36], [0, 1, 4, 5, 6, 7, 8, 9, 10, 16], [0, 2, 3, 6], [0], [0, 1, 4, 5, 6, 7, 8, 20, 40], [0, 2], [0, 1, 4, 5, 6, 17], [0, 2, 4], [0, 1, 4, 5, 6, 7, 8, 9, 26, 38], [0, 2, 4], [0, 1, 4, 5, 7, 8, 9, 16], [0, 1, 4, 5, 6, 7, 8, 9, 10, 11, 18, 27, 40, 41], [0, 1, 3, 4, 17], [0, 2, 3, 4, 5, 6, 11, 12, 13, 14], [0, 2], [0, 1, 4, 6, 13, 14, 15, 16, 21, 28], [0, 1, 2], [0, 2, 3, 4], [0, 2, 4], [0, 1, 4, 5, 6, 7, 10], [1, 2], [0, 2, 4], [0, 1, 4, 5, 14], [0, 1, 4, 5, 6, 8, 11, 12, 13, 14, 15, 25], [0, 1, 4, 5, 6, 7, 8, 9, 11, 14, 15, 16, 18, 19, 20, 21, 27, 36], [0, 1, 4, 5, 6, 7, 8, 9], [0, 2, 3, 4, 5, 6, 7, 8, 9, 10, 27], [0, 1, 4, 5, 6, 7, 8, 9, 10, 11, 24], [0, 2, 3, 5, 6, 7, 8, 9, 10, 14, 20, 21, 25], [0, 1, 4, 5, 9, 16], [0, 1, 4], [0, 1, 4, 5, 6, 7, 8, 13, 22, 34], [0, 2, 3, 4, 8], [0, 2, 3, 13], [0, 1, 4, 5, 6, 7, 10, 21, 26, 30, 35, 46, 52, 62], [0, 2], [0, 1, 4], [0, 2], [0, 1, 2, 3, 4], [0, 1, 4, 5, 6, 7, 8, 14, 24], [0, 1, 4, 5, 6, 7, 8, 19, 32, 39], [0, 1, 4, 5, 6, 7, 18, 29], [0, 2], [0, 2, 4], [0, 1, 4, 5, 6, 8, 14, 17, 18, 19, 20, 29], [0, 2, 3, 4, 5, 9, 10, 11], [0, 1, 4, 5, 6, 7, 8, 9, 10, 11, 12, 18, 19, 20, 29, 30, 31, 32, 42, 43, 44, 48], [0, 1, 2, 6, 7, 8, 9, 10, 12, 13, 14, 16, 18, 20, 21, 27, 28, 29, 37, 38, 39, 40, 70, 71, 72, 73], [0, 2], [0, 1, 4], [0, 1, 3], [0, 1, 4, 5, 12], [0, 2], [0, 2], [0, 2, 3, 4, 6, 14, 15, 16, 17, 18], [0, 1, 4], [0, 1, 2, 6], [0, 2], [0, 1, 4], [0, 2, 4, 6, 8, 10], [0, 1, 4, 5, 7, 8, 9, 10, 11, 16], [0, 1, 4, 5, 6, 7, 8, 9, 10, 11, 17, 18, 19], [0, 2, 3, 4, 5, 6, 7, 8, 9, 10, 11, 12, 13, 15, 18, 19, 20, 21, 39, 66, 67, 68, 69], [0, 1, 2, 6, 8, 9, 10, 11, 12, 22], [0, 2, 3, 5, 6, 7, 8, 9, 13], [0, 2, 3, 5, 6, 7, 8, 9, 10, 14, 15, 16], [0, 1, 4, 5, 6, 7, 8, 9, 10, 12, 21, 51], [0, 1, 4, 5, 6, 7, 11, 12, 13, 21, 24], [0, 1, 4, 5, 6, 7, 8, 15, 29], [0, 1, 4, 5, 6, 7, 8, 13, 20, 32, 35, 55], [0, 2, 3, 5, 6, 7, 8, 12], [0, 1, 4, 5, 6, 7, 8, 9, 11, 12, 13, 14, 26], [0, 1, 4, 5, 6, 7, 22, 27, 28, 29], [0, 2, 3, 4, 5, 6, 7, 20, 24, 25, 26, 27, 41], [0, 1, 4, 5, 7, 8, 9, 16], [0, 1, 4, 5, 6, 14], [0, 1, 2, 4, 5, 6], [0, 2], [0, 2], [0, 2, 4], [0, 2, 3, 4, 5, 6, 7, 8, 9, 18], [0, 1, 4, 5, 6, 7, 8, 9, 10, 11, 17], [0, 1, 4, 5, 6, 7, 10, 17, 22, 23, 24], [0, 2], [0, 1, 4, 7], [0, 2, 3, 4, 5, 6, 11, 12, 13, 32], [0, 2, 3, 5, 6, 7, 8, 9], [0, 2, 3, 4, 5, 9, 10, 11, 12], [0, 1, 2, 4], [0, 1, 2, 3, 4], [0, 2, 4], [0, 1, 4, 5], [0, 1, 2, 3, 4, 12, 13, 14], [0, 2, 3, 46], [0, 1, 2], [0, 1], [0, 1, 2, 5], [0, 1, 4, 5, 6, 11, 12, 13, 16, 19], [0, 1, 2, 6, 7, 8, 9, 13, 30, 35, 54], [0, 2], [0, 1, 2, 3, 8, 9, 14, 34], [0, 1, 2, 3, 4, 10, 11, 12, 13, 14, 15, 16, 17, 18, 19, 20, 21, 22, 23, 24, 28, 33, 50, 58, 80, 85, 103, 110, 140, 151, 171, 185, 199, 213], [0, 1, 2, 3, 4, 10, 11, 20, 23], [0, 1, 2, 3, 10, 13], [], [], [], [], [], [], [], [], [], [], [], [], [], [], [], [], [], [], [], [], [], [], []]
def gt (f : Nat) : List Nat := gtL.getD f []
theorem okd : okDsts Tryz.prog = true := by kernel_rfl
theorem sz23 : size? Tryz.prog 23 = some 1 := by kernel_rfl
theorem ia24 (b off : Nat) (k : IntKind) (i : Int) (h0 : 0 ≤ i) (h1 : i < 2) : evIndexAddr Tryz.prog 24 (.pointer (some ⟨b, off, none⟩)) (.int k i) = some (.pointer (some ⟨b, off + i.toNat, none⟩)) := (zbbs Tryz.underlying24 sz23 b off k i h0 h1).trans (by rw [Nat.mul_one])
theorem ag23 : agg? Tryz.prog 23 = some false := by kernel_rfl
theorem ldr23 {β : Type} {W : Nat → Prop} {n0 : Nat} {h : H} {n : Nat} {Q : β → H → Nat → Prop} (b off : Nat) (k : Value → M β) (hb : b < n) : Run W n0 ((inside (evLoad Tryz.prog 23 (.pointer (some ⟨b, off, none⟩)))).bind k) h n Q ↔ optG (h.get b) fun B => Run W n0 (optK (B.cells[off]?) k) h n Q := zafc ag23 b off k hb
theorem nt23 : isNilT Tryz.prog 23 = false := by kernel_rfl
theorem zccv (a b : Int) (h0 : b ≠ 0) : bin2 Tryz.prog .rem 23 (.int .u32 a) (.int .u32 b) = some (.int .u32 (a.tmod b)) := b_rem nt23 a b h0
theorem zced {β : Type} (x : Int) (k : Value → M β) : conv2 Tryz.prog 23 3 (.int .u32 x) k = k (.int .i64 (IntKind.i64.wrap x)) := by kernel_rfl
theorem len22 (a : Option Addr) (n c : Nat) : len2 Tryz.prog #[22] [.slice a n c] = some (.int .i64 n) := zaul Tryz.underlying22 a n c
theorem nt3 : isNilT Tryz.prog 3 = false := by kernel_rfl
theorem bgtr3 (a b : Int) : bin2 Tryz.prog .gtr 3 (.int .i64 a) (.int .i64 b) = some (.bool (decide (b < a))) := b_gtr nt3 a b
theorem bleq3 (a b : Int) : bin2 Tryz.prog .leq 3 (.int .i64 a) (.int .i64 b) = some (.bool (decide (a ≤ b))) := b_leq nt3 a b
theorem nt29 : isNilT Tryz.prog 29 = false := by kernel_rfl
theorem zcen (a b : Int) : bin2 Tryz.prog .eql 29 (.int .i64 a) (.int .i64 b) = some (.bool (a == b)) := b_eql nt29 a b
theorem beql3 (a b : Int) : bin2 Tryz.prog .eql 3 (.int .i64 a) (.int .i64 b) = some (.bool (a == b)) := b_eql nt3 a b
theorem len9 (s : List UInt8) : len2 Tryz.prog #[9] [.string ⟨s.toArray⟩] = some (.int .i64 s.length) := zcgm Tryz.underlying9 s
theorem nt9 : isNilT Tryz.prog 9 = false := by kernel_rfl
theorem badd9 (a b : List UInt8) (h : a.length + b.length ≤ 9223372036854775807) : bin2 Tryz.prog .add 9 (.string ⟨a.toArray⟩) (.string ⟨b.toArray⟩) = some (.string ⟨(a ++ b).toArray⟩) := zcka nt9 a b h
theorem beql9 (a b : List UInt8) : bin2 Tryz.prog .eql 9 (.string ⟨a.toArray⟩) (.string ⟨b.toArray⟩) = some (.bool (decide (a = b))) := zcjv nt9 a b
theorem sz3 : size? Tryz.prog 3 = some 1 := by kernel_rfl
theorem ia41 (b off : Nat) (k : IntKind) (i : Int) (h0 : 0 ≤ i) (h1 : i < 2) : evIndexAddr Tryz.prog 41 (.pointer (some ⟨b, off, none⟩)) (.int k i) = some (.pointer (some ⟨b, off + i.toNat, none⟩)) := (zbbs Tryz.underlying41 sz3 b off k i h0 h1).trans (by rw [Nat.mul_one])
theorem ag3 : agg? Tryz.prog 3 = some false := by kernel_rfl
theorem ldr3 {β : Type} {W : Nat → Prop} {n0 : Nat} {h : H} {n : Nat} {Q : β → H → Nat → Prop} (b off : Nat) (k : Value → M β) (hb : b < n) : Run W n0 ((inside (evLoad Tryz.prog 3 (.pointer (some ⟨b, off, none⟩)))).bind k) h n Q ↔ optG (h.get b) fun B => Run W n0 (optK (B.cells[off]?) k) h n Q := zafc ag3 b off k hb
theorem blss3 (a b : Int) : bin2 Tryz.prog .lss 3 (.int .i64 a) (.int .i64 b) = some (.bool (decide (a < b))) := b_lss nt3 a b
theorem bmul3 (a b : Int) : bin2 Tryz.prog .mul 3 (.int .i64 a) (.int .i64 b) = some (.int .i64 (IntKind.i64.wrap (a * b))) := b_mul nt3 a b
theorem slh9 {β : Type} (l : List UInt8) (kd : IntKind) (j : Int) (k : Value → M β) (h0 : 0 ≤ j) (h1 : j ≤ l.length) : zabo Tryz.prog 9 (.string ⟨l.toArray⟩) none (some (.int kd j)) none k = k (.string ⟨(l.take j.toNat).toArray⟩) := zcjw Tryz.underlying9 l kd j k h0 h1
theorem sll9 {β : Type} (l : List UInt8) (kd : IntKind) (i : Int) (k : Value → M β) (h0 : 0 ≤ i) (h1 : i ≤ l.length) : zabo Tryz.prog 9 (.string ⟨l.toArray⟩) (some (.int kd i)) none none k = k (.string ⟨(l.drop i.toNat).toArray⟩) := zckj Tryz.underlying9 l kd i k h0 h1
theorem slb9 {β : Type} (l : List UInt8) (kd kd' : IntKind) (i j : Int) (k : Value → M β) (h0 : 0 ≤ i) (h1 : i ≤ j) (h2 : j ≤ l.length) : zabo Tryz.prog 9 (.string ⟨l.toArray⟩) (some (.int kd i)) (some (.int kd' j)) none k = k (.string ⟨((l.drop i.toNat).take (j.toNat - i.toNat)).toArray⟩) := zcgf Tryz.underlying9 l kd kd' i j k h0 h1 h2
theorem zr49 : zero? Tryz.prog 49 = some (Go.Value.agg #[(Go.Value.slice none 0 0), (Go.Value.int Go.IntKind.i64 0), (Go.Value.int Go.IntKind.i64 0), (Go.Value.int Go.IntKind.i64 0)]) := by kernel_rfl
theorem sz49 : size? Tryz.prog 49 = some 4 := by kernel_rfl
theorem zcdf (b off : Nat) : evFieldAddr Tryz.prog 49 (.pointer (some ⟨b, off, none⟩)) 3 = some (.pointer (some ⟨b, off + 3, none⟩)) := by kernel_rfl
theorem zceo (b off : Nat) : evFieldAddr Tryz.prog 49 (.pointer (some ⟨b, off, none⟩)) 0 = some (.pointer (some ⟨b, off + 0, none⟩)) := by kernel_rfl
theorem ag22 : agg? Tryz.prog 22 = some false := by kernel_rfl
theorem ldr22 {β : Type} {W : Nat → Prop} {n0 : Nat} {h : H} {n : Nat} {Q : β → H → Nat → Prop} (b off : Nat) (k : Value → M β) (hb : b < n) : Run W n0 ((inside (evLoad Tryz.prog 22 (.pointer (some ⟨b, off, none⟩)))).bind k) h n Q ↔ optG (h.get b) fun B => Run W n0 (optK (B.cells[off]?) k) h n Q := zafc ag22 b off k hb
theorem zcdv (b off : Nat) : evFieldAddr Tryz.prog 49 (.pointer (some ⟨b, off, none⟩)) 1 = some (.pointer (some ⟨b, off + 1, none⟩)) := by kernel_rfl
theorem badd3 (a b : Int) : bin2 Tryz.prog .add 3 (.int .i64 a) (.int .i64 b) = some (.int .i64 (IntKind.i64.wrap (a + b))) := b_add nt3 a b
theorem zcdq (a b : Int) : bin2 Tryz.prog .neq 29 (.int .i64 a) (.int .i64 b) = some (.bool (a != b)) := b_neq nt29 a b
theorem bneq3 (a b : Int) : bin2 Tryz.prog .neq 3 (.int .i64 a) (.int .i64 b) = some (.bool (a != b)) := b_neq nt3 a b
theorem bsub3 (a b : Int) : bin2 Tryz.prog .sub 3 (.int .i64 a) (.int .i64 b) = some (.int .i64 (IntKind.i64.wrap (a - b))) := b_sub nt3 a b
theorem zccd (b off : Nat) : evFieldAddr Tryz.prog 49 (.pointer (some ⟨b, off, none⟩)) 2 = some (.pointer (some ⟨b, off + 2, none⟩)) := by kernel_rfl
theorem bgeq3 (a b : Int) : bin2 Tryz.prog .geq 3 (.int .i64 a) (.int .i64 b) = some (.bool (decide (b ≤ a))) := b_geq nt3 a b
theorem c1x22 : Cell1 Tryz.prog 22 3 (Go.Value.int Go.IntKind.i64 0) := ⟨Tryz.underlying22, ⟨Tryz.t3, by kernel_rfl, by kernel_rfl, by decide⟩, by kernel_rfl, by kernel_rfl⟩
theorem nt60 : isNilT Tryz.prog 60 = false := by kernel_rfl
theorem zcaw (a b : Int) : bin2 Tryz.prog .mul 60 (.int .u64 a) (.int .u64 b) = some (.int .u64 (IntKind.u64.wrap (a * b))) := b_mul nt60 a b
theorem zbxk {β : Type} (x : Int) (k : Value → M β) : conv2 Tryz.prog 23 60 (.int .u32 x) k = k (.int .u64 (IntKind.u64.wrap x)) := by kernel_rfl
theorem zcek (a b : Int) : bin2 Tryz.prog .lss 60 (.int .u64 a) (.int .u64 b) = some (.bool (decide (a < b))) := b_lss nt60 a b
theorem bd63x  : evBuild Tryz.prog 63 [] = M.ret (.agg #[(Go.Value.slice none 0 0), (Go.Value.int Go.IntKind.u8 0), (Go.Value.int Go.IntKind.i64 0)]) := by kernel_rfl
theorem zbwg (a : Addr) : bin2 Tryz.prog .eql 27 (.pointer (some a)) (.pointer none) = some (.bool false) := by kernel_rfl
theorem zbyo : bin2 Tryz.prog .eql 27 (.pointer none) (.pointer none) = some (.bool true) := by kernel_rfl
theorem zcby {k' : IntKind} (a b : Int) (h0 : 0 ≤ b) : bin2 Tryz.prog .shr 23 (.int .u32 a) (.int k' b) = some (.int .u32 (a.fdiv (2 ^ (min b.toNat (IntKind.u32).bits)))) := b_shr nt23 a b h0
theorem zcea (a b : Int) : bin2 Tryz.prog .and 23 (.int .u32 a) (.int .u32 b) = some (.int .u32 (IntKind.u32.wrap (BitVec.ofInt (IntKind.u32).bits a &&& BitVec.ofInt (IntKind.u32).bits b).toNat)) := b_and nt23 a b
theorem zcai {β : Type} (x : Int) (k : Value → M β) : conv2 Tryz.prog 23 5 (.int .u32 x) k = k (.int .u8 (IntKind.u8.wrap x)) := by kernel_rfl
theorem zccw (b off : Nat) : evFieldAddr Tryz.prog 67 (.pointer (some ⟨b, off, none⟩)) 1 = some (.pointer (some ⟨b, off + 1, none⟩)) := by kernel_rfl
theorem zcdr (b off : Nat) : evFieldAddr Tryz.prog 67 (.pointer (some ⟨b, off, none⟩)) 0 = some (.pointer (some ⟨b, off + 0, none⟩)) := by kernel_rfl
theorem ag65 : agg? Tryz.prog 65 = some false := by kernel_rfl
theorem ldr65 {β : Type} {W : Nat → Prop} {n0 : Nat} {h : H} {n : Nat} {Q : β → H → Nat → Prop} (b off : Nat) (k : Value → M β) (hb : b < n) : Run W n0 ((inside (evLoad Tryz.prog 65 (.pointer (some ⟨b, off, none⟩)))).bind k) h n Q ↔ optG (h.get b) fun B => Run W n0 (optK (B.cells[off]?) k) h n Q := zafc ag65 b off k hb
theorem len65 (a : Option Addr) (n c : Nat) : len2 Tryz.prog #[65] [.slice a n c] = some (.int .i64 n) := zaul Tryz.underlying65 a n c
theorem sz22 : size? Tryz.prog 22 = some 1 := by kernel_rfl
theorem ix65 (b off n c : Nat) (k : IntKind) (i : Int) (h0 : 0 ≤ i) (h1 : i < n) : evIndexAddr Tryz.prog 65 (.slice (some ⟨b, off, none⟩) n c) (.int k i) = some (.pointer (some ⟨b, off + i.toNat, none⟩)) := (zaos Tryz.underlying65 sz22 b off n c k i h0 h1).trans (by rw [Nat.mul_one])
theorem c1x70 : Cell1 Tryz.prog 70 72 (Go.Value.pointer none) := ⟨Tryz.underlying70, ⟨Tryz.t72, by kernel_rfl, by kernel_rfl, by decide⟩, by kernel_rfl, by kernel_rfl⟩
theorem ix22 (b off n c : Nat) (k : IntKind) (i : Int) (h0 : 0 ≤ i) (h1 : i < n) : evIndexAddr Tryz.prog 22 (.slice (some ⟨b, off, none⟩) n c) (.int k i) = some (.pointer (some ⟨b, off + i.toNat, none⟩)) := (zaos Tryz.underlying22 sz3 b off n c k i h0 h1).trans (by rw [Nat.mul_one])
theorem bquo3 (a b : Int) (h0 : b ≠ 0) : bin2 Tryz.prog .quo 3 (.int .i64 a) (.int .i64 b) = some (.int .i64 (IntKind.i64.wrap (a.tdiv b))) := b_quo nt3 a b h0
theorem sz72 : size? Tryz.prog 72 = some 1 := by kernel_rfl
theorem ix70 (b off n c : Nat) (k : IntKind) (i : Int) (h0 : 0 ≤ i) (h1 : i < n) : evIndexAddr Tryz.prog 70 (.slice (some ⟨b, off, none⟩) n c) (.int k i) = some (.pointer (some ⟨b, off + i.toNat, none⟩)) := (zaos Tryz.underlying70 sz72 b off n c k i h0 h1).trans (by rw [Nat.mul_one])
theorem ag72 : agg? Tryz.prog 72 = some false := by kernel_rfl
theorem ldr72 {β : Type} {W : Nat → Prop} {n0 : Nat} {h : H} {n : Nat} {Q : β → H → Nat → Prop} (b off : Nat) (k : Value → M β) (hb : b < n) : Run W n0 ((inside (evLoad Tryz.prog 72 (.pointer (some ⟨b, off, none⟩)))).bind k) h n Q ↔ optG (h.get b) fun B => Run W n0 (optK (B.cells[off]?) k) h n Q := zafc ag72 b off k hb
theorem zcbz (b off : Nat) : evFieldAddr Tryz.prog 63 (.pointer (some ⟨b, off, none⟩)) 2 = some (.pointer (some ⟨b, off + 2, none⟩)) := by kernel_rfl
theorem zccb (b off : Nat) : evFieldAddr Tryz.prog 78 (.pointer (some ⟨b, off, none⟩)) 1 = some (.pointer (some ⟨b, off + 1, none⟩)) := by kernel_rfl
theorem zcaz (b off : Nat) : evFieldAddr Tryz.prog 78 (.pointer (some ⟨b, off, none⟩)) 0 = some (.pointer (some ⟨b, off + 0, none⟩)) := by kernel_rfl
theorem c1x80 : Cell1 Tryz.prog 80 82 (Go.Value.slice none 0 0) := ⟨Tryz.underlying80, ⟨Tryz.t82, by kernel_rfl, by kernel_rfl, by decide⟩, by kernel_rfl, by kernel_rfl⟩
theorem sz82 : size? Tryz.prog 82 = some 1 := by kernel_rfl
theorem ix80 (b off n c : Nat) (k : IntKind) (i : Int) (h0 : 0 ≤ i) (h1 : i < n) : evIndexAddr Tryz.prog 80 (.slice (some ⟨b, off, none⟩) n c) (.int k i) = some (.pointer (some ⟨b, off + i.toNat, none⟩)) := (zaos Tryz.underlying80 sz82 b off n c k i h0 h1).trans (by rw [Nat.mul_one])
theorem ag82 : agg? Tryz.prog 82 = some false := by kernel_rfl
theorem ldr82 {β : Type} {W : Nat → Prop} {n0 : Nat} {h : H} {n : Nat} {Q : β → H → Nat → Prop} (b off : Nat) (k : Value → M β) (hb : b < n) : Run W n0 ((inside (evLoad Tryz.prog 82 (.pointer (some ⟨b, off, none⟩)))).bind k) h n Q ↔ optG (h.get b) fun B => Run W n0 (optK (B.cells[off]?) k) h n Q := zafc ag82 b off k hb
theorem sz9 : size? Tryz.prog 9 = some 1 := by kernel_rfl
theorem ix82 (b off n c : Nat) (k : IntKind) (i : Int) (h0 : 0 ≤ i) (h1 : i < n) : evIndexAddr Tryz.prog 82 (.slice (some ⟨b, off, none⟩) n c) (.int k i) = some (.pointer (some ⟨b, off + i.toNat, none⟩)) := (zaos Tryz.underlying82 sz9 b off n c k i h0 h1).trans (by rw [Nat.mul_one])
theorem ag9 : agg? Tryz.prog 9 = some false := by kernel_rfl
theorem ldr9 {β : Type} {W : Nat → Prop} {n0 : Nat} {h : H} {n : Nat} {Q : β → H → Nat → Prop} (b off : Nat) (k : Value → M β) (hb : b < n) : Run W n0 ((inside (evLoad Tryz.prog 9 (.pointer (some ⟨b, off, none⟩)))).bind k) h n Q ↔ optG (h.get b) fun B => Run W n0 (optK (B.cells[off]?) k) h n Q := zafc ag9 b off k hb
theorem zbxw (a : Addr) : bin2 Tryz.prog .neq 27 (.pointer (some a)) (.pointer none) = some (.bool true) := by kernel_rfl
theorem zbwe : bin2 Tryz.prog .neq 27 (.pointer none) (.pointer none) = some (.bool false) := by kernel_rfl
theorem brem3 (a b : Int) (h0 : b ≠ 0) : bin2 Tryz.prog .rem 3 (.int .i64 a) (.int .i64 b) = some (.int .i64 (a.tmod b)) := b_rem nt3 a b h0
theorem zcdy (b off : Nat) : evFieldAddr Tryz.prog 63 (.pointer (some ⟨b, off, none⟩)) 0 = some (.pointer (some ⟨b, off + 0, none⟩)) := by kernel_rfl
theorem ag61 : agg? Tryz.prog 61 = some false := by kernel_rfl
theorem ldr61 {β : Type} {W : Nat → Prop} {n0 : Nat} {h : H} {n : Nat} {Q : β → H → Nat → Prop} (b off : Nat) (k : Value → M β) (hb : b < n) : Run W n0 ((inside (evLoad Tryz.prog 61 (.pointer (some ⟨b, off, none⟩)))).bind k) h n Q ↔ optG (h.get b) fun B => Run W n0 (optK (B.cells[off]?) k) h n Q := zafc ag61 b off k hb
theorem sz61 : size? Tryz.prog 61 = some 1 := by kernel_rfl
theorem str61 {β : Type} {W : Nat → Prop} {n0 : Nat} {h : H} {n : Nat} {Q : β → H → Nat → Prop} (b off : Nat) (v : Value) (k : Value → M β) (hb : b < n) (h1 : one v = true) : Run W n0 ((inside (evStore Tryz.prog 61 (.pointer (some ⟨b, off, none⟩)) v)).bind k) h n Q ↔ optG (h.get b) fun B => B.own = true ∧ off < B.cells.length ∧ (n0 ≤ b ∨ W b) ∧ Run W n0 (k undef) (h.set b (some ⟨B.elem, B.own, B.cells.set off v⟩)) n Q := zalz sz61 b off v k hb h1
theorem zccu (a b : Int) : bin2 Tryz.prog .add 23 (.int .u32 a) (.int .u32 b) = some (.int .u32 (IntKind.u32.wrap (a + b))) := b_add nt23 a b
theorem zcbo (a b : Int) (h0 : b ≠ 0) : bin2 Tryz.prog .quo 23 (.int .u32 a) (.int .u32 b) = some (.int .u32 (IntKind.u32.wrap (a.tdiv b))) := b_quo nt23 a b h0
theorem zccp (v0 : ByteArray) : evBuild Tryz.prog 85 [(0, (Value.string v0))] = M.ret (.agg #[(Value.string v0), (Go.Value.int Go.IntKind.i64 0), (Go.Value.int Go.IntKind.i64 0)]) := by kernel_rfl
theorem sz85 : size? Tryz.prog 85 = some 3 := by kernel_rfl
theorem zbvt (a : Addr) : bin2 Tryz.prog .eql 42 (.pointer (some a)) (.pointer none) = some (.bool false) := by kernel_rfl
theorem zbxa : bin2 Tryz.prog .eql 42 (.pointer none) (.pointer none) = some (.bool true) := by kernel_rfl
theorem zceh (b off : Nat) : evFieldAddr Tryz.prog 85 (.pointer (some ⟨b, off, none⟩)) 1 = some (.pointer (some ⟨b, off + 1, none⟩)) := by kernel_rfl
theorem zcbr (b off : Nat) : evFieldAddr Tryz.prog 85 (.pointer (some ⟨b, off, none⟩)) 2 = some (.pointer (some ⟨b, off + 2, none⟩)) := by kernel_rfl
theorem str3 {β : Type} {W : Nat → Prop} {n0 : Nat} {h : H} {n : Nat} {Q : β → H → Nat → Prop} (b off : Nat) (v : Value) (k : Value → M β) (hb : b < n) (h1 : one v = true) : Run W n0 ((inside (evStore Tryz.prog 3 (.pointer (some ⟨b, off, none⟩)) v)).bind k) h n Q ↔ optG (h.get b) fun B => B.own = true ∧ off < B.cells.length ∧ (n0 ≤ b ∨ W b) ∧ Run W n0 (k undef) (h.set b (some ⟨B.elem, B.own, B.cells.set off v⟩)) n Q := zalz sz3 b off v k hb h1
theorem zr88 : zero? Tryz.prog 88 = some (Go.Value.agg #[(Go.Value.slice none 0 0), (Go.Value.int Go.IntKind.i64 0), (Go.Value.int Go.IntKind.i64 0), (Go.Value.int Go.IntKind.i64 0), (Go.Value.int Go.IntKind.i64 0)]) := by kernel_rfl
theorem sz88 : size? Tryz.prog 88 = some 5 := by kernel_rfl
theorem zcbd (b off : Nat) : evFieldAddr Tryz.prog 88 (.pointer (some ⟨b, off, none⟩)) 4 = some (.pointer (some ⟨b, off + 4, none⟩)) := by kernel_rfl
theorem zccr (v3 : Int) : evBuild Tryz.prog 49 [(3, (Value.int .i64 v3))] = M.ret (.agg #[(Go.Value.slice none 0 0), (Go.Value.int Go.IntKind.i64 0), (Go.Value.int Go.IntKind.i64 0), (Value.int .i64 v3)]) := by kernel_rfl
theorem zcdd (b off : Nat) : evFieldAddr Tryz.prog 88 (.pointer (some ⟨b, off, none⟩)) 2 = some (.pointer (some ⟨b, off + 2, none⟩)) := by kernel_rfl
theorem zcak (b off : Nat) : evFieldAddr Tryz.prog 88 (.pointer (some ⟨b, off, none⟩)) 1 = some (.pointer (some ⟨b, off + 1, none⟩)) := by kernel_rfl
theorem zr91 : zero? Tryz.prog 91 = some (Go.Value.agg #[(Go.Value.slice none 0 0), (Go.Value.int Go.IntKind.i64 0), (Go.Value.int Go.IntKind.i64 0)]) := by kernel_rfl
theorem sz91 : size? Tryz.prog 91 = some 3 := by kernel_rfl
theorem zcci (b off : Nat) : evFieldAddr Tryz.prog 91 (.pointer (some ⟨b, off, none⟩)) 2 = some (.pointer (some ⟨b, off + 2, none⟩)) := by kernel_rfl
theorem zcal (b off : Nat) : evFieldAddr Tryz.prog 91 (.pointer (some ⟨b, off, none⟩)) 1 = some (.pointer (some ⟨b, off + 1, none⟩)) := by kernel_rfl
theorem zcej (b off : Nat) : evFieldAddr Tryz.prog 88 (.pointer (some ⟨b, off, none⟩)) 0 = some (.pointer (some ⟨b, off + 0, none⟩)) := by kernel_rfl
theorem zcbb (b off : Nat) : evFieldAddr Tryz.prog 91 (.pointer (some ⟨b, off, none⟩)) 0 = some (.pointer (some ⟨b, off + 0, none⟩)) := by kernel_rfl
theorem ag80 : agg? Tryz.prog 80 = some false := by kernel_rfl
theorem ldr80 {β : Type} {W : Nat → Prop} {n0 : Nat} {h : H} {n : Nat} {Q : β → H → Nat → Prop} (b off : Nat) (k : Value → M β) (hb : b < n) : Run W n0 ((inside (evLoad Tryz.prog 80 (.pointer (some ⟨b, off, none⟩)))).bind k) h n Q ↔ optG (h.get b) fun B => Run W n0 (optK (B.cells[off]?) k) h n Q := zafc ag80 b off k hb
theorem zbma (v0a : Option Addr) (v0n v0c : Nat) (v1 : Int) (v2 : Int) : evBuild Tryz.prog 49 [(0, (Value.slice v0a v0n v0c)), (1, (Value.int .i64 v1)), (2, (Value.int .i64 v2))] = M.ret (.agg #[(Value.slice v0a v0n v0c), (Value.int .i64 v1), (Value.int .i64 v2), (Go.Value.int Go.IntKind.i64 0)]) := by kernel_rfl
theorem ixs9 (l : List UInt8) (k : IntKind) (i : Int) (h0 : 0 ≤ i) (h1 : i < l.length) : zaee Tryz.prog 9 (.string ⟨l.toArray⟩) (.int k i) = some (.int .u8 (l.getD i.toNat 0).toNat) := zbva Tryz.underlying9 l k i h0 h1
theorem zcbh {β : Type} (x : Int) (k : Value → M β) : conv2 Tryz.prog 5 23 (.int .u8 x) k = k (.int .u32 (IntKind.u32.wrap x)) := by kernel_rfl
theorem zbkf (v0 : Int) (v1 : Option Addr) (v3 : Option Addr) : evBuild Tryz.prog 100 [(0, (Value.int .i64 v0)), (1, (Value.pointer v1)), (3, (Value.pointer v3))] = M.ret (.agg #[(Value.int .i64 v0), (Value.pointer v1), (Go.Value.slice none 0 0), (Value.pointer v3), (Go.Value.slice none 0 0), (Go.Value.int Go.IntKind.i64 0), (Go.Value.bool false), (Go.Value.int Go.IntKind.i64 0)]) := by kernel_rfl
theorem sz100 : size? Tryz.prog 100 = some 8 := by kernel_rfl
theorem zbxs (a : Addr) : bin2 Tryz.prog .neq 54 (.pointer (some a)) (.pointer none) = some (.bool true) := by kernel_rfl
theorem zbxl : bin2 Tryz.prog .neq 54 (.pointer none) (.pointer none) = some (.bool false) := by kernel_rfl
theorem zbvr (b off : Nat) : evFieldAddr Tryz.prog 100 (.pointer (some ⟨b, off, none⟩)) 6 = some (.pointer (some ⟨b, off + 6, none⟩)) := by kernel_rfl
theorem ag4 : agg? Tryz.prog 4 = some false := by kernel_rfl
theorem ldr4 {β : Type} {W : Nat → Prop} {n0 : Nat} {h : H} {n : Nat} {Q : β → H → Nat → Prop} (b off : Nat) (k : Value → M β) (hb : b < n) : Run W n0 ((inside (evLoad Tryz.prog 4 (.pointer (some ⟨b, off, none⟩)))).bind k) h n Q ↔ optG (h.get b) fun B => Run W n0 (optK (B.cells[off]?) k) h n Q := zafc ag4 b off k hb
theorem zbwz (a : Addr) : bin2 Tryz.prog .eql 54 (.pointer (some a)) (.pointer none) = some (.bool false) := by kernel_rfl
theorem zbuy : bin2 Tryz.prog .eql 54 (.pointer none) (.pointer none) = some (.bool true) := by kernel_rfl
theorem zbwx (b off : Nat) : evFieldAddr Tryz.prog 100 (.pointer (some ⟨b, off, none⟩)) 7 = some (.pointer (some ⟨b, off + 7, none⟩)) := by kernel_rfl
theorem ag29 : agg? Tryz.prog 29 = some false := by kernel_rfl
theorem ldr29 {β : Type} {W : Nat → Prop} {n0 : Nat} {h : H} {n : Nat} {Q : β → H → Nat → Prop} (b off : Nat) (k : Value → M β) (hb : b < n) : Run W n0 ((inside (evLoad Tryz.prog 29 (.pointer (some ⟨b, off, none⟩)))).bind k) h n Q ↔ optG (h.get b) fun B => Run W n0 (optK (B.cells[off]?) k) h n Q := zafc ag29 b off k hb
theorem zbwn (b off : Nat) : evFieldAddr Tryz.prog 100 (.pointer (some ⟨b, off, none⟩)) 1 = some (.pointer (some ⟨b, off + 1, none⟩)) := by kernel_rfl
theorem ag97 : agg? Tryz.prog 97 = some false := by kernel_rfl
theorem ldr97 {β : Type} {W : Nat → Prop} {n0 : Nat} {h : H} {n : Nat} {Q : β → H → Nat → Prop} (b off : Nat) (k : Value → M β) (hb : b < n) : Run W n0 ((inside (evLoad Tryz.prog 97 (.pointer (some ⟨b, off, none⟩)))).bind k) h n Q ↔ optG (h.get b) fun B => Run W n0 (optK (B.cells[off]?) k) h n Q := zafc ag97 b off k hb
theorem zbyb (b off : Nat) : evFieldAddr Tryz.prog 100 (.pointer (some ⟨b, off, none⟩)) 4 = some (.pointer (some ⟨b, off + 4, none⟩)) := by kernel_rfl
theorem ag70 : agg? Tryz.prog 70 = some false := by kernel_rfl
theorem ldr70 {β : Type} {W : Nat → Prop} {n0 : Nat} {h : H} {n : Nat} {Q : β → H → Nat → Prop} (b off : Nat) (k : Value → M β) (hb : b < n) : Run W n0 ((inside (evLoad Tryz.prog 70 (.pointer (some ⟨b, off, none⟩)))).bind k) h n Q ↔ optG (h.get b) fun B => Run W n0 (optK (B.cells[off]?) k) h n Q := zafc ag70 b off k hb
theorem len70 (a : Option Addr) (n c : Nat) : len2 Tryz.prog #[70] [.slice a n c] = some (.int .i64 n) := zaul Tryz.underlying70 a n c
theorem sz29 : size? Tryz.prog 29 = some 1 := by kernel_rfl
theorem str29 {β : Type} {W : Nat → Prop} {n0 : Nat} {h : H} {n : Nat} {Q : β → H → Nat → Prop} (b off : Nat) (v : Value) (k : Value → M β) (hb : b < n) (h1 : one v = true) : Run W n0 ((inside (evStore Tryz.prog 29 (.pointer (some ⟨b, off, none⟩)) v)).bind k) h n Q ↔ optG (h.get b) fun B => B.own = true ∧ off < B.cells.length ∧ (n0 ≤ b ∨ W b) ∧ Run W n0 (k undef) (h.set b (some ⟨B.elem, B.own, B.cells.set off v⟩)) n Q := zalz sz29 b off v k hb h1
theorem zbxc (b off : Nat) : evFieldAddr Tryz.prog 100 (.pointer (some ⟨b, off, none⟩)) 0 = some (.pointer (some ⟨b, off + 0, none⟩)) := by kernel_rfl
theorem zbvq (b off : Nat) : evFieldAddr Tryz.prog 100 (.pointer (some ⟨b, off, none⟩)) 5 = some (.pointer (some ⟨b, off + 5, none⟩)) := by kernel_rfl
theorem zcat (b off : Nat) : evFieldAddr Tryz.prog 85 (.pointer (some ⟨b, off, none⟩)) 0 = some (.pointer (some ⟨b, off + 0, none⟩)) := by kernel_rfl
theorem str9 {β : Type} {W : Nat → Prop} {n0 : Nat} {h : H} {n : Nat} {Q : β → H → Nat → Prop} (b off : Nat) (v : Value) (k : Value → M β) (hb : b < n) (h1 : one v = true) : Run W n0 ((inside (evStore Tryz.prog 9 (.pointer (some ⟨b, off, none⟩)) v)).bind k) h n Q ↔ optG (h.get b) fun B => B.own = true ∧ off < B.cells.length ∧ (n0 ≤ b ∨ W b) ∧ Run W n0 (k undef) (h.set b (some ⟨B.elem, B.own, B.cells.set off v⟩)) n Q := zalz sz9 b off v k hb h1
theorem zcdh {k' : IntKind} (a b : Int) (h0 : 0 ≤ b) : bin2 Tryz.prog .shr 60 (.int .u64 a) (.int k' b) = some (.int .u64 (a.fdiv (2 ^ (min b.toNat (IntKind.u64).bits)))) := b_shr nt60 a b h0
theorem zcbi (a b : Int) : bin2 Tryz.prog .eql 60 (.int .u64 a) (.int .u64 b) = some (.bool (a == b)) := b_eql nt60 a b
theorem zcbc (b off : Nat) : evFieldAddr Tryz.prog 63 (.pointer (some ⟨b, off, none⟩)) 1 = some (.pointer (some ⟨b, off + 1, none⟩)) := by kernel_rfl
theorem ag5 : agg? Tryz.prog 5 = some false := by kernel_rfl
theorem ldr5 {β : Type} {W : Nat → Prop} {n0 : Nat} {h : H} {n : Nat} {Q : β → H → Nat → Prop} (b off : Nat) (k : Value → M β) (hb : b < n) : Run W n0 ((inside (evLoad Tryz.prog 5 (.pointer (some ⟨b, off, none⟩)))).bind k) h n Q ↔ optG (h.get b) fun B => Run W n0 (optK (B.cells[off]?) k) h n Q := zafc ag5 b off k hb
theorem nt5 : isNilT Tryz.prog 5 = false := by kernel_rfl
theorem bshl5 {k' : IntKind} (a b : Int) (h0 : 0 ≤ b) : bin2 Tryz.prog .shl 5 (.int .u8 a) (.int k' b) = some (.int .u8 (IntKind.u8.wrap (a * 2 ^ (min b.toNat (IntKind.u8).bits)))) := b_shl nt5 a b h0
theorem bor5 (a b : Int) : bin2 Tryz.prog .or 5 (.int .u8 a) (.int .u8 b) = some (.int .u8 (IntKind.u8.wrap (BitVec.ofInt (IntKind.u8).bits a ||| BitVec.ofInt (IntKind.u8).bits b).toNat)) := b_or nt5 a b
theorem sz5 : size? Tryz.prog 5 = some 1 := by kernel_rfl
theorem str5 {β : Type} {W : Nat → Prop} {n0 : Nat} {h : H} {n : Nat} {Q : β → H → Nat → Prop} (b off : Nat) (v : Value) (k : Value → M β) (hb : b < n) (h1 : one v = true) : Run W n0 ((inside (evStore Tryz.prog 5 (.pointer (some ⟨b, off, none⟩)) v)).bind k) h n Q ↔ optG (h.get b) fun B => B.own = true ∧ off < B.cells.length ∧ (n0 ≤ b ∨ W b) ∧ Run W n0 (k undef) (h.set b (some ⟨B.elem, B.own, B.cells.set off v⟩)) n Q := zalz sz5 b off v k hb h1
theorem bd67x  : evBuild Tryz.prog 67 [] = M.ret (.agg #[(Go.Value.slice none 0 0), (Go.Value.slice none 0 0)]) := by kernel_rfl
theorem zceb {β : Type} (x : Int) (k : Value → M β) : conv2 Tryz.prog 3 23 (.int .i64 x) k = k (.int .u32 (IntKind.u32.wrap x)) := by kernel_rfl
theorem zcca {k' : IntKind} (a b : Int) (h0 : 0 ≤ b) : bin2 Tryz.prog .shl 23 (.int .u32 a) (.int k' b) = some (.int .u32 (IntKind.u32.wrap (a * 2 ^ (min b.toNat (IntKind.u32).bits)))) := b_shl nt23 a b h0
theorem zcaq (a b : Int) : bin2 Tryz.prog .sub 23 (.int .u32 a) (.int .u32 b) = some (.int .u32 (IntKind.u32.wrap (a - b))) := b_sub nt23 a b
theorem ag27 : agg? Tryz.prog 27 = some false := by kernel_rfl
theorem ldr27 {β : Type} {W : Nat → Prop} {n0 : Nat} {h : H} {n : Nat} {Q : β → H → Nat → Prop} (b off : Nat) (k : Value → M β) (hb : b < n) : Run W n0 ((inside (evLoad Tryz.prog 27 (.pointer (some ⟨b, off, none⟩)))).bind k) h n Q ↔ optG (h.get b) fun B => Run W n0 (optK (B.cells[off]?) k) h n Q := zafc ag27 b off k hb
theorem zbif : Cell1 Tryz.prog 107 23 (Go.Value.int Go.IntKind.u32 0) := ⟨Tryz.underlying107, ⟨Tryz.t23, by kernel_rfl, by kernel_rfl, by decide⟩, by kernel_rfl, by kernel_rfl⟩
theorem zbps (v0a : Option Addr) (v0n v0c : Nat) (v1a : Option Addr) (v1n v1c : Nat) : evBuild Tryz.prog 111 [(0, (Value.slice v0a v0n v0c)), (1, (Value.slice v1a v1n v1c))] = M.ret (.agg #[(Value.slice v0a v0n v0c), (Value.slice v1a v1n v1c), (Go.Value.slice none 0 0), (Go.Value.int Go.IntKind.i64 0), (Go.Value.int Go.IntKind.i64 0), (Go.Value.int Go.IntKind.i64 0), (Go.Value.int Go.IntKind.i64 0), (Go.Value.int Go.IntKind.i64 0), (Go.Value.int Go.IntKind.i64 0), (Go.Value.int Go.IntKind.i64 0), (Go.Value.int Go.IntKind.i64 0), (Go.Value.int Go.IntKind.i64 0), (Go.Value.int Go.IntKind.i64 0), (Go.Value.int Go.IntKind.i64 0), (Go.Value.int Go.IntKind.i64 0), (Go.Value.int Go.IntKind.i64 0), (Go.Value.int Go.IntKind.i64 0), (Go.Value.int Go.IntKind.i64 0), (Go.Value.int Go.IntKind.i64 0), (Go.Value.int Go.IntKind.i64 0), (Go.Value.int Go.IntKind.i64 0), (Go.Value.int Go.IntKind.i64 0), (Go.Value.int Go.IntKind.i64 0), (Go.Value.int Go.IntKind.i64 0), (Go.Value.int Go.IntKind.i64 0), (Go.Value.int Go.IntKind.i64 0), (Go.Value.int Go.IntKind.i64 0), (Go.Value.int Go.IntKind.i64 0), (Go.Value.int Go.IntKind.i64 0), (Go.Value.int Go.IntKind.i64 0), (Go.Value.int Go.IntKind.i64 0), (Go.Value.int Go.IntKind.i64 0), (Go.Value.int Go.IntKind.i64 0), (Go.Value.int Go.IntKind.i64 0), (Go.Value.int Go.IntKind.i64 0), (Go.Value.int Go.IntKind.i64 0), (Go.Value.int Go.IntKind.i64 0), (Go.Value.int Go.IntKind.i64 0), (Go.Value.int Go.IntKind.i64 0), (Go.Value.int Go.IntKind.i64 0), (Go.Value.int Go.IntKind.i64 0), (Go.Value.int Go.IntKind.i64 0), (Go.Value.int Go.IntKind.i64 0), (Go.Value.int Go.IntKind.i64 0), (Go.Value.int Go.IntKind.i64 0), (Go.Value.int Go.IntKind.i64 0)]) := by kernel_rfl
theorem sz111 : size? Tryz.prog 111 = some 46 := by kernel_rfl
theorem zbvl (b off : Nat) : evFieldAddr Tryz.prog 111 (.pointer (some ⟨b, off, none⟩)) 3 = some (.pointer (some ⟨b, off + 3, none⟩)) := by kernel_rfl
theorem ia108 (b off : Nat) (k : IntKind) (i : Int) (h0 : 0 ≤ i) (h1 : i < 21) : evIndexAddr Tryz.prog 108 (.pointer (some ⟨b, off, none⟩)) (.int k i) = some (.pointer (some ⟨b, off + i.toNat, none⟩)) := (zbbs Tryz.underlying108 sz3 b off k i h0 h1).trans (by rw [Nat.mul_one])
theorem zbxh (b off : Nat) : evFieldAddr Tryz.prog 111 (.pointer (some ⟨b, off, none⟩)) 2 = some (.pointer (some ⟨b, off + 2, none⟩)) := by kernel_rfl
theorem zbyz (b off : Nat) : evFieldAddr Tryz.prog 111 (.pointer (some ⟨b, off, none⟩)) 4 = some (.pointer (some ⟨b, off + 24, none⟩)) := by kernel_rfl
theorem ia109 (b off : Nat) (k : IntKind) (i : Int) (h0 : 0 ≤ i) (h1 : i < 22) : evIndexAddr Tryz.prog 109 (.pointer (some ⟨b, off, none⟩)) (.int k i) = some (.pointer (some ⟨b, off + i.toNat, none⟩)) := (zbbs Tryz.underlying109 sz3 b off k i h0 h1).trans (by rw [Nat.mul_one])
theorem zbxm (b off : Nat) : evFieldAddr Tryz.prog 111 (.pointer (some ⟨b, off, none⟩)) 1 = some (.pointer (some ⟨b, off + 1, none⟩)) := by kernel_rfl
theorem ag107 : agg? Tryz.prog 107 = some false := by kernel_rfl
theorem zcdc {β : Type} {W : Nat → Prop} {n0 : Nat} {h : H} {n : Nat} {Q : β → H → Nat → Prop} (b off : Nat) (k : Value → M β) (hb : b < n) : Run W n0 ((inside (evLoad Tryz.prog 107 (.pointer (some ⟨b, off, none⟩)))).bind k) h n Q ↔ optG (h.get b) fun B => Run W n0 (optK (B.cells[off]?) k) h n Q := zafc ag107 b off k hb
theorem ix107 (b off n c : Nat) (k : IntKind) (i : Int) (h0 : 0 ≤ i) (h1 : i < n) : evIndexAddr Tryz.prog 107 (.slice (some ⟨b, off, none⟩) n c) (.int k i) = some (.pointer (some ⟨b, off + i.toNat, none⟩)) := (zaos Tryz.underlying107 sz23 b off n c k i h0 h1).trans (by rw [Nat.mul_one])
theorem str23 {β : Type} {W : Nat → Prop} {n0 : Nat} {h : H} {n : Nat} {Q : β → H → Nat → Prop} (b off : Nat) (v : Value) (k : Value → M β) (hb : b < n) (h1 : one v = true) : Run W n0 ((inside (evStore Tryz.prog 23 (.pointer (some ⟨b, off, none⟩)) v)).bind k) h n Q ↔ optG (h.get b) fun B => B.own = true ∧ off < B.cells.length ∧ (n0 ≤ b ∨ W b) ∧ Run W n0 (k undef) (h.set b (some ⟨B.elem, B.own, B.cells.set off v⟩)) n Q := zalz sz23 b off v k hb h1
theorem str22 {β : Type} {W : Nat → Prop} {n0 : Nat} {h : H} {n : Nat} {Q : β → H → Nat → Prop} (b off : Nat) (v : Value) (k : Value → M β) (hb : b < n) (h1 : one v = true) : Run W n0 ((inside (evStore Tryz.prog 22 (.pointer (some ⟨b, off, none⟩)) v)).bind k) h n Q ↔ optG (h.get b) fun B => B.own = true ∧ off < B.cells.length ∧ (n0 ≤ b ∨ W b) ∧ Run W n0 (k undef) (h.set b (some ⟨B.elem, B.own, B.cells.set off v⟩)) n Q := zalz sz22 b off v k hb h1
theorem zcbg (v0a : Option Addr) (v0n v0c : Nat) : evBuild Tryz.prog 78 [(0, (Value.slice v0a v0n v0c))] = M.ret (.agg #[(Value.slice v0a v0n v0c), (Go.Value.slice none 0 0)]) := by kernel_rfl
theorem zbtm (v0a : Option Addr) (v0n v0c : Nat) (v1a : Option Addr) (v1n v1c : Nat) : evBuild Tryz.prog 78 [(0, (Value.slice v0a v0n v0c)), (1, (Value.slice v1a v1n v1c))] = M.ret (.agg #[(Value.slice v0a v0n v0c), (Value.slice v1a v1n v1c)]) := by kernel_rfl
theorem c1x82 : Cell1 Tryz.prog 82 9 (Go.Value.string { data := #[] }) := ⟨Tryz.underlying82, ⟨Tryz.t9, by kernel_rfl, by kernel_rfl, by decide⟩, by kernel_rfl, by kernel_rfl⟩
theorem zccf (v4 : Int) : evBuild Tryz.prog 88 [(4, (Value.int .i64 v4))] = M.ret (.agg #[(Go.Value.slice none 0 0), (Go.Value.int Go.IntKind.i64 0), (Go.Value.int Go.IntKind.i64 0), (Go.Value.int Go.IntKind.i64 0), (Value.int .i64 v4)]) := by kernel_rfl
theorem zbso (v3 : Int) (v4 : Int) : evBuild Tryz.prog 88 [(3, (Value.int .i64 v3)), (4, (Value.int .i64 v4))] = M.ret (.agg #[(Go.Value.slice none 0 0), (Go.Value.int Go.IntKind.i64 0), (Go.Value.int Go.IntKind.i64 0), (Value.int .i64 v3), (Value.int .i64 v4)]) := by kernel_rfl
theorem cv5x3 {β : Type} (x : Int) (k : Value → M β) : conv2 Tryz.prog 5 3 (.int .u8 x) k = k (.int .i64 (IntKind.i64.wrap x)) := by kernel_rfl
theorem zbhk (v0a : Option Addr) (v0n v0c : Nat) (v1 : Int) (v2 : Int) (v3 : Int) : evBuild Tryz.prog 88 [(0, (Value.slice v0a v0n v0c)), (1, (Value.int .i64 v1)), (2, (Value.int .i64 v2)), (3, (Value.int .i64 v3))] = M.ret (.agg #[(Value.slice v0a v0n v0c), (Value.int .i64 v1), (Value.int .i64 v2), (Value.int .i64 v3), (Go.Value.int Go.IntKind.i64 0)]) := by kernel_rfl
theorem bd91x  : evBuild Tryz.prog 91 [] = M.ret (.agg #[(Go.Value.slice none 0 0), (Go.Value.int Go.IntKind.i64 0), (Go.Value.int Go.IntKind.i64 0)]) := by kernel_rfl
theorem zr126 : zero? Tryz.prog 126 = some (Go.Value.agg #[(Go.Value.slice none 0 0), (Go.Value.int Go.IntKind.i64 0), (Go.Value.int Go.IntKind.i64 0)]) := by kernel_rfl
theorem sz126 : size? Tryz.prog 126 = some 3 := by kernel_rfl
theorem zbwt (b off : Nat) : evFieldAddr Tryz.prog 126 (.pointer (some ⟨b, off, none⟩)) 2 = some (.pointer (some ⟨b, off + 2, none⟩)) := by kernel_rfl
theorem zbrw (v0a : Option Addr) (v0n v0c : Nat) (v2 : Int) : evBuild Tryz.prog 91 [(0, (Value.slice v0a v0n v0c)), (2, (Value.int .i64 v2))] = M.ret (.agg #[(Value.slice v0a v0n v0c), (Go.Value.int Go.IntKind.i64 0), (Value.int .i64 v2)]) := by kernel_rfl
theorem zbwp (b off : Nat) : evFieldAddr Tryz.prog 126 (.pointer (some ⟨b, off, none⟩)) 1 = some (.pointer (some ⟨b, off + 1, none⟩)) := by kernel_rfl
theorem zbzg (b off : Nat) : evFieldAddr Tryz.prog 126 (.pointer (some ⟨b, off, none⟩)) 0 = some (.pointer (some ⟨b, off + 0, none⟩)) := by kernel_rfl
theorem sz80 : size? Tryz.prog 80 = some 1 := by kernel_rfl
theorem str80 {β : Type} {W : Nat → Prop} {n0 : Nat} {h : H} {n : Nat} {Q : β → H → Nat → Prop} (b off : Nat) (v : Value) (k : Value → M β) (hb : b < n) (h1 : one v = true) : Run W n0 ((inside (evStore Tryz.prog 80 (.pointer (some ⟨b, off, none⟩)) v)).bind k) h n Q ↔ optG (h.get b) fun B => B.own = true ∧ off < B.cells.length ∧ (n0 ≤ b ∨ W b) ∧ Run W n0 (k undef) (h.set b (some ⟨B.elem, B.own, B.cells.set off v⟩)) n Q := zalz sz80 b off v k hb h1
theorem len82 (a : Option Addr) (n c : Nat) : len2 Tryz.prog #[82] [.slice a n c] = some (.int .i64 n) := zaul Tryz.underlying82 a n c
theorem zbvb (v0 : Int) : evBuild Tryz.prog 130 [(0, (Value.int .i64 v0))] = M.ret (.agg #[(Value.int .i64 v0), (Go.Value.int Go.IntKind.i64 0), (Go.Value.slice none 0 0), (Go.Value.bool false)]) := by kernel_rfl
theorem sz130 : size? Tryz.prog 130 = some 4 := by kernel_rfl
theorem zbzd (v2f0 : Int) (v2f1 : Int) (v2f2 : Int) (v2f3 : Int) (v2f4 : Int) (v2f5 : Int) : evBuild Tryz.prog 135 [(2, (Value.agg #[(Value.int .i64 v2f0), (Value.int .i64 v2f1), (Value.int .i64 v2f2), (Value.int .i64 v2f3), (Value.int .i64 v2f4), (Value.int .i64 v2f5)]))] = M.ret (.agg #[(Go.Value.int Go.IntKind.i64 0), (Go.Value.int Go.IntKind.i64 0), (Value.int .i64 v2f0), (Value.int .i64 v2f1), (Value.int .i64 v2f2), (Value.int .i64 v2f3), (Value.int .i64 v2f4), (Value.int .i64 v2f5), (Go.Value.slice none 0 0), (Go.Value.bool false)]) := by kernel_rfl
theorem sz135 : size? Tryz.prog 135 = some 10 := by kernel_rfl
theorem zbyp (b off : Nat) : evFieldAddr Tryz.prog 100 (.pointer (some ⟨b, off, none⟩)) 2 = some (.pointer (some ⟨b, off + 2, none⟩)) := by kernel_rfl
theorem sz4 : size? Tryz.prog 4 = some 1 := by kernel_rfl
theorem str4 {β : Type} {W : Nat → Prop} {n0 : Nat} {h : H} {n : Nat} {Q : β → H → Nat → Prop} (b off : Nat) (v : Value) (k : Value → M β) (hb : b < n) (h1 : one v = true) : Run W n0 ((inside (evStore Tryz.prog 4 (.pointer (some ⟨b, off, none⟩)) v)).bind k) h n Q ↔ optG (h.get b) fun B => B.own = true ∧ off < B.cells.length ∧ (n0 ≤ b ∨ W b) ∧ Run W n0 (k undef) (h.set b (some ⟨B.elem, B.own, B.cells.set off v⟩)) n Q := zalz sz4 b off v k hb h1
theorem zbvo (a : Addr) : bin2 Tryz.prog .neq 97 (.pointer (some a)) (.pointer none) = some (.bool true) := by kernel_rfl
theorem zbww : bin2 Tryz.prog .neq 97 (.pointer none) (.pointer none) = some (.bool false) := by kernel_rfl
theorem zbvv (b off : Nat) : evFieldAddr Tryz.prog 135 (.pointer (some ⟨b, off, none⟩)) 1 = some (.pointer (some ⟨b, off + 1, none⟩)) := by kernel_rfl
theorem zbvj (b off : Nat) : evFieldAddr Tryz.prog 135 (.pointer (some ⟨b, off, none⟩)) 3 = some (.pointer (some ⟨b, off + 8, none⟩)) := by kernel_rfl
theorem zbyd (a : Addr) : bin2 Tryz.prog .eql 97 (.pointer (some a)) (.pointer none) = some (.bool false) := by kernel_rfl
theorem zbyt : bin2 Tryz.prog .eql 97 (.pointer none) (.pointer none) = some (.bool true) := by kernel_rfl
theorem zbxt (b off : Nat) : evFieldAddr Tryz.prog 135 (.pointer (some ⟨b, off, none⟩)) 0 = some (.pointer (some ⟨b, off + 0, none⟩)) := by kernel_rfl
theorem zbxd (b off : Nat) : evFieldAddr Tryz.prog 100 (.pointer (some ⟨b, off, none⟩)) 3 = some (.pointer (some ⟨b, off + 3, none⟩)) := by kernel_rfl
theorem ag94 : agg? Tryz.prog 94 = some false := by kernel_rfl
theorem ldr94 {β : Type} {W : Nat → Prop} {n0 : Nat} {h : H} {n : Nat} {Q : β → H → Nat → Prop} (b off : Nat) (k : Value → M β) (hb : b < n) : Run W n0 ((inside (evLoad Tryz.prog 94 (.pointer (some ⟨b, off, none⟩)))).bind k) h n Q ↔ optG (h.get b) fun B => Run W n0 (optK (B.cells[off]?) k) h n Q := zafc ag94 b off k hb
theorem sz70 : size? Tryz.prog 70 = some 1 := by kernel_rfl
theorem str70 {β : Type} {W : Nat → Prop} {n0 : Nat} {h : H} {n : Nat} {Q : β → H → Nat → Prop} (b off : Nat) (v : Value) (k : Value → M β) (hb : b < n) (h1 : one v = true) : Run W n0 ((inside (evStore Tryz.prog 70 (.pointer (some ⟨b, off, none⟩)) v)).bind k) h n Q ↔ optG (h.get b) fun B => B.own = true ∧ off < B.cells.length ∧ (n0 ≤ b ∨ W b) ∧ Run W n0 (k undef) (h.set b (some ⟨B.elem, B.own, B.cells.set off v⟩)) n Q := zalz sz70 b off v k hb h1
theorem sz94 : size? Tryz.prog 94 = some 1 := by kernel_rfl
theorem str94 {β : Type} {W : Nat → Prop} {n0 : Nat} {h : H} {n : Nat} {Q : β → H → Nat → Prop} (b off : Nat) (v : Value) (k : Value → M β) (hb : b < n) (h1 : one v = true) : Run W n0 ((inside (evStore Tryz.prog 94 (.pointer (some ⟨b, off, none⟩)) v)).bind k) h n Q ↔ optG (h.get b) fun B => B.own = true ∧ off < B.cells.length ∧ (n0 ≤ b ∨ W b) ∧ Run W n0 (k undef) (h.set b (some ⟨B.elem, B.own, B.cells.set off v⟩)) n Q := zalz sz94 b off v k hb h1
theorem zcbn (v0a : Option Addr) (v0n v0c : Nat) : evBuild Tryz.prog 67 [(0, (Value.slice v0a v0n v0c))] = M.ret (.agg #[(Value.slice v0a v0n v0c), (Go.Value.slice none 0 0)]) := by kernel_rfl
theorem zbse (v0a : Option Addr) (v0n v0c : Nat) (v1a : Option Addr) (v1n v1c : Nat) : evBuild Tryz.prog 67 [(0, (Value.slice v0a v0n v0c)), (1, (Value.slice v1a v1n v1c))] = M.ret (.agg #[(Value.slice v0a v0n v0c), (Value.slice v1a v1n v1c)]) := by kernel_rfl
theorem zbxi (a : Addr) (n c : Nat) : bin2 Tryz.prog .eql 22 (.slice (some a) n c) (.slice none 0 0) = some (.bool false) := by kernel_rfl
theorem zbvz (n c : Nat) : bin2 Tryz.prog .eql 22 (.slice none n c) (.slice none 0 0) = some (.bool true) := by kernel_rfl
theorem zbxy (a : Addr) : bin2 Tryz.prog .eql 72 (.pointer (some a)) (.pointer none) = some (.bool false) := by kernel_rfl
theorem zbvx : bin2 Tryz.prog .eql 72 (.pointer none) (.pointer none) = some (.bool true) := by kernel_rfl
theorem zbya (b off : Nat) : evFieldAddr Tryz.prog 111 (.pointer (some ⟨b, off, none⟩)) 0 = some (.pointer (some ⟨b, off + 0, none⟩)) := by kernel_rfl
theorem beql5 (a b : Int) : bin2 Tryz.prog .eql 5 (.int .u8 a) (.int .u8 b) = some (.bool (a == b)) := b_eql nt5 a b
theorem zcdi (a b : Int) : bin2 Tryz.prog .mul 23 (.int .u32 a) (.int .u32 b) = some (.int .u32 (IntKind.u32.wrap (a * b))) := b_mul nt23 a b
theorem bsub5 (a b : Int) : bin2 Tryz.prog .sub 5 (.int .u8 a) (.int .u8 b) = some (.int .u8 (IntKind.u8.wrap (a - b))) := b_sub nt5 a b
theorem zbyh (v2 : Int) : evBuild Tryz.prog 126 [(2, (Value.int .i64 v2))] = M.ret (.agg #[(Go.Value.slice none 0 0), (Go.Value.int Go.IntKind.i64 0), (Value.int .i64 v2)]) := by kernel_rfl
theorem zbpt (v0a : Option Addr) (v0n v0c : Nat) (v1 : Int) : evBuild Tryz.prog 126 [(0, (Value.slice v0a v0n v0c)), (1, (Value.int .i64 v1))] = M.ret (.agg #[(Value.slice v0a v0n v0c), (Value.int .i64 v1), (Go.Value.int Go.IntKind.i64 0)]) := by kernel_rfl
theorem ia132 (b off : Nat) (k : IntKind) (i : Int) (h0 : 0 ≤ i) (h1 : i < 6) : evIndexAddr Tryz.prog 132 (.pointer (some ⟨b, off, none⟩)) (.int k i) = some (.pointer (some ⟨b, off + i.toNat, none⟩)) := (zbbs Tryz.underlying132 sz3 b off k i h0 h1).trans (by rw [Nat.mul_one])
theorem zbxb (b off : Nat) : evFieldAddr Tryz.prog 135 (.pointer (some ⟨b, off, none⟩)) 4 = some (.pointer (some ⟨b, off + 9, none⟩)) := by kernel_rfl
theorem zbyv (a : Addr) : bin2 Tryz.prog .eql 94 (.pointer (some a)) (.pointer none) = some (.bool false) := by kernel_rfl
theorem zbvn : bin2 Tryz.prog .eql 94 (.pointer none) (.pointer none) = some (.bool true) := by kernel_rfl
theorem zbvf (b off : Nat) : evFieldAddr Tryz.prog 130 (.pointer (some ⟨b, off, none⟩)) 3 = some (.pointer (some ⟨b, off + 3, none⟩)) := by kernel_rfl
theorem zbwv (a : Addr) : bin2 Tryz.prog .neq 94 (.pointer (some a)) (.pointer none) = some (.bool true) := by kernel_rfl
theorem zbxj : bin2 Tryz.prog .neq 94 (.pointer none) (.pointer none) = some (.bool false) := by kernel_rfl
theorem zbwm (b off : Nat) : evFieldAddr Tryz.prog 130 (.pointer (some ⟨b, off, none⟩)) 2 = some (.pointer (some ⟨b, off + 2, none⟩)) := by kernel_rfl
theorem zbyn (b off : Nat) : evFieldAddr Tryz.prog 130 (.pointer (some ⟨b, off, none⟩)) 0 = some (.pointer (some ⟨b, off + 0, none⟩)) := by kernel_rfl
theorem bshl3 {k' : IntKind} (a b : Int) (h0 : 0 ≤ b) : bin2 Tryz.prog .shl 3 (.int .i64 a) (.int k' b) = some (.int .i64 (IntKind.i64.wrap (a * 2 ^ (min b.toNat (IntKind.i64).bits)))) := b_shl nt3 a b h0
theorem zbkh (v0 : Int) (v1 : Int) (v2a : Option Addr) (v2n v2c : Nat) : evBuild Tryz.prog 151 [(0, (Value.int .i64 v0)), (1, (Value.int .i64 v1)), (2, (Value.slice v2a v2n v2c))] = M.ret (.agg #[(Value.int .i64 v0), (Value.int .i64 v1), (Value.slice v2a v2n v2c)]) := by kernel_rfl
theorem zcco (a : Option Addr) (n c : Nat) : len2 Tryz.prog #[149] [.slice a n c] = some (.int .i64 n) := zaul Tryz.underlying149 a n c
theorem sz151 : size? Tryz.prog 151 = some 3 := by kernel_rfl
theorem ix149 (b off n c : Nat) (k : IntKind) (i : Int) (h0 : 0 ≤ i) (h1 : i < n) : evIndexAddr Tryz.prog 149 (.slice (some ⟨b, off, none⟩) n c) (.int k i) = some (.pointer (some ⟨b, off + i.toNat * 3, none⟩)) := zaos Tryz.underlying149 sz151 b off n c k i h0 h1
theorem zbyf (b off : Nat) : evFieldAddr Tryz.prog 151 (.pointer (some ⟨b, off, none⟩)) 2 = some (.pointer (some ⟨b, off + 2, none⟩)) := by kernel_rfl
theorem zbxn (b off : Nat) : evFieldAddr Tryz.prog 151 (.pointer (some ⟨b, off, none⟩)) 0 = some (.pointer (some ⟨b, off + 0, none⟩)) := by kernel_rfl
theorem zcdx (a b : Int) : bin2 Tryz.prog .eql 23 (.int .u32 a) (.int .u32 b) = some (.bool (a == b)) := b_eql nt23 a b
theorem zbxv (b off : Nat) : evFieldAddr Tryz.prog 135 (.pointer (some ⟨b, off, none⟩)) 2 = some (.pointer (some ⟨b, off + 2, none⟩)) := by kernel_rfl
theorem zbxf (b off : Nat) : evFieldAddr Tryz.prog 130 (.pointer (some ⟨b, off, none⟩)) 1 = some (.pointer (some ⟨b, off + 1, none⟩)) := by kernel_rfl
theorem bor23 (a b : Int) : bin2 Tryz.prog .or 23 (.int .u32 a) (.int .u32 b) = some (.int .u32 (IntKind.u32.wrap (BitVec.ofInt (IntKind.u32).bits a ||| BitVec.ofInt (IntKind.u32).bits b).toNat)) := b_or nt23 a b
theorem zbxg (b off : Nat) : evFieldAddr Tryz.prog 164 (.pointer (some ⟨b, off, none⟩)) 0 = some (.pointer (some ⟨b, off + 0, none⟩)) := by kernel_rfl
theorem zbyl (b off : Nat) : evFieldAddr Tryz.prog 164 (.pointer (some ⟨b, off, none⟩)) 1 = some (.pointer (some ⟨b, off + 1, none⟩)) := by kernel_rfl
theorem zbye (b off : Nat) : evFieldAddr Tryz.prog 151 (.pointer (some ⟨b, off, none⟩)) 1 = some (.pointer (some ⟨b, off + 1, none⟩)) := by kernel_rfl
theorem bshr5 {k' : IntKind} (a b : Int) (h0 : 0 ≤ b) : bin2 Tryz.prog .shr 5 (.int .u8 a) (.int k' b) = some (.int .u8 (a.fdiv (2 ^ (min b.toNat (IntKind.u8).bits)))) := b_shr nt5 a b h0
theorem band5 (a b : Int) : bin2 Tryz.prog .and 5 (.int .u8 a) (.int .u8 b) = some (.int .u8 (IntKind.u8.wrap (BitVec.ofInt (IntKind.u8).bits a &&& BitVec.ofInt (IntKind.u8).bits b).toNat)) := b_and nt5 a b
theorem zbpu (v0a : Option Addr) (v0n v0c : Nat) (v3 : Int) : evBuild Tryz.prog 164 [(0, (Value.slice v0a v0n v0c)), (3, (Value.int .i64 v3))] = M.ret (.agg #[(Value.slice v0a v0n v0c), (Go.Value.slice none 0 0), (Go.Value.slice none 0 0), (Value.int .i64 v3)]) := by kernel_rfl
theorem zbyq (b off : Nat) : evFieldAddr Tryz.prog 164 (.pointer (some ⟨b, off, none⟩)) 2 = some (.pointer (some ⟨b, off + 2, none⟩)) := by kernel_rfl
theorem zbxp (b off : Nat) : evFieldAddr Tryz.prog 164 (.pointer (some ⟨b, off, none⟩)) 3 = some (.pointer (some ⟨b, off + 3, none⟩)) := by kernel_rfl
theorem zbxq {β : Type} (x : Int) (k : Value → M β) : conv2 Tryz.prog 3 157 (.int .i64 x) k = k (.int .u64 (IntKind.u64.wrap x)) := by kernel_rfl
theorem nt157 : isNilT Tryz.prog 157 = false := by kernel_rfl
theorem zbvc {k' : IntKind} (a b : Int) (h0 : 0 ≤ b) : bin2 Tryz.prog .shr 157 (.int .u64 a) (.int k' b) = some (.int .u64 (a.fdiv (2 ^ (min b.toNat (IntKind.u64).bits)))) := b_shr nt157 a b h0
theorem zbvy {β : Type} (x : Int) (k : Value → M β) : conv2 Tryz.prog 157 3 (.int .u64 x) k = k (.int .i64 (IntKind.i64.wrap x)) := by kernel_rfl
theorem FX1 : type_of% (And.intro @ia24 (And.intro @ldr23 (And.intro @zccv (And.intro @zced (And.intro @len22 (And.intro @bgtr3 (And.intro @bleq3 (And.intro @zcen (And.intro @beql3 (And.intro @len9 (And.intro @badd9 (And.intro @beql9 (And.intro @ia41 (And.intro @ldr3 (And.intro @blss3 (And.intro @bmul3 (And.intro @slh9 (And.intro @sll9 (And.intro @slb9 (And.intro @zcdf (And.intro @zceo (And.intro @ldr22 (And.intro @zcdv (And.intro @badd3 (And.intro @zcdq (And.intro @bneq3 (And.intro @bsub3 (And.intro @zccd (And.intro @bgeq3 (And.intro @zcaw (And.intro @zbxk (And.intro @zcek (And.intro @bd63x (And.intro @zbwg (And.intro @zbyo (And.intro @zcby (And.intro @zcea (And.intro @zcai (And.intro @zccw (And.intro @zcdr (And.intro @ldr65 (And.intro @len65 (And.intro @ix65 (And.intro @ix22 (And.intro @bquo3 (And.intro @ix70 (And.intro @ldr72 (And.intro @zcbz (And.intro @zccb (@zcaz)))))))))))))))))))))))))))))))))))))))))))))))))) := And.intro @ia24 (And.intro @ldr23 (And.intro @zccv (And.intro @zced (And.intro @len22 (And.intro @bgtr3 (And.intro @bleq3 (And.intro @zcen (And.intro @beql3 (And.intro @len9 (And.intro @badd9 (And.intro @beql9 (And.intro @ia41 (And.intro @ldr3 (And.intro @blss3 (And.intro @bmul3 (And.intro @slh9 (And.intro @sll9 (And.intro @slb9 (And.intro @zcdf (And.intro @zceo (And.intro @ldr22 (And.intro @zcdv (And.intro @badd3 (And.intro @zcdq (And.intro @bneq3 (And.intro @bsub3 (And.intro @zccd (And.intro @bgeq3 (And.intro @zcaw (And.intro @zbxk (And.intro @zcek (And.intro @bd63x (And.intro @zbwg (And.intro @zbyo (And.intro @zcby (And.intro @zcea (And.intro @zcai (And.intro @zccw (And.intro @zcdr (And.intro @ldr65 (And.intro @len65 (And.intro @ix65 (And.intro @ix22 (And.intro @bquo3 (And.intro @ix70 (And.intro @ldr72 (And.intro @zcbz (And.intro @zccb (@zcaz)))))))))))))))))))))))))))))))))))))))))))))))))
theorem FX2 : type_of% (And.intro @ix80 (And.intro @ldr82 (And.intro @ix82 (And.intro @ldr9 (And.intro @zbxw (And.intro @zbwe (And.intro @brem3 (And.intro @zcdy (And.intro @ldr61 (And.intro @str61 (And.intro @zccu (And.intro @zcbo (And.intro @zccp (And.intro @zbvt (And.intro @zbxa (And.intro @zceh (And.intro @zcbr (And.intro @str3 (And.intro @zcbd (And.intro @zccr (And.intro @zcdd (And.intro @zcak (And.intro @zcci (And.intro @zcal (And.intro @zcej (And.intro @zcbb (And.intro @ldr80 (And.intro @zbma (And.intro @ixs9 (And.intro @zcbh (And.intro @zbkf (And.intro @zbxs (And.intro @zbxl (And.intro @zbvr (And.intro @ldr4 (And.intro @zbwz (And.intro @zbuy (And.intro @zbwx (And.intro @ldr29 (And.intro @zbwn (And.intro @ldr97 (And.intro @zbyb (And.intro @ldr70 (And.intro @len70 (And.intro @str29 (And.intro @zbxc (And.intro @zbvq (And.intro @zcat (And.intro @str9 (@zcdh)))))))))))))))))))))))))))))))))))))))))))))))))) := And.intro @ix80 (And.intro @ldr82 (And.intro @ix82 (And.intro @ldr9 (And.intro @zbxw (And.intro @zbwe (And.intro @brem3 (And.intro @zcdy (And.intro @ldr61 (And.intro @str61 (And.intro @zccu (And.intro @zcbo (And.intro @zccp (And.intro @zbvt (And.intro @zbxa (And.intro @zceh (And.intro @zcbr (And.intro @str3 (And.intro @zcbd (And.intro @zccr (And.intro @zcdd (And.intro @zcak (And.intro @zcci (And.intro @zcal (And.intro @zcej (And.intro @zcbb (And.intro @ldr80 (And.intro @zbma (And.intro @ixs9 (And.intro @zcbh (And.intro @zbkf (And.intro @zbxs (And.intro @zbxl (And.intro @zbvr (And.intro @ldr4 (And.intro @zbwz (And.intro @zbuy (And.intro @zbwx (And.intro @ldr29 (And.intro @zbwn (And.intro @ldr97 (And.intro @zbyb (And.intro @ldr70 (And.intro @len70 (And.intro @str29 (And.intro @zbxc (And.intro @zbvq (And.intro @zcat (And.intro @str9 (@zcdh)))))))))))))))))))))))))))))))))))))))))))))))))
theorem FX3 : type_of% (And.intro @zcbi (And.intro @zcbc (And.intro @ldr5 (And.intro @bshl5 (And.intro @bor5 (And.intro @str5 (And.intro @bd67x (And.intro @zceb (And.intro @zcca (And.intro @zcaq (And.intro @ldr27 (And.intro @zbps (And.intro @zbvl (And.intro @ia108 (And.intro @zbxh (And.intro @zbyz (And.intro @ia109 (And.intro @zbxm (And.intro @zcdc (And.intro @ix107 (And.intro @str23 (And.intro @str22 (And.intro @zcbg (And.intro @zbtm (And.intro @zccf (And.intro @zbso (And.intro @cv5x3 (And.intro @zbhk (And.intro @bd91x (And.intro @zbwt (And.intro @zbrw (And.intro @zbwp (And.intro @zbzg (And.intro @str80 (And.intro @len82 (And.intro @zbvb (And.intro @zbzd (And.intro @zbyp (And.intro @str4 (And.intro @zbvo (And.intro @zbww (And.intro @zbvv (And.intro @zbvj (And.intro @zbyd (And.intro @zbyt (And.intro @zbxt (And.intro @zbxd (And.intro @ldr94 (And.intro @str70 (@str94)))))))))))))))))))))))))))))))))))))))))))))))))) := And.intro @zcbi (And.intro @zcbc (And.intro @ldr5 (And.intro @bshl5 (And.intro @bor5 (And.intro @str5 (And.intro @bd67x (And.intro @zceb (And.intro @zcca (And.intro @zcaq (And.intro @ldr27 (And.intro @zbps (And.intro @zbvl (And.intro @ia108 (And.intro @zbxh (And.intro @zbyz (And.intro @ia109 (And.intro @zbxm (And.intro @zcdc (And.intro @ix107 (And.intro @str23 (And.intro @str22 (And.intro @zcbg (And.intro @zbtm (And.intro @zccf (And.intro @zbso (And.intro @cv5x3 (And.intro @zbhk (And.intro @bd91x (And.intro @zbwt (And.intro @zbrw (And.intro @zbwp (And.intro @zbzg (And.intro @str80 (And.intro @len82 (And.intro @zbvb (And.intro @zbzd (And.intro @zbyp (And.intro @str4 (And.intro @zbvo (And.intro @zbww (And.intro @zbvv (And.intro @zbvj (And.intro @zbyd (And.intro @zbyt (And.intro @zbxt (And.intro @zbxd (And.intro @ldr94 (And.intro @str70 (@str94)))))))))))))))))))))))))))))))))))))))))))))))))
theorem FX4 : type_of% (And.intro @zcbn (And.intro @zbse (And.intro @zbxi (And.intro @zbvz (And.intro @zbxy (And.intro @zbvx (And.intro @zbya (And.intro @beql5 (And.intro @zcdi (And.intro @bsub5 (And.intro @zbyh (And.intro @zbpt (And.intro @ia132 (And.intro @zbxb (And.intro @zbyv (And.intro @zbvn (And.intro @zbvf (And.intro @zbwv (And.intro @zbxj (And.intro @zbwm (And.intro @zbyn (And.intro @bshl3 (And.intro @zbkh (And.intro @zcco (And.intro @ix149 (And.intro @zbyf (And.intro @zbxn (And.intro @zcdx (And.intro @zbxv (And.intro @zbxf (And.intro @bor23 (And.intro @zbxg (And.intro @zbyl (And.intro @zbye (And.intro @bshr5 (And.intro @band5 (And.intro @zbpu (And.intro @zbyq (And.intro @zbxp (And.intro @zbxq (And.intro @zbvc (@zbvy)))))))))))))))))))))))))))))))))))))))))) := And.intro @zcbn (And.intro @zbse (And.intro @zbxi (And.intro @zbvz (And.intro @zbxy (And.intro @zbvx (And.intro @zbya (And.intro @beql5 (And.intro @zcdi (And.intro @bsub5 (And.intro @zbyh (And.intro @zbpt (And.intro @ia132 (And.intro @zbxb (And.intro @zbyv (And.intro @zbvn (And.intro @zbvf (And.intro @zbwv (And.intro @zbxj (And.intro @zbwm (And.intro @zbyn (And.intro @bshl3 (And.intro @zbkh (And.intro @zcco (And.intro @ix149 (And.intro @zbyf (And.intro @zbxn (And.intro @zcdx (And.intro @zbxv (And.intro @zbxf (And.intro @bor23 (And.intro @zbxg (And.intro @zbyl (And.intro @zbye (And.intro @bshr5 (And.intro @band5 (And.intro @zbpu (And.intro @zbyq (And.intro @zbxp (And.intro @zbxq (And.intro @zbvc (@zbvy)))))))))))))))))))))))))))))))))))))))))

noncomputable def zawb (lf d : Nat) (a0 : Value) : M Value :=
 optK (bin2 Tryz.prog .geq 3 a0 (Value.int .i64 3)) fun v4n1 =>
 ifV v4n1 (
  optK (bin2 Tryz.prog .leq 3 a0 (Value.int .i64 258)) fun v7n2 =>
  outK [v7n2]) (
  outK [(Value.bool false)])
theorem zbhg (lf d : Nat) (a0 : Value) : zaac Tryz.prog gt lf (d + 1) 23 #[a0] = inside (zawb lf d a0) := by kernel_rfl

noncomputable def zadx (lf d fu : Nat) (k : Ex → Fr → M Value) (x0 x1 x4 x10 x12 x13 : Value) : M Value := loopK (fun s1 k1 => codeK Tryz.prog (zaac Tryz.prog gt lf d) (gt 27) lf (codeAt (bodyOf Tryz.prog 27) [true, true, false, true, false, false]) s1 k1) [0, 1, 4, 10, 12, 13] fu [(0, x0), (1, x1), (4, x4), (10, x10), (12, x12), (13, x13)] k
noncomputable def zabx (lf d : Nat) : Ex → Fr → M Value := contAt Tryz.prog (zaac Tryz.prog gt lf d) (gt 27) lf (bodyOf Tryz.prog 27) [true, true, false, true, false] (endK Tryz.prog (resOf Tryz.prog 27))
noncomputable def zawi (lf d : Nat) (a0 a1 : Value) : M Value :=
 optK (len2 Tryz.prog #[22] [a0]) fun v7n1 =>
 optK (len2 Tryz.prog #[22] [a1]) fun v9n2 =>
 optK (bin2 Tryz.prog .neq 3 v7n1 v9n2) fun v10n3 =>
 ifV v10n3 (
  outK [(Value.bool false)]) (
  optK (len2 Tryz.prog #[22] [a0]) fun v12n4 =>
  zadx lf d lf (zabx lf d) a0 a1 (Value.bool false) v10n3 v12n4 (Value.int .i64 0))
theorem zbir (lf d : Nat) (a0 a1 : Value) : zaac Tryz.prog gt lf (d + 1) 27 #[a0, a1] = inside (zawi lf d a0 a1) := by kernel_rfl
theorem zapi (lf d fu : Nat) (k : Ex → Fr → M Value) (x0 x1 x4 x10 x12 x13 : Value) : zadx lf d (fu + 1) k x0 x1 x4 x10 x12 x13 =
 optK (bin2 Tryz.prog .lss 3 x13 x12) fun v14n5 =>
 ifV v14n5 (
  optK (evIndexAddr Tryz.prog 22 x0 x13) fun v18n6 =>
  (inside (evLoad Tryz.prog 3 v18n6)).bind fun v19n7 =>
  optK (evIndexAddr Tryz.prog 22 x1 x13) fun v22n8 =>
  (inside (evLoad Tryz.prog 3 v22n8)).bind fun v23n9 =>
  optK (bin2 Tryz.prog .neq 3 v19n7 v23n9) fun v24n10 =>
  ifV v24n10 (
   k Ex.ret [(0, x0), (1, x1), (4, (Value.bool false)), (5, x13), (10, x10), (12, x12), (13, x13), (14, v14n5), (24, v24n10)]) (
   optK (bin2 Tryz.prog .add 3 x13 (Value.int .i64 1)) fun v25n11 =>
   zadx lf d fu k x0 x1 x4 x10 x12 v25n11)) (
  k (Ex.exit 0) [(0, x0), (1, x1), (4, x4), (10, x10), (12, x12), (13, x13), (14, v14n5)]) := by kernel_rfl
theorem zbeg (lf d : Nat) (y0 y1 y4 y5 y10 y12 y13 y14 y24 : Value) : zabx lf d Ex.ret [(0, y0), (1, y1), (4, y4), (5, y5), (10, y10), (12, y12), (13, y13), (14, y14), (24, y24)] =
 outK [y4] := by kernel_rfl
theorem zbea (lf d : Nat) (y0 y1 y4 y10 y12 y13 y14 : Value) : zabx lf d (Ex.exit 0) [(0, y0), (1, y1), (4, y4), (10, y10), (12, y12), (13, y13), (14, y14)] =
 outK [(Value.bool true)] := by kernel_rfl

noncomputable def zazw (lf d fu : Nat) (k : Ex → Fr → M Value) (x0 x1 x3 x4 x5 x6 x19 x21 x22 x23 : Value) : M Value := loopK (fun s1 k1 => codeK Tryz.prog (zaac Tryz.prog gt lf d) (gt 43) lf (codeAt (bodyOf Tryz.prog 43) [true, true, true, false, true, false, false]) s1 k1) [0, 1, 3, 4, 5, 6, 19, 21, 22, 23] fu [(0, x0), (1, x1), (3, x3), (4, x4), (5, x5), (6, x6), (19, x19), (21, x21), (22, x22), (23, x23)] k
noncomputable def zale (lf d : Nat) : Ex → Fr → M Value := contAt Tryz.prog (zaac Tryz.prog gt lf d) (gt 43) lf (bodyOf Tryz.prog 43) [true, true, true, false, true, false] (endK Tryz.prog (resOf Tryz.prog 43))
noncomputable def zacb (lf d fu : Nat) (k : Ex → Fr → M Value) (x0 x1 x4 x7 x8 : Value) : M Value := loopK (fun s1 k1 => codeK Tryz.prog (zaac Tryz.prog gt lf d) (gt 64) lf (codeAt (bodyOf Tryz.prog 64) [true, false, true, false, false]) s1 k1) [0, 1, 4, 7, 8] fu [(0, x0), (1, x1), (4, x4), (7, x7), (8, x8)] k
noncomputable def zabf (lf d : Nat) : Ex → Fr → M Value := contAt Tryz.prog (zaac Tryz.prog gt lf d) (gt 64) lf (bodyOf Tryz.prog 64) [true, false, true, false] (endK Tryz.prog (resOf Tryz.prog 64))
noncomputable def zaod (lf d : Nat) (a0 a1 : Value) : M Value :=
 optK (len2 Tryz.prog #[22] [a0]) fun v7n1 =>
 zacb lf d lf (zabf lf d) a0 a1 (Value.int .i64 0) v7n1 (Value.int .i64 0)
theorem zaze (lf d : Nat) (a0 a1 : Value) : zaac Tryz.prog gt lf (d + 1) 64 #[a0, a1] = inside (zaod lf d a0 a1) := by kernel_rfl
theorem zajx (lf d fu : Nat) (k : Ex → Fr → M Value) (x0 x1 x4 x7 x8 : Value) : zacb lf d (fu + 1) k x0 x1 x4 x7 x8 =
 optK (bin2 Tryz.prog .lss 3 x8 x7) fun v9n2 =>
 ifV v9n2 (
  optK (evIndexAddr Tryz.prog 22 x0 x8) fun v14n3 =>
  (inside (evLoad Tryz.prog 3 v14n3)).bind fun v15n4 =>
  optK (bin2 Tryz.prog .eql 3 x1 v15n4) fun v16n5 =>
  ifV v16n5 (
   k Ex.ret [(0, x0), (1, x1), (4, x8), (5, x8), (7, x7), (8, x8), (9, v9n2), (16, v16n5)]) (
   optK (bin2 Tryz.prog .add 3 x8 (Value.int .i64 1)) fun v18n6 =>
   zacb lf d fu k x0 x1 x4 x7 v18n6)) (
  k (Ex.exit 0) [(0, x0), (1, x1), (4, x4), (7, x7), (8, x8), (9, v9n2)]) := by kernel_rfl
theorem zawm (lf d : Nat) (y0 y1 y4 y5 y7 y8 y9 y16 : Value) : zabf lf d Ex.ret [(0, y0), (1, y1), (4, y4), (5, y5), (7, y7), (8, y8), (9, y9), (16, y16)] =
 outK [y4] := by kernel_rfl
theorem zawu (lf d : Nat) (y0 y1 y4 y7 y8 y9 : Value) : zabf lf d (Ex.exit 0) [(0, y0), (1, y1), (4, y4), (7, y7), (8, y8), (9, y9)] =
 outK [(Value.int .i64 (-1))] := by kernel_rfl

noncomputable def zbfk (lf d fu : Nat) (k : Ex → Fr → M Value) (x0 x1 x4 x5 x6 x7 x8 x9 x18 x27 x40 : Value) : M Value := loopK (fun s1 k1 => codeK Tryz.prog (zaac Tryz.prog gt lf d) (gt 65) lf (codeAt (bodyOf Tryz.prog 65) [true, true, true, true, true, false, true, false, false]) s1 k1) [0, 1, 4, 5, 6, 7, 8, 9, 18, 27, 40] fu [(0, x0), (1, x1), (4, x4), (5, x5), (6, x6), (7, x7), (8, x8), (9, x9), (18, x18), (27, x27), (40, x40)] k
noncomputable def zaog (lf d : Nat) : Ex → Fr → M Value := contAt Tryz.prog (zaac Tryz.prog gt lf d) (gt 65) lf (bodyOf Tryz.prog 65) [true, true, true, true, true, false, true, false] (endK Tryz.prog (resOf Tryz.prog 65))
noncomputable def zany (lf d : Nat) (a0 : Value) : M Value :=
 optK (bin2 Tryz.prog .eql 22 a0 (Value.slice none 0 0)) fun v4n1 =>
 ifV v4n1 (
  outK [(Value.slice none 0 0)]) (
  (inside (evBuildSlice Tryz.prog 22 0 [])).bind fun v5n2 =>
  (inside (evAppend Tryz.prog 22 v5n2 a0)).bind fun v7n3 =>
  outK [v7n3])
theorem zazb (lf d : Nat) (a0 : Value) : zaac Tryz.prog gt lf (d + 1) 72 #[a0] = inside (zany lf d a0) := by kernel_rfl

noncomputable def zbfm (lf d fu : Nat) (k : Ex → Fr → M Value) (x0 x1 x4 x5 x6 x11 x12 x13 x14 : Value) : M Value := loopK (fun s1 k1 => codeK Tryz.prog (zaac Tryz.prog gt lf d) (gt 77) lf (codeAt (bodyOf Tryz.prog 77) [true, true, true, false, true, false, false]) s1 k1) [0, 1, 4, 5, 6, 11, 12, 13, 14] fu [(0, x0), (1, x1), (4, x4), (5, x5), (6, x6), (11, x11), (12, x12), (13, x13), (14, x14)] k
noncomputable def zaoi (lf d : Nat) : Ex → Fr → M Value := contAt Tryz.prog (zaac Tryz.prog gt lf d) (gt 77) lf (bodyOf Tryz.prog 77) [true, true, true, false, true, false] (endK Tryz.prog (resOf Tryz.prog 77))
noncomputable def zazm (lf d fu : Nat) (k : Ex → Fr → M Value) (x0 x1 x4 x5 x6 x14 x17 x18 x19 : Value) : M Value := loopK (fun s1 k1 => codeK Tryz.prog (zaac Tryz.prog gt lf d) (gt 98) lf (codeAt (bodyOf Tryz.prog 98) [true, true, true, false, true, false, false]) s1 k1) [0, 1, 4, 5, 6, 14, 17, 18, 19] fu [(0, x0), (1, x1), (4, x4), (5, x5), (6, x6), (14, x14), (17, x17), (18, x18), (19, x19)] k
noncomputable def zala (lf d : Nat) : Ex → Fr → M Value := contAt Tryz.prog (zaac Tryz.prog gt lf d) (gt 98) lf (bodyOf Tryz.prog 98) [true, true, true, false, true, false] (endK Tryz.prog (resOf Tryz.prog 98))
noncomputable def zaro (lf d fu : Nat) (k : Ex → Fr → M Value) (x0 x2 x3 x9 x10 : Value) : M Value := loopK (fun s1 k1 => codeK Tryz.prog (zaac Tryz.prog gt lf d) (gt 99) lf (codeAt (bodyOf Tryz.prog 99) [true, true, false, true, false, false]) s1 k1) [0, 2, 3, 9, 10] fu [(0, x0), (2, x2), (3, x3), (9, x9), (10, x10)] k
noncomputable def zaha (lf d : Nat) : Ex → Fr → M Value := contAt Tryz.prog (zaac Tryz.prog gt lf d) (gt 99) lf (bodyOf Tryz.prog 99) [true, true, false, true, false] (endK Tryz.prog (resOf Tryz.prog 99))
noncomputable def zaxg (lf d fu : Nat) (k : Ex → Fr → M Value) (x0 x1 x4 x5 x6 x18 x19 : Value) : M Value := loopK (fun s1 k1 => codeK Tryz.prog (zaac Tryz.prog gt lf d) (gt 100) lf (codeAt (bodyOf Tryz.prog 100) [true, true, true, false, true, false, false]) s1 k1) [0, 1, 4, 5, 6, 18, 19] fu [(0, x0), (1, x1), (4, x4), (5, x5), (6, x6), (18, x18), (19, x19)] k
noncomputable def zaju (lf d : Nat) : Ex → Fr → M Value := contAt Tryz.prog (zaac Tryz.prog gt lf d) (gt 100) lf (bodyOf Tryz.prog 100) [true, true, true, false, true, false] (endK Tryz.prog (resOf Tryz.prog 100))
noncomputable def zaon (lf d fu : Nat) (k : Ex → Fr → M Value) (x0 x1 x4 x5 x6 x8 x18 x19 x20 x29 x30 x31 : Value) : M Value := loopK (fun s1 k1 => codeK Tryz.prog (zaac Tryz.prog gt lf d) (gt 100) lf (codeAt (bodyOf Tryz.prog 100) [true, true, true, true, true, false, true, false, false]) s1 k1) [0, 1, 4, 5, 6, 8, 18, 19, 20, 29, 30, 31] fu [(0, x0), (1, x1), (4, x4), (5, x5), (6, x6), (8, x8), (18, x18), (19, x19), (20, x20), (29, x29), (30, x30), (31, x31)] k
noncomputable def zajs (lf d : Nat) : Ex → Fr → M Value := contAt Tryz.prog (zaac Tryz.prog gt lf d) (gt 100) lf (bodyOf Tryz.prog 100) [true, true, true, true, true, false, true, false] (endK Tryz.prog (resOf Tryz.prog 100))
noncomputable def zayj (lf d fu : Nat) (k : Ex → Fr → M Value) (x0 x1 x4 x5 x6 x8 x9 x10 x11 x18 x19 x20 x29 x30 x31 x32 x42 x43 : Value) : M Value := loopK (fun s1 k1 => codeK Tryz.prog (zaac Tryz.prog gt lf d) (gt 100) lf (codeAt (bodyOf Tryz.prog 100) [true, true, true, true, true, false, true, false, false, true, true, false, false, true, true, false, true, false, false]) s1 k1) [0, 1, 4, 5, 6, 8, 9, 10, 11, 18, 19, 20, 29, 30, 31, 32, 42, 43] fu [(0, x0), (1, x1), (4, x4), (5, x5), (6, x6), (8, x8), (9, x9), (10, x10), (11, x11), (18, x18), (19, x19), (20, x20), (29, x29), (30, x30), (31, x31), (32, x32), (42, x42), (43, x43)] k
noncomputable def zaji (lf d fu : Nat) (k : Ex → Fr → M Value) : Ex → Fr → M Value := contAt Tryz.prog (zaac Tryz.prog gt lf d) (gt 100) lf (codeAt (bodyOf Tryz.prog 100) [true, true, true, true, true, false, true, false, false]) [true, true, false, false, true, true, false, true, false] (againK (fun s1 => loopK (fun s1 k1 => codeK Tryz.prog (zaac Tryz.prog gt lf d) (gt 100) lf (codeAt (bodyOf Tryz.prog 100) [true, true, true, true, true, false, true, false, false]) s1 k1) [0, 1, 4, 5, 6, 8, 18, 19, 20, 29, 30, 31] fu (s1.keep [0, 1, 4, 5, 6, 8, 18, 19, 20, 29, 30, 31]) k) k)
noncomputable def zayg (lf d fu : Nat) (k : Ex → Fr → M Value) (x0 x1 x2 x6 x7 x8 x9 x27 x28 : Value) : M Value := loopK (fun s1 k1 => codeK Tryz.prog (zaac Tryz.prog gt lf d) (gt 101) lf (codeAt (bodyOf Tryz.prog 101) [true, true, true, false, true, false, false]) s1 k1) [0, 1, 2, 6, 7, 8, 9, 27, 28] fu [(0, x0), (1, x1), (2, x2), (6, x6), (7, x7), (8, x8), (9, x9), (27, x27), (28, x28)] k
noncomputable def zajr (lf d : Nat) : Ex → Fr → M Value := contAt Tryz.prog (zaac Tryz.prog gt lf d) (gt 101) lf (bodyOf Tryz.prog 101) [true, true, true, false, true, false] (endK Tryz.prog (resOf Tryz.prog 101))
noncomputable def zaxr (lf d fu : Nat) (k : Ex → Fr → M Value) (x0 x1 x2 x6 x7 x8 x9 x27 x28 x29 x37 x38 x39 : Value) : M Value := loopK (fun s1 k1 => codeK Tryz.prog (zaac Tryz.prog gt lf d) (gt 101) lf (codeAt (bodyOf Tryz.prog 101) [true, true, true, true, false, true, false, false]) s1 k1) [0, 1, 2, 6, 7, 8, 9, 27, 28, 29, 37, 38, 39] fu [(0, x0), (1, x1), (2, x2), (6, x6), (7, x7), (8, x8), (9, x9), (27, x27), (28, x28), (29, x29), (37, x37), (38, x38), (39, x39)] k
noncomputable def zajw (lf d : Nat) : Ex → Fr → M Value := contAt Tryz.prog (zaac Tryz.prog gt lf d) (gt 101) lf (bodyOf Tryz.prog 101) [true, true, true, true, false, true, false] (endK Tryz.prog (resOf Tryz.prog 101))
noncomputable def zaxj (lf d fu : Nat) (k : Ex → Fr → M Value) (x0 x1 x2 x6 x7 x8 x9 x18 x27 x28 x29 x37 x38 x39 x40 x70 x71 x72 : Value) : M Value := loopK (fun s1 k1 => codeK Tryz.prog (zaac Tryz.prog gt lf d) (gt 101) lf (codeAt (bodyOf Tryz.prog 101) [true, true, true, true, true, true, false, true, false, false]) s1 k1) [0, 1, 2, 6, 7, 8, 9, 18, 27, 28, 29, 37, 38, 39, 40, 70, 71, 72] fu [(0, x0), (1, x1), (2, x2), (6, x6), (7, x7), (8, x8), (9, x9), (18, x18), (27, x27), (28, x28), (29, x29), (37, x37), (38, x38), (39, x39), (40, x40), (70, x70), (71, x71), (72, x72)] k
noncomputable def zajv (lf d : Nat) : Ex → Fr → M Value := contAt Tryz.prog (zaac Tryz.prog gt lf d) (gt 101) lf (bodyOf Tryz.prog 101) [true, true, true, true, true, true, false, true, false] (endK Tryz.prog (resOf Tryz.prog 101))
noncomputable def zaio (lf d : Nat) (a0 a1 : Value) : M Value :=
 (inside (zaac Tryz.prog gt lf d 128 #[a0, a1])).bind fun v7n1 =>
 optK (bin2 Tryz.prog .geq 3 v7n1 (Value.int .i64 0)) fun v8n2 =>
 outK [v8n2]
theorem zari (lf d : Nat) (a0 a1 : Value) : zaac Tryz.prog gt lf (d + 1) 103 #[a0, a1] = inside (zaio lf d a0 a1) := by kernel_rfl

noncomputable def zags (lf d fu : Nat) (k : Ex → Fr → M Value) (x0 x2 x3 x4 x14 x15 x16 x17 : Value) : M Value := loopK (fun s1 k1 => codeK Tryz.prog (zaac Tryz.prog gt lf d) (gt 108) lf (codeAt (bodyOf Tryz.prog 108) [true, true, true, false, true, false, false]) s1 k1) [0, 2, 3, 4, 14, 15, 16, 17] fu [(0, x0), (2, x2), (3, x3), (4, x4), (14, x14), (15, x15), (16, x16), (17, x17)] k
noncomputable def zaev (lf d : Nat) : Ex → Fr → M Value := contAt Tryz.prog (zaac Tryz.prog gt lf d) (gt 108) lf (bodyOf Tryz.prog 108) [true, true, true, false, true, false] (endK Tryz.prog (resOf Tryz.prog 108))
noncomputable def zbia (lf d : Nat) (a0 : Value) : M Value :=
 optK (len2 Tryz.prog #[22] [a0]) fun v8n1 =>
 optK (bin2 Tryz.prog .gtr 3 v8n1 (Value.int .i64 258)) fun v9n2 =>
 ifV v9n2 (
  outK [(Value.int .i64 0), (Value.int .i64 1)]) (
  (inside (zaac Tryz.prog gt lf d 130 #[a0, (Value.int .i64 0), (Value.int .i64 20)])).bind fun v12n3 =>
  optK (un2 Tryz.prog .not v12n3) fun v13n4 =>
  ifV v13n4 (
   outK [(Value.int .i64 0), (Value.int .i64 1)]) (
   optK (len2 Tryz.prog #[22] [a0]) fun v16n5 =>
   zags lf d lf (zaev lf d) a0 (Value.int .i64 0) (Value.int .i64 0) (Value.int .i64 0) v13n4 a0 v16n5 (Value.int .i64 0)))
theorem zbre (lf d : Nat) (a0 : Value) : zaac Tryz.prog gt lf (d + 1) 108 #[a0] = inside (zbia lf d a0) := by kernel_rfl
theorem zaxo (lf d fu : Nat) (k : Ex → Fr → M Value) (x0 x2 x3 x4 x14 x15 x16 x17 : Value) : zags lf d (fu + 1) k x0 x2 x3 x4 x14 x15 x16 x17 =
 optK (bin2 Tryz.prog .lss 3 x17 x16) fun v18n6 =>
 ifV v18n6 (
  optK (evIndexAddr Tryz.prog 22 x15 x17) fun v19n7 =>
  (inside (evLoad Tryz.prog 3 v19n7)).bind fun v20n8 =>
  optK (bin2 Tryz.prog .sub 3 (Value.int .i64 20) v20n8) fun v23n9 =>
  optK (bin2 Tryz.prog .shl 3 (Value.int .i64 1) v23n9) fun v24n10 =>
  optK (bin2 Tryz.prog .add 3 x4 v24n10) fun v25n11 =>
  optK (bin2 Tryz.prog .add 3 x17 (Value.int .i64 1)) fun v26n12 =>
  zags lf d fu k x0 x2 x3 v25n11 x14 x15 x16 v26n12) (
  k (Ex.exit 0) [(0, x0), (2, x2), (3, x3), (4, x4), (14, x14), (15, x15), (16, x16), (17, x17), (18, v18n6)]) := by kernel_rfl
theorem zbnr (lf d : Nat) (y0 y2 y3 y4 y14 y15 y16 y17 y18 : Value) : zaev lf d (Ex.exit 0) [(0, y0), (2, y2), (3, y3), (4, y4), (14, y14), (15, y15), (16, y16), (17, y17), (18, y18)] =
 outK [y4, (Value.int .i64 0)] := by kernel_rfl

noncomputable def zakx (lf d : Nat) (a0 a1 : Value) : M Value :=
 (inside (zaac Tryz.prog gt lf d 64 #[a0, a1])).bind fun v7n1 =>
 optK (bin2 Tryz.prog .geq 3 v7n1 (Value.int .i64 0)) fun v8n2 =>
 outK [v8n2]
theorem zavq (lf d : Nat) (a0 a1 : Value) : zaac Tryz.prog gt lf (d + 1) 109 #[a0, a1] = inside (zakx lf d a0 a1) := by kernel_rfl

noncomputable def zaik (lf d fu : Nat) (k : Ex → Fr → M Value) (x0 x1 x2 x6 x9 x10 x11 : Value) : M Value := loopK (fun s1 k1 => codeK Tryz.prog (zaac Tryz.prog gt lf d) (gt 117) lf (codeAt (bodyOf Tryz.prog 117) [true, false, true, false, false]) s1 k1) [0, 1, 2, 6, 9, 10, 11] fu [(0, x0), (1, x1), (2, x2), (6, x6), (9, x9), (10, x10), (11, x11)] k
noncomputable def zahr (lf d : Nat) : Ex → Fr → M Value := contAt Tryz.prog (zaac Tryz.prog gt lf d) (gt 117) lf (bodyOf Tryz.prog 117) [true, false, true, false] (endK Tryz.prog (resOf Tryz.prog 117))
noncomputable def zaxd (lf d : Nat) (a0 a1 a2 : Value) : M Value :=
 optK (len2 Tryz.prog #[22] [a0]) fun v10n1 =>
 zaik lf d lf (zahr lf d) a0 a1 a2 (Value.bool false) a0 v10n1 (Value.int .i64 0)
theorem zbjj (lf d : Nat) (a0 a1 a2 : Value) : zaac Tryz.prog gt lf (d + 1) 117 #[a0, a1, a2] = inside (zaxd lf d a0 a1 a2) := by kernel_rfl
theorem zarc (lf d fu : Nat) (k : Ex → Fr → M Value) (x0 x1 x2 x6 x9 x10 x11 : Value) : zaik lf d (fu + 1) k x0 x1 x2 x6 x9 x10 x11 =
 optK (bin2 Tryz.prog .lss 3 x11 x10) fun v12n2 =>
 ifV v12n2 (
  optK (evIndexAddr Tryz.prog 22 x9 x11) fun v13n3 =>
  (inside (evLoad Tryz.prog 3 v13n3)).bind fun v14n4 =>
  optK (bin2 Tryz.prog .lss 3 v14n4 x1) fun v17n5 =>
  ifV v17n5 (
   k Ex.ret [(0, x0), (1, x1), (2, x2), (6, (Value.bool false)), (8, v14n4), (9, x9), (10, x10), (11, x11), (12, v12n2), (22, (Value.bool true))]) (
   optK (bin2 Tryz.prog .gtr 3 v14n4 x2) fun v21n6 =>
   ifV v21n6 (
    k Ex.ret [(0, x0), (1, x1), (2, x2), (6, (Value.bool false)), (8, v14n4), (9, x9), (10, x10), (11, x11), (12, v12n2), (22, v21n6)]) (
    optK (bin2 Tryz.prog .add 3 x11 (Value.int .i64 1)) fun v23n7 =>
    zaik lf d fu k x0 x1 x2 x6 x9 x10 v23n7))) (
  k (Ex.exit 0) [(0, x0), (1, x1), (2, x2), (6, x6), (9, x9), (10, x10), (11, x11), (12, v12n2)]) := by kernel_rfl
theorem zarz (lf d : Nat) (y0 y1 y2 y6 y8 y9 y10 y11 y12 y22 : Value) : zahr lf d Ex.ret [(0, y0), (1, y1), (2, y2), (6, y6), (8, y8), (9, y9), (10, y10), (11, y11), (12, y12), (22, y22)] =
 outK [y6] := by kernel_rfl
theorem zbgp (lf d : Nat) (y0 y1 y2 y6 y9 y10 y11 y12 : Value) : zahr lf d (Ex.exit 0) [(0, y0), (1, y1), (2, y2), (6, y6), (9, y9), (10, y10), (11, y11), (12, y12)] =
 outK [(Value.bool true)] := by kernel_rfl

noncomputable def zagg (lf d fu : Nat) (k : Ex → Fr → M Value) (x0 x2 x3 x7 x8 x9 : Value) : M Value := loopK (fun s1 k1 => codeK Tryz.prog (zaac Tryz.prog gt lf d) (gt 119) lf (codeAt (bodyOf Tryz.prog 119) [true, true, false, true, false, false]) s1 k1) [0, 2, 3, 7, 8, 9] fu [(0, x0), (2, x2), (3, x3), (7, x7), (8, x8), (9, x9)] k
noncomputable def zajh (lf d : Nat) : Ex → Fr → M Value := contAt Tryz.prog (zaac Tryz.prog gt lf d) (gt 119) lf (bodyOf Tryz.prog 119) [true, true, false, true, false] (endK Tryz.prog (resOf Tryz.prog 119))
noncomputable def zagh (lf d fu : Nat) (k : Ex → Fr → M Value) (x0 x2 x3 x5 x6 x7 x8 x9 x10 x14 x15 : Value) : M Value := loopK (fun s1 k1 => codeK Tryz.prog (zaac Tryz.prog gt lf d) (gt 119) lf (codeAt (bodyOf Tryz.prog 119) [true, true, false, true, false, false, true, true, false, false, true, true, false, true, false, false]) s1 k1) [0, 2, 3, 5, 6, 7, 8, 9, 10, 14, 15] fu [(0, x0), (2, x2), (3, x3), (5, x5), (6, x6), (7, x7), (8, x8), (9, x9), (10, x10), (14, x14), (15, x15)] k
noncomputable def zarb (lf d fu : Nat) (k : Ex → Fr → M Value) : Ex → Fr → M Value := contAt Tryz.prog (zaac Tryz.prog gt lf d) (gt 119) lf (codeAt (bodyOf Tryz.prog 119) [true, true, false, true, false, false]) [true, true, false, false, true, true, false, true, false] (againK (fun s1 => loopK (fun s1 k1 => codeK Tryz.prog (zaac Tryz.prog gt lf d) (gt 119) lf (codeAt (bodyOf Tryz.prog 119) [true, true, false, true, false, false]) s1 k1) [0, 2, 3, 7, 8, 9] fu (s1.keep [0, 2, 3, 7, 8, 9]) k) k)
noncomputable def zauk (lf d : Nat) (a0 : Value) : M Value :=
 optK (len2 Tryz.prog #[22] [a0]) fun v8n1 =>
 zagg lf d lf (zajh lf d) a0 (Value.int .i64 0) (Value.int .i64 0) a0 v8n1 (Value.int .i64 0)
theorem zbfs (lf d : Nat) (a0 : Value) : zaac Tryz.prog gt lf (d + 1) 119 #[a0] = inside (zauk lf d a0) := by kernel_rfl
theorem zaoc (lf d fu : Nat) (k : Ex → Fr → M Value) (x0 x2 x3 x7 x8 x9 : Value) : zagg lf d (fu + 1) k x0 x2 x3 x7 x8 x9 =
 optK (bin2 Tryz.prog .lss 3 x9 x8) fun v10n2 =>
 ifV v10n2 (
  optK (evIndexAddr Tryz.prog 22 x7 x9) fun v11n3 =>
  (inside (evLoad Tryz.prog 3 v11n3)).bind fun v12n4 =>
  optK (bin2 Tryz.prog .sub 3 (Value.int .i64 20) v12n4) fun v14n5 =>
  zagh lf d lf (zarb lf d fu k) x0 x2 x3 v12n4 (Value.int .i64 1) x7 x8 x9 v10n2 v14n5 (Value.int .i64 0)) (
  k (Ex.exit 0) [(0, x0), (2, x2), (3, x3), (7, x7), (8, x8), (9, x9), (10, v10n2)]) := by kernel_rfl
theorem zbbk (lf d : Nat) (y0 y2 y3 y7 y8 y9 y10 : Value) : zajh lf d (Ex.exit 0) [(0, y0), (2, y2), (3, y3), (7, y7), (8, y8), (9, y9), (10, y10)] =
 outK [y3] := by kernel_rfl
theorem zanz (lf d fu : Nat) (k : Ex → Fr → M Value) (x0 x2 x3 x5 x6 x7 x8 x9 x10 x14 x15 : Value) : zagh lf d (fu + 1) k x0 x2 x3 x5 x6 x7 x8 x9 x10 x14 x15 =
 optK (bin2 Tryz.prog .lss 3 x15 x14) fun v16n6 =>
 ifV v16n6 (
  optK (bin2 Tryz.prog .mul 3 (Value.int .i64 2) x6) fun v18n7 =>
  optK (bin2 Tryz.prog .add 3 x15 (Value.int .i64 1)) fun v19n8 =>
  zagh lf d fu k x0 x2 x3 x5 v18n7 x7 x8 x9 x10 x14 v19n8) (
  k (Ex.exit 2) [(0, x0), (2, x2), (3, x3), (5, x5), (6, x6), (7, x7), (8, x8), (9, x9), (10, x10), (14, x14), (15, x15), (16, v16n6)]) := by kernel_rfl
theorem zbbu (lf d fu : Nat) (k : Ex → Fr → M Value) (y0 y2 y3 y5 y6 y7 y8 y9 y10 y14 y15 y16 : Value) : zarb lf d fu k (Ex.exit 2) [(0, y0), (2, y2), (3, y3), (5, y5), (6, y6), (7, y7), (8, y8), (9, y9), (10, y10), (14, y14), (15, y15), (16, y16)] =
 optK (bin2 Tryz.prog .add 3 y3 y6) fun v22n9 =>
 optK (bin2 Tryz.prog .add 3 y9 (Value.int .i64 1)) fun v23n10 =>
 zagg lf d fu k y0 y2 v22n9 y7 y8 v23n10 := by kernel_rfl

noncomputable def zavx (lf d fu : Nat) (k : Ex → Fr → M Value) (x0 x2 x3 x6 x7 : Value) : M Value := loopK (fun s1 k1 => codeK Tryz.prog (zaac Tryz.prog gt lf d) (gt 124) lf (codeAt (bodyOf Tryz.prog 124) [true, true, false, true, false, false]) s1 k1) [0, 2, 3, 6, 7] fu [(0, x0), (2, x2), (3, x3), (6, x6), (7, x7)] k
noncomputable def zaiq (lf d : Nat) : Ex → Fr → M Value := contAt Tryz.prog (zaac Tryz.prog gt lf d) (gt 124) lf (bodyOf Tryz.prog 124) [true, true, false, true, false] (endK Tryz.prog (resOf Tryz.prog 124))
noncomputable def zbaf (lf d fu : Nat) (k : Ex → Fr → M Value) (x0 x1 x4 x5 x6 x11 x12 x13 : Value) : M Value := loopK (fun s1 k1 => codeK Tryz.prog (zaac Tryz.prog gt lf d) (gt 125) lf (codeAt (bodyOf Tryz.prog 125) [true, true, false, true, false, false]) s1 k1) [0, 1, 4, 5, 6, 11, 12, 13] fu [(0, x0), (1, x1), (4, x4), (5, x5), (6, x6), (11, x11), (12, x12), (13, x13)] k
noncomputable def zali (lf d : Nat) : Ex → Fr → M Value := contAt Tryz.prog (zaac Tryz.prog gt lf d) (gt 125) lf (bodyOf Tryz.prog 125) [true, true, false, true, false] (endK Tryz.prog (resOf Tryz.prog 125))
noncomputable def zbhr (lf d fu : Nat) (k : Ex → Fr → M Value) (x0 x1 x4 x5 x6 x22 x27 x28 : Value) : M Value := loopK (fun s1 k1 => codeK Tryz.prog (zaac Tryz.prog gt lf d) (gt 126) lf (codeAt (bodyOf Tryz.prog 126) [true, true, true, false, true, false, false]) s1 k1) [0, 1, 4, 5, 6, 22, 27, 28] fu [(0, x0), (1, x1), (4, x4), (5, x5), (6, x6), (22, x22), (27, x27), (28, x28)] k
noncomputable def zaqv (lf d : Nat) : Ex → Fr → M Value := contAt Tryz.prog (zaac Tryz.prog gt lf d) (gt 126) lf (bodyOf Tryz.prog 126) [true, true, true, false, true, false] (endK Tryz.prog (resOf Tryz.prog 126))
noncomputable def zbki (lf d fu : Nat) (k : Ex → Fr → M Value) (x0 x2 x3 x4 x20 x24 x25 x26 : Value) : M Value := loopK (fun s1 k1 => codeK Tryz.prog (zaac Tryz.prog gt lf d) (gt 127) lf (codeAt (bodyOf Tryz.prog 127) [true, true, true, false, true, false, false]) s1 k1) [0, 2, 3, 4, 20, 24, 25, 26] fu [(0, x0), (2, x2), (3, x3), (4, x4), (20, x20), (24, x24), (25, x25), (26, x26)] k
noncomputable def zatw (lf d : Nat) : Ex → Fr → M Value := contAt Tryz.prog (zaac Tryz.prog gt lf d) (gt 127) lf (bodyOf Tryz.prog 127) [true, true, true, false, true, false] (endK Tryz.prog (resOf Tryz.prog 127))
noncomputable def zbkc (lf d fu : Nat) (k : Ex → Fr → M Value) (x0 x2 x3 x4 x20 x24 x25 x26 x27 : Value) : M Value := loopK (fun s1 k1 => codeK Tryz.prog (zaac Tryz.prog gt lf d) (gt 127) lf (codeAt (bodyOf Tryz.prog 127) [true, true, true, true, false, false]) s1 k1) [0, 2, 3, 4, 20, 24, 25, 26, 27] fu [(0, x0), (2, x2), (3, x3), (4, x4), (20, x20), (24, x24), (25, x25), (26, x26), (27, x27)] k
noncomputable def zatz (lf d : Nat) : Ex → Fr → M Value := contAt Tryz.prog (zaac Tryz.prog gt lf d) (gt 127) lf (bodyOf Tryz.prog 127) [true, true, true, true, false] (endK Tryz.prog (resOf Tryz.prog 127))
noncomputable def zabn (lf d fu : Nat) (k : Ex → Fr → M Value) (x0 x1 x4 x7 x8 : Value) : M Value := loopK (fun s1 k1 => codeK Tryz.prog (zaac Tryz.prog gt lf d) (gt 128) lf (codeAt (bodyOf Tryz.prog 128) [true, false, true, false, false]) s1 k1) [0, 1, 4, 7, 8] fu [(0, x0), (1, x1), (4, x4), (7, x7), (8, x8)] k
noncomputable def zabb (lf d : Nat) : Ex → Fr → M Value := contAt Tryz.prog (zaac Tryz.prog gt lf d) (gt 128) lf (bodyOf Tryz.prog 128) [true, false, true, false] (endK Tryz.prog (resOf Tryz.prog 128))
noncomputable def zajz (lf d : Nat) (a0 a1 : Value) : M Value :=
 optK (len2 Tryz.prog #[22] [a0]) fun v7n1 =>
 zabn lf d lf (zabb lf d) a0 a1 (Value.int .i64 0) v7n1 (Value.int .i64 0)
theorem zaui (lf d : Nat) (a0 a1 : Value) : zaac Tryz.prog gt lf (d + 1) 128 #[a0, a1] = inside (zajz lf d a0 a1) := by kernel_rfl
theorem zahm (lf d fu : Nat) (k : Ex → Fr → M Value) (x0 x1 x4 x7 x8 : Value) : zabn lf d (fu + 1) k x0 x1 x4 x7 x8 =
 optK (bin2 Tryz.prog .lss 3 x8 x7) fun v9n2 =>
 ifV v9n2 (
  optK (evIndexAddr Tryz.prog 22 x0 x8) fun v14n3 =>
  (inside (evLoad Tryz.prog 3 v14n3)).bind fun v15n4 =>
  callV Tryz.prog (zaac Tryz.prog gt lf d) x1 [v15n4] fun v16n5 =>
  ifV v16n5 (
   k Ex.ret [(0, x0), (1, x1), (4, x8), (5, x8), (7, x7), (8, x8), (9, v9n2), (16, v16n5)]) (
   optK (bin2 Tryz.prog .add 3 x8 (Value.int .i64 1)) fun v18n6 =>
   zabn lf d fu k x0 x1 x4 x7 v18n6)) (
  k (Ex.exit 0) [(0, x0), (1, x1), (4, x4), (7, x7), (8, x8), (9, v9n2)]) := by kernel_rfl
theorem zarl (lf d : Nat) (y0 y1 y4 y5 y7 y8 y9 y16 : Value) : zabb lf d Ex.ret [(0, y0), (1, y1), (4, y4), (5, y5), (7, y7), (8, y8), (9, y9), (16, y16)] =
 outK [y4] := by kernel_rfl
theorem zark (lf d : Nat) (y0 y1 y4 y7 y8 y9 : Value) : zabb lf d (Ex.exit 0) [(0, y0), (1, y1), (4, y4), (7, y7), (8, y8), (9, y9)] =
 outK [(Value.int .i64 (-1))] := by kernel_rfl

noncomputable def zbce (lf d : Nat) (a0 a1 a2 : Value) : M Value :=
 (inside (evBox Tryz.prog 3 a1)).bind fun v4n1 =>
 (inside (evBox Tryz.prog 3 a2)).bind fun v5n2 =>
 (inside (zaac Tryz.prog gt lf d 103 #[a0, (Value.func (Go.Fn.func 142) #[] #[v4n1, v5n2])])).bind fun v9n3 =>
 optK (un2 Tryz.prog .not v9n3) fun v10n4 =>
 outK [v10n4]
theorem zbnj (lf d : Nat) (a0 a1 a2 : Value) : zaac Tryz.prog gt lf (d + 1) 130 #[a0, a1, a2] = inside (zbce lf d a0 a1 a2) := by kernel_rfl

noncomputable def zbaa (lf d fu : Nat) (k : Ex → Fr → M Value) (x0 x2 x3 x11 x12 : Value) : M Value := loopK (fun s1 k1 => codeK Tryz.prog (zaac Tryz.prog gt lf d) (gt 139) lf (codeAt (bodyOf Tryz.prog 139) [true, true, false, true, false, false]) s1 k1) [0, 2, 3, 11, 12] fu [(0, x0), (2, x2), (3, x3), (11, x11), (12, x12)] k
noncomputable def zalj (lf d : Nat) : Ex → Fr → M Value := contAt Tryz.prog (zaac Tryz.prog gt lf d) (gt 139) lf (bodyOf Tryz.prog 139) [true, true, false, true, false] (endK Tryz.prog (resOf Tryz.prog 139))
noncomputable def zazr (lf d fu : Nat) (k : Ex → Fr → M Value) (x0 x2 x3 x5 x6 x11 x12 x13 : Value) : M Value := loopK (fun s1 k1 => codeK Tryz.prog (zaac Tryz.prog gt lf d) (gt 139) lf (codeAt (bodyOf Tryz.prog 139) [true, true, true, true, false, true, false, false]) s1 k1) [0, 2, 3, 5, 6, 11, 12, 13] fu [(0, x0), (2, x2), (3, x3), (5, x5), (6, x6), (11, x11), (12, x12), (13, x13)] k
noncomputable def zalb (lf d : Nat) : Ex → Fr → M Value := contAt Tryz.prog (zaac Tryz.prog gt lf d) (gt 139) lf (bodyOf Tryz.prog 139) [true, true, true, true, false, true, false] (endK Tryz.prog (resOf Tryz.prog 139))
noncomputable def zaxv (lf d fu : Nat) (k : Ex → Fr → M Value) (x0 x2 x3 x6 x7 x8 : Value) : M Value := loopK (fun s1 k1 => codeK Tryz.prog (zaac Tryz.prog gt lf d) (gt 140) lf (codeAt (bodyOf Tryz.prog 140) [true, true, false, true, false, false]) s1 k1) [0, 2, 3, 6, 7, 8] fu [(0, x0), (2, x2), (3, x3), (6, x6), (7, x7), (8, x8)] k
noncomputable def zajk (lf d : Nat) : Ex → Fr → M Value := contAt Tryz.prog (zaac Tryz.prog gt lf d) (gt 140) lf (bodyOf Tryz.prog 140) [true, true, false, true, false] (endK Tryz.prog (resOf Tryz.prog 140))
noncomputable def zazj (lf d fu : Nat) (k : Ex → Fr → M Value) (x0 x2 x3 x9 x10 x11 : Value) : M Value := loopK (fun s1 k1 => codeK Tryz.prog (zaac Tryz.prog gt lf d) (gt 141) lf (codeAt (bodyOf Tryz.prog 141) [true, true, false, true, false, false]) s1 k1) [0, 2, 3, 9, 10, 11] fu [(0, x0), (2, x2), (3, x3), (9, x9), (10, x10), (11, x11)] k
noncomputable def zakr (lf d : Nat) : Ex → Fr → M Value := contAt Tryz.prog (zaac Tryz.prog gt lf d) (gt 141) lf (bodyOf Tryz.prog 141) [true, true, false, true, false] (endK Tryz.prog (resOf Tryz.prog 141))
noncomputable def zaya (lf d : Nat) (a0 a1 a2 : Value) : M Value :=
 (inside (evLoad Tryz.prog 3 a1)).bind fun v6n1 =>
 optK (bin2 Tryz.prog .lss 3 a0 v6n1) fun v7n2 =>
 ifV v7n2 (
  outK [(Value.bool true)]) (
  (inside (evLoad Tryz.prog 3 a2)).bind fun v10n3 =>
  optK (bin2 Tryz.prog .gtr 3 a0 v10n3) fun v11n4 =>
  outK [v11n4])
theorem zbjk (lf d : Nat) (a0 a1 a2 : Value) : zaac Tryz.prog gt lf (d + 1) 142 #[a0, a1, a2] = inside (zaya lf d a0 a1 a2) := by kernel_rfl

noncomputable def zaxx (lf d fu : Nat) (k : Ex → Fr → M Value) (x0 x1 x2 x3 x12 x13 : Value) : M Value := loopK (fun s1 k1 => codeK Tryz.prog (zaac Tryz.prog gt lf d) (gt 146) lf (codeAt (bodyOf Tryz.prog 146) [true, true, false, true, false, false]) s1 k1) [0, 1, 2, 3, 12, 13] fu [(0, x0), (1, x1), (2, x2), (3, x3), (12, x12), (13, x13)] k
noncomputable def zajn (lf d : Nat) : Ex → Fr → M Value := contAt Tryz.prog (zaac Tryz.prog gt lf d) (gt 146) lf (bodyOf Tryz.prog 146) [true, true, false, true, false] (endK Tryz.prog (resOf Tryz.prog 146))
noncomputable def zayr (lf d : Nat) (a0 a1 a2 : Value) : M Value :=
 (inside (evLoad Tryz.prog 22 a2)).bind fun v6n1 =>
 optK (evIndexAddr Tryz.prog 22 v6n1 a0) fun v8n2 =>
 (inside (evLoad Tryz.prog 3 v8n2)).bind fun v9n3 =>
 (inside (evLoad Tryz.prog 22 a2)).bind fun v10n4 =>
 optK (evIndexAddr Tryz.prog 22 v10n4 a1) fun v12n5 =>
 (inside (evLoad Tryz.prog 3 v12n5)).bind fun v13n6 =>
 (inside (zaac Tryz.prog gt lf d 151 #[v9n3, v13n6])).bind fun v14n7 =>
 outK [v14n7]
theorem zbjv (lf d : Nat) (a0 a1 a2 : Value) : zaac Tryz.prog gt lf (d + 1) 150 #[a0, a1, a2] = inside (zayr lf d a0 a1 a2) := by kernel_rfl

noncomputable def zawe (lf d : Nat) (a0 a1 : Value) : M Value :=
 (inside (zaac Tryz.prog gt lf d 153 #[a0])).bind fun v8n1 =>
 (inside (zaac Tryz.prog gt lf d 153 #[a1])).bind fun v10n2 =>
 ifV v8n1 (
  ifV v10n2 (
   outK [(Value.int .i64 0)]) (
   outK [(Value.int .i64 (-1))])) (
  ifV v10n2 (
   outK [(Value.int .i64 1)]) (
   optK (bin2 Tryz.prog .lss 3 a0 a1) fun v16n3 =>
   ifV v16n3 (
    outK [(Value.int .i64 (-1))]) (
    optK (bin2 Tryz.prog .gtr 3 a0 a1) fun v19n4 =>
    ifV v19n4 (
     outK [(Value.int .i64 1)]) (
     outK [(Value.int .i64 0)]))))
theorem zbib (lf d : Nat) (a0 a1 : Value) : zaac Tryz.prog gt lf (d + 1) 151 #[a0, a1] = inside (zawe lf d a0 a1) := by kernel_rfl

noncomputable def zaiv (lf d fu : Nat) (k : Ex → Fr → M Value) (x0 x1 x2 x6 x7 x8 : Value) : M Value := loopK (fun s1 k1 => codeK Tryz.prog (zaac Tryz.prog gt lf d) (gt 152) lf (codeAt (bodyOf Tryz.prog 152) [true, true, false, false, false]) s1 k1) [0, 1, 2, 6, 7, 8] fu [(0, x0), (1, x1), (2, x2), (6, x6), (7, x7), (8, x8)] k
noncomputable def zadh (lf d : Nat) : Ex → Fr → M Value := contAt Tryz.prog (zaac Tryz.prog gt lf d) (gt 152) lf (bodyOf Tryz.prog 152) [true, true, false, false] (endK Tryz.prog (resOf Tryz.prog 152))
noncomputable def zaey (lf d fu : Nat) (k : Ex → Fr → M Value) (x0 x1 x2 x6 x7 x8 x13 : Value) : M Value := loopK (fun s1 k1 => codeK Tryz.prog (zaac Tryz.prog gt lf d) (gt 152) lf (codeAt (bodyOf Tryz.prog 152) [true, true, true, true, false, false]) s1 k1) [0, 1, 2, 6, 7, 8, 13] fu [(0, x0), (1, x1), (2, x2), (6, x6), (7, x7), (8, x8), (13, x13)] k
noncomputable def zadl (lf d : Nat) : Ex → Fr → M Value := contAt Tryz.prog (zaac Tryz.prog gt lf d) (gt 152) lf (bodyOf Tryz.prog 152) [true, true, true, true, false] (endK Tryz.prog (resOf Tryz.prog 152))
noncomputable def zais (lf d fu : Nat) (k : Ex → Fr → M Value) (x0 x1 x2 x6 x7 x8 x13 x30 : Value) : M Value := loopK (fun s1 k1 => codeK Tryz.prog (zaac Tryz.prog gt lf d) (gt 152) lf (codeAt (bodyOf Tryz.prog 152) [true, true, true, true, false, false, true, false, true, false, false, false]) s1 k1) [0, 1, 2, 6, 7, 8, 13, 30] fu [(0, x0), (1, x1), (2, x2), (6, x6), (7, x7), (8, x8), (13, x13), (30, x30)] k
noncomputable def zadj (lf d fu : Nat) (k : Ex → Fr → M Value) : Ex → Fr → M Value := contAt Tryz.prog (zaac Tryz.prog gt lf d) (gt 152) lf (codeAt (bodyOf Tryz.prog 152) [true, true, true, true, false, false]) [true, false, true, false, false] (againK (fun s1 => loopK (fun s1 k1 => codeK Tryz.prog (zaac Tryz.prog gt lf d) (gt 152) lf (codeAt (bodyOf Tryz.prog 152) [true, true, true, true, false, false]) s1 k1) [0, 1, 2, 6, 7, 8, 13] fu (s1.keep [0, 1, 2, 6, 7, 8, 13]) k) k)
noncomputable def zazi (lf d : Nat) (a0 : Value) : M Value :=
 optK (bin2 Tryz.prog .neq 3 a0 a0) fun v5n1 =>
 outK [v5n1]
theorem zbll (lf d : Nat) (a0 : Value) : zaac Tryz.prog gt lf (d + 1) 153 #[a0] = inside (zazi lf d a0) := by kernel_rfl

noncomputable def zadk (lf d fu : Nat) (k : Ex → Fr → M Value) (x0 x1 x2 x3 x8 : Value) : M Value := loopK (fun s1 k1 => codeK Tryz.prog (zaac Tryz.prog gt lf d) (gt 154) lf (codeAt (bodyOf Tryz.prog 154) [true, false, false]) s1 k1) [0, 1, 2, 3, 8] fu [(0, x0), (1, x1), (2, x2), (3, x3), (8, x8)] k
noncomputable def zabu (lf d : Nat) : Ex → Fr → M Value := contAt Tryz.prog (zaac Tryz.prog gt lf d) (gt 154) lf (bodyOf Tryz.prog 154) [true, false] (endK Tryz.prog (resOf Tryz.prog 154))
noncomputable def zabj (lf d fu : Nat) (k : Ex → Fr → M Value) (x0 x1 x2 x3 x8 x9 x14 : Value) : M Value := loopK (fun s1 k1 => codeK Tryz.prog (zaac Tryz.prog gt lf d) (gt 154) lf (codeAt (bodyOf Tryz.prog 154) [true, false, false, true, false, false, true, false, false]) s1 k1) [0, 1, 2, 3, 8, 9, 14] fu [(0, x0), (1, x1), (2, x2), (3, x3), (8, x8), (9, x9), (14, x14)] k
noncomputable def zabt (lf d fu : Nat) (k : Ex → Fr → M Value) : Ex → Fr → M Value := contAt Tryz.prog (zaac Tryz.prog gt lf d) (gt 154) lf (codeAt (bodyOf Tryz.prog 154) [true, false, false]) [true, false, false, true, false] (againK (fun s1 => loopK (fun s1 k1 => codeK Tryz.prog (zaac Tryz.prog gt lf d) (gt 154) lf (codeAt (bodyOf Tryz.prog 154) [true, false, false]) s1 k1) [0, 1, 2, 3, 8] fu (s1.keep [0, 1, 2, 3, 8]) k) k)
theorem zaez (lf d fu : Nat) (k : Ex → Fr → M Value) (x0 x1 x2 x3 x8 x9 x14 : Value) : zabj lf d (fu + 1) k x0 x1 x2 x3 x8 x9 x14 =
 optK (bin2 Tryz.prog .gtr 3 x9 x1) fun v20n3 =>
 ifV v20n3 (
  optK (evIndexAddr Tryz.prog 22 x0 x9) fun v25n4 =>
  (inside (evLoad Tryz.prog 3 v25n4)).bind fun v26n5 =>
  optK (bin2 Tryz.prog .sub 3 x9 (Value.int .i64 1)) fun v29n6 =>
  optK (evIndexAddr Tryz.prog 22 x0 v29n6) fun v30n7 =>
  (inside (evLoad Tryz.prog 3 v30n7)).bind fun v31n8 =>
  callV Tryz.prog (zaac Tryz.prog gt lf d) x3 [v26n5, v31n8] fun v32n9 =>
  optK (bin2 Tryz.prog .lss 3 v32n9 (Value.int .i64 0)) fun v33n10 =>
  ifV v33n10 (
   optK (bin2 Tryz.prog .sub 3 x9 (Value.int .i64 1)) fun v41n11 =>
   optK (bin2 Tryz.prog .sub 3 x9 (Value.int .i64 1)) fun v44n12 =>
   optK (evIndexAddr Tryz.prog 22 x0 v44n12) fun v45n13 =>
   (inside (evLoad Tryz.prog 3 v45n13)).bind fun v46n14 =>
   optK (evIndexAddr Tryz.prog 22 x0 x9) fun v49n15 =>
   (inside (evLoad Tryz.prog 3 v49n15)).bind fun v50n16 =>
   optK (evIndexAddr Tryz.prog 22 x0 x9) fun v51n17 =>
   (inside (evStore Tryz.prog 3 v51n17 v46n14)).bind fun u18 =>
   optK (evIndexAddr Tryz.prog 22 x0 v41n11) fun v52n19 =>
   (inside (evStore Tryz.prog 3 v52n19 v50n16)).bind fun u20 =>
   optK (bin2 Tryz.prog .sub 3 x9 (Value.int .i64 1)) fun v36n21 =>
   zabj lf d fu k x0 x1 x2 x3 x8 v36n21 x14) (
   k (Ex.exit 2) [(0, x0), (1, x1), (2, x2), (3, x3), (8, x8), (9, x9), (14, x14), (34, v33n10)])) (
  k (Ex.exit 2) [(0, x0), (1, x1), (2, x2), (3, x3), (8, x8), (9, x9), (14, x14), (34, (Value.bool false))]) := by kernel_rfl
noncomputable def zaie (lf d fu : Nat) (k : Ex → Fr → M Value) (x0 x1 x2 x3 x4 x10 x11 x28 : Value) : M Value := loopK (fun s1 k1 => codeK Tryz.prog (zaac Tryz.prog gt lf d) (gt 155) lf (codeAt (bodyOf Tryz.prog 155) [false, true, false, true, true, false, false, false]) s1 k1) [0, 1, 2, 3, 4, 10, 11, 28] fu [(0, x0), (1, x1), (2, x2), (3, x3), (4, x4), (10, x10), (11, x11), (28, x28)] k
noncomputable def zacw (lf d : Nat) : Ex → Fr → M Value := contAt Tryz.prog (zaac Tryz.prog gt lf d) (gt 155) lf (bodyOf Tryz.prog 155) [false, true, false, true, true, false, false] (endK Tryz.prog (resOf Tryz.prog 155))
noncomputable def zahw (lf d fu : Nat) (k : Ex → Fr → M Value) (x0 x1 x2 x3 x4 x14 x15 x28 x80 : Value) : M Value := loopK (fun s1 k1 => codeK Tryz.prog (zaac Tryz.prog gt lf d) (gt 155) lf (codeAt (bodyOf Tryz.prog 155) [true, false, true, false, true, true, false, false, false]) s1 k1) [0, 1, 2, 3, 4, 14, 15, 28, 80] fu [(0, x0), (1, x1), (2, x2), (3, x3), (4, x4), (14, x14), (15, x15), (28, x28), (80, x80)] k
noncomputable def zact (lf d : Nat) : Ex → Fr → M Value := contAt Tryz.prog (zaac Tryz.prog gt lf d) (gt 155) lf (bodyOf Tryz.prog 155) [true, false, true, false, true, true, false, false] (endK Tryz.prog (resOf Tryz.prog 155))
noncomputable def zahz (lf d fu : Nat) (k : Ex → Fr → M Value) (x0 x1 x2 x3 x4 x18 x19 x20 x21 x22 x28 x80 x140 : Value) : M Value := loopK (fun s1 k1 => codeK Tryz.prog (zaac Tryz.prog gt lf d) (gt 155) lf (codeAt (bodyOf Tryz.prog 155) [true, true, true, true, true, true, true, false, false, false]) s1 k1) [0, 1, 2, 3, 4, 18, 19, 20, 21, 22, 28, 80, 140] fu [(0, x0), (1, x1), (2, x2), (3, x3), (4, x4), (18, x18), (19, x19), (20, x20), (21, x21), (22, x22), (28, x28), (80, x80), (140, x140)] k
noncomputable def zabq (lf d : Nat) : Ex → Fr → M Value := contAt Tryz.prog (zaac Tryz.prog gt lf d) (gt 155) lf (bodyOf Tryz.prog 155) [true, true, true, true, true, true, true, false, false] (endK Tryz.prog (resOf Tryz.prog 155))
noncomputable def zaig (lf d fu : Nat) (k : Ex → Fr → M Value) (x0 x1 x2 x3 x4 x10 x11 x13 x28 x33 : Value) : M Value := loopK (fun s1 k1 => codeK Tryz.prog (zaac Tryz.prog gt lf d) (gt 155) lf (codeAt (bodyOf Tryz.prog 155) [false, true, false, true, true, true, false, true, false, false]) s1 k1) [0, 1, 2, 3, 4, 10, 11, 13, 28, 33] fu [(0, x0), (1, x1), (2, x2), (3, x3), (4, x4), (10, x10), (11, x11), (13, x13), (28, x28), (33, x33)] k
noncomputable def zacx (lf d : Nat) : Ex → Fr → M Value := contAt Tryz.prog (zaac Tryz.prog gt lf d) (gt 155) lf (bodyOf Tryz.prog 155) [false, true, false, true, true, true, false, true, false] (endK Tryz.prog (resOf Tryz.prog 155))
noncomputable def zaid (lf d fu : Nat) (k : Ex → Fr → M Value) (x0 x1 x2 x3 x4 x14 x15 x17 x28 x80 x85 : Value) : M Value := loopK (fun s1 k1 => codeK Tryz.prog (zaac Tryz.prog gt lf d) (gt 155) lf (codeAt (bodyOf Tryz.prog 155) [true, false, true, false, true, true, true, false, true, false, false]) s1 k1) [0, 1, 2, 3, 4, 14, 15, 17, 28, 80, 85] fu [(0, x0), (1, x1), (2, x2), (3, x3), (4, x4), (14, x14), (15, x15), (17, x17), (28, x28), (80, x80), (85, x85)] k
noncomputable def zacy (lf d : Nat) : Ex → Fr → M Value := contAt Tryz.prog (zaac Tryz.prog gt lf d) (gt 155) lf (bodyOf Tryz.prog 155) [true, false, true, false, true, true, true, false, true, false] (endK Tryz.prog (resOf Tryz.prog 155))
noncomputable def zajc (lf d fu : Nat) (k : Ex → Fr → M Value) (x0 x1 x2 x3 x4 x10 x11 : Value) : M Value := loopK (fun s1 k1 => codeK Tryz.prog (zaac Tryz.prog gt lf d) (gt 156) lf (codeAt (bodyOf Tryz.prog 156) [true, true, false, false, false]) s1 k1) [0, 1, 2, 3, 4, 10, 11] fu [(0, x0), (1, x1), (2, x2), (3, x3), (4, x4), (10, x10), (11, x11)] k
noncomputable def zadm (lf d : Nat) : Ex → Fr → M Value := contAt Tryz.prog (zaac Tryz.prog gt lf d) (gt 156) lf (bodyOf Tryz.prog 156) [true, true, false, false] (endK Tryz.prog (resOf Tryz.prog 156))
noncomputable def zahj (lf d fu : Nat) (k : Ex → Fr → M Value) (x0 x1 x2 x3 x10 : Value) : M Value := loopK (fun s1 k1 => codeK Tryz.prog (zaac Tryz.prog gt lf d) (gt 157) lf (codeAt (bodyOf Tryz.prog 157) [true, false, false]) s1 k1) [0, 1, 2, 3, 10] fu [(0, x0), (1, x1), (2, x2), (3, x3), (10, x10)] k
noncomputable def zacl (lf d : Nat) : Ex → Fr → M Value := contAt Tryz.prog (zaac Tryz.prog gt lf d) (gt 157) lf (bodyOf Tryz.prog 157) [true, false] (endK Tryz.prog (resOf Tryz.prog 157))
end Go.Proofs.YtdagfcflbphoiaaGreatDoor

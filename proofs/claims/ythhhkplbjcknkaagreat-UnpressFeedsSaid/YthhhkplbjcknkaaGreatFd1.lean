/- The functions that layers 24's and 25's closed tests reach, as the kernel runs them quickly. -/
import Derived.Test.YthhhkplbjcknkaaGreatFc
namespace Go.Proofs.YthhhkplbjcknkaaGreat.Fa
set_option linter.unusedVariables false
set_option linter.unusedSimpArgs false
open Go Go.RowKit Ev
def gtAL : List (List Nat) := [[], [], [], [], [], [], [], [], [], [0, 1, 2, 3, 4, 5, 6], [0, 1, 2, 6, 7, 8, 9, 22], [0, 1, 4, 5, 19, 42], [], [0, 2, 3, 12], [0, 2, 10], [0, 1, 4, 5, 13, 18, 23, 27], [0, 1, 4, 5, 6, 12], [0, 2, 4], [0, 2], [0, 2, 4], [0, 2, 4], [], [], [0, 1, 4, 6], [0, 2, 4], [0, 1, 4, 5, 7, 15, 41], [0, 2], [0, 1, 4, 5, 6, 12], [], [0, 2], [0, 2, 4], [0, 2, 4], [0, 2, 4], [], [0, 1, 2, 3, 4, 5, 6], [0, 1, 4, 5, 6, 7, 15], [], [0, 2, 4], [], [], [], [], [0, 1, 2, 6, 7, 8, 10, 18, 19, 20, 21], [0, 2, 3, 5, 12], [0, 1, 4], [0, 2], [0, 2, 4], [0, 1, 4, 6], [], [], [0, 2, 3, 21, 27], [0, 2, 3, 4, 23, 43, 56, 61, 67], [0], [0, 23], [], [], [0, 2], [0, 1, 4, 5, 6, 8, 9, 12, 13, 14, 15, 27, 39, 40, 41, 55], [0, 1, 4, 5], [0, 1, 2], [0, 2], [0, 2], [0, 1, 4, 5, 19], [], [0, 2, 3, 4, 5, 6, 18, 30], [0, 1], [0, 2], [0, 2], [0, 2, 4], [0, 1, 4, 5, 6, 7, 8, 15, 32], [0, 2, 3, 5], [0, 1, 2, 3], [0, 2, 4], [0, 2, 3, 4, 8], [0, 2, 3, 4, 7], [0, 1, 2, 3, 4, 6, 7, 8, 11, 21], [0, 2], [0, 1, 2, 3, 4, 6], [0, 2, 3, 4, 8], [0, 2, 3, 6], [0, 2, 6], [0, 1, 4, 5, 6, 7, 8], [0, 2, 3, 5, 6, 7, 8, 9], [], [0, 1, 4, 5, 7, 24], [0, 2, 3, 5], [0, 1, 4, 5, 6, 12, 15, 19, 35], [0, 1, 4, 6, 7, 8], [0, 2, 3, 10, 17], [0, 2], [0, 1, 4, 5, 9, 10, 15, 20], [0, 1, 4, 5, 6, 9, 13], [0], [0], [0, 2, 3, 19], [0, 1, 4, 5, 6, 7, 8, 10, 11, 12, 13, 30], [0, 2, 3, 4, 5, 6, 8, 10, 11, 12, 14, 15, 16, 17, 27, 38], [0, 2, 3, 4, 5, 6, 10], [0, 1, 4, 5, 6, 7, 8, 9, 12, 17, 26], [0, 1, 4, 5, 6, 7, 9, 15, 16, 17, 18, 19, 28, 30], [0, 2, 3, 4, 5, 6, 7, 8, 9, 10, 12, 13, 20, 26], [0, 1, 4, 5, 6, 7, 9, 10, 11, 22, 23, 24, 25, 38, 39, 40, 41], [0, 1, 4], [0, 2, 3, 4, 8], [0, 1, 4, 5, 9], [0, 2, 4], [0, 2, 3, 4, 21, 53, 73, 76], [0, 2], [], [0, 1, 5], [0, 2, 3, 6], [0, 2, 4], [0, 1, 4, 5, 6, 12, 16, 29, 37], [0, 1, 4, 5, 7, 9, 10, 13, 29, 30, 53], [0, 1, 4, 5, 6, 22], [0, 1, 4, 5, 6, 7, 13, 17], [0, 1, 2, 3, 4, 5, 6, 11, 12], [0, 1, 4], [0, 1, 2, 6, 7, 8], [0, 1, 4, 5, 9, 17], [0, 2], [0, 1, 4, 5, 9, 16], [0, 1, 4], [0, 2, 3, 5, 8], [0, 1, 4, 5, 6, 7, 9, 10, 11, 12, 13, 14, 24, 25, 26, 27, 28, 29, 42, 43, 44, 46, 47, 48, 49, 58], [0, 1, 4, 5, 6, 8, 9, 18, 19, 20, 21], [0, 2, 3, 4, 6, 7, 16, 17, 18, 19, 22, 23, 29, 36], [0, 2, 3, 4, 5, 6, 7, 12, 15, 16, 17, 18, 24, 26, 27, 28, 29], [0, 2, 3, 4, 6], [0, 2, 4], [0, 2, 3, 4, 8, 9, 10], [0, 1, 4, 5, 6, 7, 8, 9], [0, 1, 4], [], [0, 1, 4, 5], [0, 2], [0, 2], [0, 1, 2, 6], [0, 1, 4, 5, 6, 7, 10, 17, 22, 23, 24], [0, 2, 3, 9], [0, 1, 4, 5, 6, 19, 33], [0, 2], [0, 2, 5], [0, 1, 4], [0, 11], [0, 1, 4, 5, 6, 7, 8, 9, 11, 14, 15, 16, 18, 19, 20, 21, 27, 36], [0, 1, 4, 5, 6, 7, 8, 9], [0, 2, 3, 4, 5, 6, 7, 8, 9, 10, 27], [0, 1, 4, 5, 6, 7, 8, 9, 10, 11, 24], [0, 2, 3, 5, 6, 7, 8, 9, 10, 14, 20, 21, 25], [0, 1, 4, 5, 6, 7, 8, 13, 22, 34], [0, 1, 4, 5, 6], [0, 1, 4, 5, 6, 7, 8, 9, 10, 11, 12, 13], [0, 1, 4], [0, 6, 19], [0, 1, 4], [0, 1, 4, 5], [0, 1, 4, 5, 9, 18, 27, 48], [0, 2, 4, 6, 8, 10], [0, 1, 4, 5, 7, 8, 9, 10, 11, 16], [0, 1, 4, 5, 6, 7, 8, 9, 10, 11, 17, 18, 19], [0, 2, 3, 4, 5, 6, 7, 8, 9, 10, 11, 12, 13, 15, 18, 19, 20, 21, 39, 66, 67, 68, 69], [0, 1, 2, 6, 8, 9, 10, 11, 12, 22], [0, 2, 3, 5, 6, 7, 8, 9, 13], [], [], [0, 1, 4, 5, 7, 9, 13, 42], [0, 1, 4, 5, 6, 13], [0, 2], [0, 2, 3, 4, 10], [0, 1, 4, 5, 6, 24], [0, 2, 3, 27], [0, 2, 4], [0, 2, 3, 4, 5, 6, 7, 8, 9, 18], [0, 1, 4, 5, 6, 7, 8, 9, 10, 11, 17], [0, 2, 3, 4, 5, 6, 15], [0, 1, 4, 5, 7, 9], [0, 1, 4, 5, 6, 9], [0, 1, 4, 5, 6, 7, 8, 9, 22, 34, 43, 64, 68], [0, 1, 4, 5, 6, 7, 19], [0, 2], [0, 1, 2, 3, 4], [0, 2, 4], [0, 2, 3, 4, 5, 6, 8, 9, 10, 12, 13, 20, 23, 24, 25, 26, 35, 38, 39, 40, 41, 54], [0, 1, 4, 5, 8], [0, 2, 3, 4, 5, 12], [0, 1, 4, 5, 16], [0, 2, 3, 6], [0, 1, 4, 5], [0, 1, 4, 5, 6, 7, 8, 20, 40], [0, 2], [0, 1, 4, 5, 6, 17], [0, 2, 4], [0, 1, 4, 5, 6, 7, 8, 9, 26, 38], [0, 1, 4, 5, 6, 7, 8, 17, 29, 36, 46, 56], [0, 2, 3, 4, 5, 6, 13], [0, 1, 2, 3, 4, 5, 6, 7, 8, 11], [0, 2, 3, 6], [0], [0, 2], [0, 2, 3, 5, 6, 7, 20], [0, 1, 4, 5, 6, 7, 8, 14, 24], [0, 1, 4, 5, 6, 7, 8, 19, 32, 39], [0, 1, 4, 5, 6, 7, 18, 29], [0, 2], [0, 2, 3, 4, 5, 6, 7, 8, 9, 18, 30, 51, 52, 53, 54, 60], [0, 2, 4], [0, 1, 4, 5, 20], [0, 2, 4], [0, 2], [0, 1, 2, 3, 4], [0, 1, 4, 5, 6, 7, 8, 9, 10, 12, 21, 51], [0, 1, 4, 5, 6, 7, 11, 12, 13, 21, 24], [0, 1, 4, 5, 6, 7, 8, 15, 29], [0, 1, 4, 5, 6, 7, 8, 13, 20, 32, 35, 55], [0, 2, 3, 4], [0, 1, 4, 5, 6, 14], [0, 2], [0, 2], [0, 1, 4, 7], [0, 2, 3, 4, 6, 14, 15, 16, 17, 18], [0, 1, 4], [0, 2], [0, 1, 2, 4, 5, 6], [0, 1, 4, 5, 7, 8, 9, 16], [0, 1, 4], [0, 1, 2, 4], [0, 1, 4, 5, 7, 8, 9, 16], [], [], [], [], [], [], [], [], [], [], [], [], [], [], [], [], [], [], [], [], [], [], []]
def gtA (f : Nat) : List Nat := gtAL.getD f []
noncomputable def evC (lf : Nat) : Nat → FuncId → Array Value → M Value := evCallN kn0 Tryz.prog gtA lf
theorem az106 : evAllocZ 106 [Value.int .u8 0, Value.int .i64 0] = evAlloc Tryz.prog 106 := by refine evAllocZ_eq (z := .agg ⟨[Value.int .u8 0, Value.int .i64 0]⟩) ?_ ?_ <;> kernel_rfl
theorem az109 : evAllocZ 109 [Value.string ⟨⟨[]⟩⟩, Value.int .i64 0] = evAlloc Tryz.prog 109 := by refine evAllocZ_eq (z := .agg ⟨[Value.string ⟨⟨[]⟩⟩, Value.int .i64 0]⟩) ?_ ?_ <;> kernel_rfl
theorem az150 : evAllocZ 150 (repV (Value.int .u32 0) 256) = evAlloc Tryz.prog 150 := by refine evAllocZ_eq (z := .agg ⟨(repV (Value.int .u32 0) 256)⟩) ?_ ?_ <;> kernel_rfl
theorem az160 : evAllocZ 160 [Value.slice none 0 0, Value.slice none 0 0] = evAlloc Tryz.prog 160 := by refine evAllocZ_eq (z := .agg ⟨[Value.slice none 0 0, Value.slice none 0 0]⟩) ?_ ?_ <;> kernel_rfl
theorem az168 : evAllocZ 168 (repV (Value.int .i64 0) 6) = evAlloc Tryz.prog 168 := by refine evAllocZ_eq (z := .agg ⟨(repV (Value.int .i64 0) 6)⟩) ?_ ?_ <;> kernel_rfl
theorem az209 : evAllocZ 209 [Value.int .i64 0, Value.int .i64 0, Value.slice none 0 0] = evAlloc Tryz.prog 209 := by refine evAllocZ_eq (z := .agg ⟨[Value.int .i64 0, Value.int .i64 0, Value.slice none 0 0]⟩) ?_ ?_ <;> kernel_rfl
theorem az230 : evAllocZ 230 (repV (Value.bool false) 256) = evAlloc Tryz.prog 230 := by refine evAllocZ_eq (z := .agg ⟨(repV (Value.bool false) 256)⟩) ?_ ?_ <;> kernel_rfl
theorem az64 : evAllocZ 64 [Value.string ⟨⟨[]⟩⟩, Value.int .i64 0, Value.int .u32 0] = evAlloc Tryz.prog 64 := by refine evAllocZ_eq (z := .agg ⟨[Value.string ⟨⟨[]⟩⟩, Value.int .i64 0, Value.int .u32 0]⟩) ?_ ?_ <;> kernel_rfl
theorem az79 : evAllocZ 79 [Value.string ⟨⟨[]⟩⟩, Value.string ⟨⟨[]⟩⟩] = evAlloc Tryz.prog 79 := by refine evAllocZ_eq (z := .agg ⟨[Value.string ⟨⟨[]⟩⟩, Value.string ⟨⟨[]⟩⟩]⟩) ?_ ?_ <;> kernel_rfl
theorem bz106 : evBuildZ Tryz.prog 106 [Value.int .u8 0, Value.int .i64 0] = evBuild Tryz.prog 106 := by refine evBuildZ_eq (z := .agg ⟨[Value.int .u8 0, Value.int .i64 0]⟩) ?_ ?_ <;> kernel_rfl
theorem bz109 : evBuildZ Tryz.prog 109 [Value.string ⟨⟨[]⟩⟩, Value.int .i64 0] = evBuild Tryz.prog 109 := by refine evBuildZ_eq (z := .agg ⟨[Value.string ⟨⟨[]⟩⟩, Value.int .i64 0]⟩) ?_ ?_ <;> kernel_rfl
theorem bz112 : evBuildZ Tryz.prog 112 [Value.string ⟨⟨[]⟩⟩, Value.int .i64 0, Value.int .u32 0] = evBuild Tryz.prog 112 := by refine evBuildZ_eq (z := .agg ⟨[Value.string ⟨⟨[]⟩⟩, Value.int .i64 0, Value.int .u32 0]⟩) ?_ ?_ <;> kernel_rfl
theorem bz118 : evBuildZ Tryz.prog 118 [Value.pointer none, Value.int .i64 0, Value.bool false, Value.int .u32 0, Value.int .i64 0, Value.slice none 0 0, Value.bool false, Value.int .i64 0] = evBuild Tryz.prog 118 := by refine evBuildZ_eq (z := .agg ⟨[Value.pointer none, Value.int .i64 0, Value.bool false, Value.int .u32 0, Value.int .i64 0, Value.slice none 0 0, Value.bool false, Value.int .i64 0]⟩) ?_ ?_ <;> kernel_rfl
theorem bz123 : evBuildZ Tryz.prog 123 [Value.pointer none, Value.pointer none, Value.pointer none, Value.int .i64 0, Value.int .i64 0] = evBuild Tryz.prog 123 := by refine evBuildZ_eq (z := .agg ⟨[Value.pointer none, Value.pointer none, Value.pointer none, Value.int .i64 0, Value.int .i64 0]⟩) ?_ ?_ <;> kernel_rfl
theorem bz143 : evBuildZ Tryz.prog 143 [Value.int .i64 0, Value.pointer none, Value.slice none 0 0, Value.pointer none, Value.slice none 0 0, Value.int .i64 0, Value.bool false, Value.int .i64 0] = evBuild Tryz.prog 143 := by refine evBuildZ_eq (z := .agg ⟨[Value.int .i64 0, Value.pointer none, Value.slice none 0 0, Value.pointer none, Value.slice none 0 0, Value.int .i64 0, Value.bool false, Value.int .i64 0]⟩) ?_ ?_ <;> kernel_rfl
theorem bz147 : evBuildZ Tryz.prog 147 [Value.int .u8 0, Value.int .i64 0] = evBuild Tryz.prog 147 := by refine evBuildZ_eq (z := .agg ⟨[Value.int .u8 0, Value.int .i64 0]⟩) ?_ ?_ <;> kernel_rfl
theorem bz153 : evBuildZ Tryz.prog 153 (appV (repV (Value.int .u32 0) 256) [Value.int .u32 0]) = evBuild Tryz.prog 153 := by refine evBuildZ_eq (z := .agg ⟨(appV (repV (Value.int .u32 0) 256) [Value.int .u32 0])⟩) ?_ ?_ <;> kernel_rfl
theorem bz160 : evBuildZ Tryz.prog 160 [Value.slice none 0 0, Value.slice none 0 0] = evBuild Tryz.prog 160 := by refine evBuildZ_eq (z := .agg ⟨[Value.slice none 0 0, Value.slice none 0 0]⟩) ?_ ?_ <;> kernel_rfl
theorem bz170 : evBuildZ Tryz.prog 170 (appV [Value.int .i64 0] (appV [Value.int .i64 0] (appV (repV (Value.int .i64 0) 6) (appV [Value.slice none 0 0] [Value.bool false])))) = evBuild Tryz.prog 170 := by refine evBuildZ_eq (z := .agg ⟨(appV [Value.int .i64 0] (appV [Value.int .i64 0] (appV (repV (Value.int .i64 0) 6) (appV [Value.slice none 0 0] [Value.bool false]))))⟩) ?_ ?_ <;> kernel_rfl
theorem bz209 : evBuildZ Tryz.prog 209 [Value.int .i64 0, Value.int .i64 0, Value.slice none 0 0] = evBuild Tryz.prog 209 := by refine evBuildZ_eq (z := .agg ⟨[Value.int .i64 0, Value.int .i64 0, Value.slice none 0 0]⟩) ?_ ?_ <;> kernel_rfl
theorem bz226 : evBuildZ Tryz.prog 226 [Value.slice none 0 0] = evBuild Tryz.prog 226 := by refine evBuildZ_eq (z := .agg ⟨[Value.slice none 0 0]⟩) ?_ ?_ <;> kernel_rfl
theorem bz237 : evBuildZ Tryz.prog 237 [Value.int .i64 0, Value.int .i64 0, Value.int .i64 0, Value.int .i64 0, Value.int .i64 0, Value.bool false] = evBuild Tryz.prog 237 := by refine evBuildZ_eq (z := .agg ⟨[Value.int .i64 0, Value.int .i64 0, Value.int .i64 0, Value.int .i64 0, Value.int .i64 0, Value.bool false]⟩) ?_ ?_ <;> kernel_rfl
theorem bz242 : evBuildZ Tryz.prog 242 [Value.int .i64 0, Value.int .i64 0, Value.slice none 0 0, Value.bool false] = evBuild Tryz.prog 242 := by refine evBuildZ_eq (z := .agg ⟨[Value.int .i64 0, Value.int .i64 0, Value.slice none 0 0, Value.bool false]⟩) ?_ ?_ <;> kernel_rfl
theorem bz248 : evBuildZ Tryz.prog 248 (appV [Value.slice none 0 0] (appV [Value.slice none 0 0] (appV [Value.slice none 0 0] (appV (repV (Value.int .i64 0) 21) (repV (Value.int .i64 0) 22))))) = evBuild Tryz.prog 248 := by refine evBuildZ_eq (z := .agg ⟨(appV [Value.slice none 0 0] (appV [Value.slice none 0 0] (appV [Value.slice none 0 0] (appV (repV (Value.int .i64 0) 21) (repV (Value.int .i64 0) 22)))))⟩) ?_ ?_ <;> kernel_rfl
theorem bz60 : evBuildZ Tryz.prog 60 [Value.int .i64 0, Value.int .i64 0, Value.bool false, Value.pointer none, Value.pointer none, Value.pointer none, Value.bool false, Value.slice none 0 0, Value.bool false, Value.int .i64 0, Value.int .i64 0] = evBuild Tryz.prog 60 := by refine evBuildZ_eq (z := .agg ⟨[Value.int .i64 0, Value.int .i64 0, Value.bool false, Value.pointer none, Value.pointer none, Value.pointer none, Value.bool false, Value.slice none 0 0, Value.bool false, Value.int .i64 0, Value.int .i64 0]⟩) ?_ ?_ <;> kernel_rfl
theorem bz64 : evBuildZ Tryz.prog 64 [Value.string ⟨⟨[]⟩⟩, Value.int .i64 0, Value.int .u32 0] = evBuild Tryz.prog 64 := by refine evBuildZ_eq (z := .agg ⟨[Value.string ⟨⟨[]⟩⟩, Value.int .i64 0, Value.int .u32 0]⟩) ?_ ?_ <;> kernel_rfl
theorem bz69 : evBuildZ Tryz.prog 69 [Value.string ⟨⟨[]⟩⟩, Value.int .i64 0, Value.int .u32 0, Value.pointer none, Value.pointer none, Value.pointer none] = evBuild Tryz.prog 69 := by refine evBuildZ_eq (z := .agg ⟨[Value.string ⟨⟨[]⟩⟩, Value.int .i64 0, Value.int .u32 0, Value.pointer none, Value.pointer none, Value.pointer none]⟩) ?_ ?_ <;> kernel_rfl
theorem bz71 : evBuildZ Tryz.prog 71 [Value.pointer none, Value.int .i64 0] = evBuild Tryz.prog 71 := by refine evBuildZ_eq (z := .agg ⟨[Value.pointer none, Value.int .i64 0]⟩) ?_ ?_ <;> kernel_rfl
theorem bz73 : evBuildZ Tryz.prog 73 [Value.pointer none, Value.int .i64 0, Value.string ⟨⟨[]⟩⟩, Value.bool false] = evBuild Tryz.prog 73 := by refine evBuildZ_eq (z := .agg ⟨[Value.pointer none, Value.int .i64 0, Value.string ⟨⟨[]⟩⟩, Value.bool false]⟩) ?_ ?_ <;> kernel_rfl
theorem bz79 : evBuildZ Tryz.prog 79 [Value.string ⟨⟨[]⟩⟩, Value.string ⟨⟨[]⟩⟩] = evBuild Tryz.prog 79 := by refine evBuildZ_eq (z := .agg ⟨[Value.string ⟨⟨[]⟩⟩, Value.string ⟨⟨[]⟩⟩]⟩) ?_ ?_ <;> kernel_rfl
theorem bz87 : evBuildZ Tryz.prog 87 [Value.int .i64 0, Value.int .i64 0, Value.int .i64 0, Value.int .i64 0, Value.pointer none, Value.string ⟨⟨[]⟩⟩, Value.int .i64 0, Value.int .u32 0, Value.int .u32 0, Value.bool false, Value.int .i64 0] = evBuild Tryz.prog 87 := by refine evBuildZ_eq (z := .agg ⟨[Value.int .i64 0, Value.int .i64 0, Value.int .i64 0, Value.int .i64 0, Value.pointer none, Value.string ⟨⟨[]⟩⟩, Value.int .i64 0, Value.int .u32 0, Value.int .u32 0, Value.bool false, Value.int .i64 0]⟩) ?_ ?_ <;> kernel_rfl
theorem bz89 : evBuildZ Tryz.prog 89 [Value.string ⟨⟨[]⟩⟩, Value.int .i64 0, Value.int .i64 0] = evBuild Tryz.prog 89 := by refine evBuildZ_eq (z := .agg ⟨[Value.string ⟨⟨[]⟩⟩, Value.int .i64 0, Value.int .i64 0]⟩) ?_ ?_ <;> kernel_rfl
theorem bz93 : evBuildZ Tryz.prog 93 (appV [Value.string ⟨⟨[]⟩⟩] (appV (repV (Value.int .i64 0) 256) (appV [Value.slice none 0 0] (appV [Value.int .i64 0] (appV [Value.slice none 0 0] [Value.int .i64 0]))))) = evBuild Tryz.prog 93 := by refine evBuildZ_eq (z := .agg ⟨(appV [Value.string ⟨⟨[]⟩⟩] (appV (repV (Value.int .i64 0) 256) (appV [Value.slice none 0 0] (appV [Value.int .i64 0] (appV [Value.slice none 0 0] [Value.int .i64 0])))))⟩) ?_ ?_ <;> kernel_rfl
theorem cw3x5 (x : Int) (k : Value → M Value) : conv2 Tryz.prog 3 5 (.int .i64 x) k = k (.int .u8 (IntKind.u8.wrap x)) := by kernel_rfl
theorem cw3x62 (x : Int) (k : Value → M Value) : conv2 Tryz.prog 3 62 (.int .i64 x) k = k (.int .u32 (IntKind.u32.wrap x)) := by kernel_rfl
theorem cw5x3 (x : Int) (k : Value → M Value) : conv2 Tryz.prog 5 3 (.int .u8 x) k = k (.int .i64 (IntKind.i64.wrap x)) := by kernel_rfl
theorem cw5x62 (x : Int) (k : Value → M Value) : conv2 Tryz.prog 5 62 (.int .u8 x) k = k (.int .u32 (IntKind.u32.wrap x)) := by kernel_rfl
theorem cw62x187 (x : Int) (k : Value → M Value) : conv2 Tryz.prog 62 187 (.int .u32 x) k = k (.int .u64 (IntKind.u64.wrap x)) := by kernel_rfl
theorem cw62x3 (x : Int) (k : Value → M Value) : conv2 Tryz.prog 62 3 (.int .u32 x) k = k (.int .i64 (IntKind.i64.wrap x)) := by kernel_rfl
theorem cw62x5 (x : Int) (k : Value → M Value) : conv2 Tryz.prog 62 5 (.int .u32 x) k = k (.int .u8 (IntKind.u8.wrap x)) := by kernel_rfl
theorem ga106 : agg? Tryz.prog 106 = some true := by kernel_rfl
theorem ga109 : agg? Tryz.prog 109 = some true := by kernel_rfl
theorem ga116 : agg? Tryz.prog 116 = some false := by kernel_rfl
theorem ga119 : agg? Tryz.prog 119 = some false := by kernel_rfl
theorem ga120 : agg? Tryz.prog 120 = some false := by kernel_rfl
theorem ga121 : agg? Tryz.prog 121 = some false := by kernel_rfl
theorem ga139 : agg? Tryz.prog 139 = some false := by kernel_rfl
theorem ga140 : agg? Tryz.prog 140 = some false := by kernel_rfl
theorem ga141 : agg? Tryz.prog 141 = some false := by kernel_rfl
theorem ga150 : agg? Tryz.prog 150 = some true := by kernel_rfl
theorem ga158 : agg? Tryz.prog 158 = some false := by kernel_rfl
theorem ga160 : agg? Tryz.prog 160 = some true := by kernel_rfl
theorem ga168 : agg? Tryz.prog 168 = some true := by kernel_rfl
theorem ga209 : agg? Tryz.prog 209 = some true := by kernel_rfl
theorem ga230 : agg? Tryz.prog 230 = some true := by kernel_rfl
theorem ga238 : agg? Tryz.prog 238 = some false := by kernel_rfl
theorem ga24 : agg? Tryz.prog 24 = some false := by kernel_rfl
theorem ga26 : agg? Tryz.prog 26 = some false := by kernel_rfl
theorem ga27 : agg? Tryz.prog 27 = some false := by kernel_rfl
theorem ga3 : agg? Tryz.prog 3 = some false := by kernel_rfl
theorem ga4 : agg? Tryz.prog 4 = some false := by kernel_rfl
theorem ga5 : agg? Tryz.prog 5 = some false := by kernel_rfl
theorem ga51 : agg? Tryz.prog 51 = some false := by kernel_rfl
theorem ga55 : agg? Tryz.prog 55 = some false := by kernel_rfl
theorem ga57 : agg? Tryz.prog 57 = some false := by kernel_rfl
theorem ga58 : agg? Tryz.prog 58 = some false := by kernel_rfl
theorem ga62 : agg? Tryz.prog 62 = some false := by kernel_rfl
theorem ga64 : agg? Tryz.prog 64 = some true := by kernel_rfl
theorem ga65 : agg? Tryz.prog 65 = some false := by kernel_rfl
theorem ga66 : agg? Tryz.prog 66 = some false := by kernel_rfl
theorem ga67 : agg? Tryz.prog 67 = some false := by kernel_rfl
theorem ga75 : agg? Tryz.prog 75 = some false := by kernel_rfl
theorem ga79 : agg? Tryz.prog 79 = some true := by kernel_rfl
theorem ga84 : agg? Tryz.prog 84 = some false := by kernel_rfl
theorem ga85 : agg? Tryz.prog 85 = some false := by kernel_rfl
theorem ga9 : agg? Tryz.prog 9 = some false := by kernel_rfl
theorem ga90 : agg? Tryz.prog 90 = some true := by kernel_rfl
theorem ga91 : agg? Tryz.prog 91 = some false := by kernel_rfl
theorem gf106f0 (b off : Nat) : evFieldAddr Tryz.prog 106 (.pointer (some ⟨b, off, none⟩)) 0 = some (.pointer (some ⟨b, off + 0, none⟩)) := by kernel_rfl
theorem gf106f1 (b off : Nat) : evFieldAddr Tryz.prog 106 (.pointer (some ⟨b, off, none⟩)) 1 = some (.pointer (some ⟨b, off + 1, none⟩)) := by kernel_rfl
theorem gf109f0 (b off : Nat) : evFieldAddr Tryz.prog 109 (.pointer (some ⟨b, off, none⟩)) 0 = some (.pointer (some ⟨b, off + 0, none⟩)) := by kernel_rfl
theorem gf109f1 (b off : Nat) : evFieldAddr Tryz.prog 109 (.pointer (some ⟨b, off, none⟩)) 1 = some (.pointer (some ⟨b, off + 1, none⟩)) := by kernel_rfl
theorem gf112f0 (b off : Nat) : evFieldAddr Tryz.prog 112 (.pointer (some ⟨b, off, none⟩)) 0 = some (.pointer (some ⟨b, off + 0, none⟩)) := by kernel_rfl
theorem gf112f1 (b off : Nat) : evFieldAddr Tryz.prog 112 (.pointer (some ⟨b, off, none⟩)) 1 = some (.pointer (some ⟨b, off + 1, none⟩)) := by kernel_rfl
theorem gf112f2 (b off : Nat) : evFieldAddr Tryz.prog 112 (.pointer (some ⟨b, off, none⟩)) 2 = some (.pointer (some ⟨b, off + 2, none⟩)) := by kernel_rfl
theorem gf118f0 (b off : Nat) : evFieldAddr Tryz.prog 118 (.pointer (some ⟨b, off, none⟩)) 0 = some (.pointer (some ⟨b, off + 0, none⟩)) := by kernel_rfl
theorem gf118f1 (b off : Nat) : evFieldAddr Tryz.prog 118 (.pointer (some ⟨b, off, none⟩)) 1 = some (.pointer (some ⟨b, off + 1, none⟩)) := by kernel_rfl
theorem gf118f2 (b off : Nat) : evFieldAddr Tryz.prog 118 (.pointer (some ⟨b, off, none⟩)) 2 = some (.pointer (some ⟨b, off + 2, none⟩)) := by kernel_rfl
theorem gf118f3 (b off : Nat) : evFieldAddr Tryz.prog 118 (.pointer (some ⟨b, off, none⟩)) 3 = some (.pointer (some ⟨b, off + 3, none⟩)) := by kernel_rfl
theorem gf118f4 (b off : Nat) : evFieldAddr Tryz.prog 118 (.pointer (some ⟨b, off, none⟩)) 4 = some (.pointer (some ⟨b, off + 4, none⟩)) := by kernel_rfl
theorem gf118f5 (b off : Nat) : evFieldAddr Tryz.prog 118 (.pointer (some ⟨b, off, none⟩)) 5 = some (.pointer (some ⟨b, off + 5, none⟩)) := by kernel_rfl
theorem gf118f6 (b off : Nat) : evFieldAddr Tryz.prog 118 (.pointer (some ⟨b, off, none⟩)) 6 = some (.pointer (some ⟨b, off + 6, none⟩)) := by kernel_rfl
theorem gf118f7 (b off : Nat) : evFieldAddr Tryz.prog 118 (.pointer (some ⟨b, off, none⟩)) 7 = some (.pointer (some ⟨b, off + 7, none⟩)) := by kernel_rfl
theorem gf123f0 (b off : Nat) : evFieldAddr Tryz.prog 123 (.pointer (some ⟨b, off, none⟩)) 0 = some (.pointer (some ⟨b, off + 0, none⟩)) := by kernel_rfl
theorem gf123f1 (b off : Nat) : evFieldAddr Tryz.prog 123 (.pointer (some ⟨b, off, none⟩)) 1 = some (.pointer (some ⟨b, off + 1, none⟩)) := by kernel_rfl
theorem gf123f2 (b off : Nat) : evFieldAddr Tryz.prog 123 (.pointer (some ⟨b, off, none⟩)) 2 = some (.pointer (some ⟨b, off + 2, none⟩)) := by kernel_rfl
theorem gf123f3 (b off : Nat) : evFieldAddr Tryz.prog 123 (.pointer (some ⟨b, off, none⟩)) 3 = some (.pointer (some ⟨b, off + 3, none⟩)) := by kernel_rfl
theorem gf123f4 (b off : Nat) : evFieldAddr Tryz.prog 123 (.pointer (some ⟨b, off, none⟩)) 4 = some (.pointer (some ⟨b, off + 4, none⟩)) := by kernel_rfl
theorem gf143f0 (b off : Nat) : evFieldAddr Tryz.prog 143 (.pointer (some ⟨b, off, none⟩)) 0 = some (.pointer (some ⟨b, off + 0, none⟩)) := by kernel_rfl
theorem gf143f1 (b off : Nat) : evFieldAddr Tryz.prog 143 (.pointer (some ⟨b, off, none⟩)) 1 = some (.pointer (some ⟨b, off + 1, none⟩)) := by kernel_rfl
theorem gf143f2 (b off : Nat) : evFieldAddr Tryz.prog 143 (.pointer (some ⟨b, off, none⟩)) 2 = some (.pointer (some ⟨b, off + 2, none⟩)) := by kernel_rfl
theorem gf143f3 (b off : Nat) : evFieldAddr Tryz.prog 143 (.pointer (some ⟨b, off, none⟩)) 3 = some (.pointer (some ⟨b, off + 3, none⟩)) := by kernel_rfl
theorem gf143f4 (b off : Nat) : evFieldAddr Tryz.prog 143 (.pointer (some ⟨b, off, none⟩)) 4 = some (.pointer (some ⟨b, off + 4, none⟩)) := by kernel_rfl
theorem gf143f5 (b off : Nat) : evFieldAddr Tryz.prog 143 (.pointer (some ⟨b, off, none⟩)) 5 = some (.pointer (some ⟨b, off + 5, none⟩)) := by kernel_rfl
theorem gf143f6 (b off : Nat) : evFieldAddr Tryz.prog 143 (.pointer (some ⟨b, off, none⟩)) 6 = some (.pointer (some ⟨b, off + 6, none⟩)) := by kernel_rfl
theorem gf143f7 (b off : Nat) : evFieldAddr Tryz.prog 143 (.pointer (some ⟨b, off, none⟩)) 7 = some (.pointer (some ⟨b, off + 7, none⟩)) := by kernel_rfl
theorem gf147f0 (b off : Nat) : evFieldAddr Tryz.prog 147 (.pointer (some ⟨b, off, none⟩)) 0 = some (.pointer (some ⟨b, off + 0, none⟩)) := by kernel_rfl
theorem gf153f0 (b off : Nat) : evFieldAddr Tryz.prog 153 (.pointer (some ⟨b, off, none⟩)) 0 = some (.pointer (some ⟨b, off + 0, none⟩)) := by kernel_rfl
theorem gf153f1 (b off : Nat) : evFieldAddr Tryz.prog 153 (.pointer (some ⟨b, off, none⟩)) 1 = some (.pointer (some ⟨b, off + 256, none⟩)) := by kernel_rfl
theorem gf160f0 (b off : Nat) : evFieldAddr Tryz.prog 160 (.pointer (some ⟨b, off, none⟩)) 0 = some (.pointer (some ⟨b, off + 0, none⟩)) := by kernel_rfl
theorem gf160f1 (b off : Nat) : evFieldAddr Tryz.prog 160 (.pointer (some ⟨b, off, none⟩)) 1 = some (.pointer (some ⟨b, off + 1, none⟩)) := by kernel_rfl
theorem gf170f0 (b off : Nat) : evFieldAddr Tryz.prog 170 (.pointer (some ⟨b, off, none⟩)) 0 = some (.pointer (some ⟨b, off + 0, none⟩)) := by kernel_rfl
theorem gf170f1 (b off : Nat) : evFieldAddr Tryz.prog 170 (.pointer (some ⟨b, off, none⟩)) 1 = some (.pointer (some ⟨b, off + 1, none⟩)) := by kernel_rfl
theorem gf170f2 (b off : Nat) : evFieldAddr Tryz.prog 170 (.pointer (some ⟨b, off, none⟩)) 2 = some (.pointer (some ⟨b, off + 2, none⟩)) := by kernel_rfl
theorem gf170f3 (b off : Nat) : evFieldAddr Tryz.prog 170 (.pointer (some ⟨b, off, none⟩)) 3 = some (.pointer (some ⟨b, off + 8, none⟩)) := by kernel_rfl
theorem gf170f4 (b off : Nat) : evFieldAddr Tryz.prog 170 (.pointer (some ⟨b, off, none⟩)) 4 = some (.pointer (some ⟨b, off + 9, none⟩)) := by kernel_rfl
theorem gf209f0 (b off : Nat) : evFieldAddr Tryz.prog 209 (.pointer (some ⟨b, off, none⟩)) 0 = some (.pointer (some ⟨b, off + 0, none⟩)) := by kernel_rfl
theorem gf209f1 (b off : Nat) : evFieldAddr Tryz.prog 209 (.pointer (some ⟨b, off, none⟩)) 1 = some (.pointer (some ⟨b, off + 1, none⟩)) := by kernel_rfl
theorem gf209f2 (b off : Nat) : evFieldAddr Tryz.prog 209 (.pointer (some ⟨b, off, none⟩)) 2 = some (.pointer (some ⟨b, off + 2, none⟩)) := by kernel_rfl
theorem gf226f0 (b off : Nat) : evFieldAddr Tryz.prog 226 (.pointer (some ⟨b, off, none⟩)) 0 = some (.pointer (some ⟨b, off + 0, none⟩)) := by kernel_rfl
theorem gf237f0 (b off : Nat) : evFieldAddr Tryz.prog 237 (.pointer (some ⟨b, off, none⟩)) 0 = some (.pointer (some ⟨b, off + 0, none⟩)) := by kernel_rfl
theorem gf237f1 (b off : Nat) : evFieldAddr Tryz.prog 237 (.pointer (some ⟨b, off, none⟩)) 1 = some (.pointer (some ⟨b, off + 1, none⟩)) := by kernel_rfl
theorem gf237f2 (b off : Nat) : evFieldAddr Tryz.prog 237 (.pointer (some ⟨b, off, none⟩)) 2 = some (.pointer (some ⟨b, off + 2, none⟩)) := by kernel_rfl
theorem gf237f3 (b off : Nat) : evFieldAddr Tryz.prog 237 (.pointer (some ⟨b, off, none⟩)) 3 = some (.pointer (some ⟨b, off + 3, none⟩)) := by kernel_rfl
theorem gf237f4 (b off : Nat) : evFieldAddr Tryz.prog 237 (.pointer (some ⟨b, off, none⟩)) 4 = some (.pointer (some ⟨b, off + 4, none⟩)) := by kernel_rfl
theorem gf237f5 (b off : Nat) : evFieldAddr Tryz.prog 237 (.pointer (some ⟨b, off, none⟩)) 5 = some (.pointer (some ⟨b, off + 5, none⟩)) := by kernel_rfl
theorem gf242f0 (b off : Nat) : evFieldAddr Tryz.prog 242 (.pointer (some ⟨b, off, none⟩)) 0 = some (.pointer (some ⟨b, off + 0, none⟩)) := by kernel_rfl
theorem gf242f1 (b off : Nat) : evFieldAddr Tryz.prog 242 (.pointer (some ⟨b, off, none⟩)) 1 = some (.pointer (some ⟨b, off + 1, none⟩)) := by kernel_rfl
theorem gf242f2 (b off : Nat) : evFieldAddr Tryz.prog 242 (.pointer (some ⟨b, off, none⟩)) 2 = some (.pointer (some ⟨b, off + 2, none⟩)) := by kernel_rfl
theorem gf242f3 (b off : Nat) : evFieldAddr Tryz.prog 242 (.pointer (some ⟨b, off, none⟩)) 3 = some (.pointer (some ⟨b, off + 3, none⟩)) := by kernel_rfl
theorem gf248f1 (b off : Nat) : evFieldAddr Tryz.prog 248 (.pointer (some ⟨b, off, none⟩)) 1 = some (.pointer (some ⟨b, off + 1, none⟩)) := by kernel_rfl
theorem gf248f2 (b off : Nat) : evFieldAddr Tryz.prog 248 (.pointer (some ⟨b, off, none⟩)) 2 = some (.pointer (some ⟨b, off + 2, none⟩)) := by kernel_rfl
theorem gf248f3 (b off : Nat) : evFieldAddr Tryz.prog 248 (.pointer (some ⟨b, off, none⟩)) 3 = some (.pointer (some ⟨b, off + 3, none⟩)) := by kernel_rfl
theorem gf248f4 (b off : Nat) : evFieldAddr Tryz.prog 248 (.pointer (some ⟨b, off, none⟩)) 4 = some (.pointer (some ⟨b, off + 24, none⟩)) := by kernel_rfl
theorem gf60f0 (b off : Nat) : evFieldAddr Tryz.prog 60 (.pointer (some ⟨b, off, none⟩)) 0 = some (.pointer (some ⟨b, off + 0, none⟩)) := by kernel_rfl
theorem gf60f1 (b off : Nat) : evFieldAddr Tryz.prog 60 (.pointer (some ⟨b, off, none⟩)) 1 = some (.pointer (some ⟨b, off + 1, none⟩)) := by kernel_rfl
theorem gf60f10 (b off : Nat) : evFieldAddr Tryz.prog 60 (.pointer (some ⟨b, off, none⟩)) 10 = some (.pointer (some ⟨b, off + 10, none⟩)) := by kernel_rfl
theorem gf60f2 (b off : Nat) : evFieldAddr Tryz.prog 60 (.pointer (some ⟨b, off, none⟩)) 2 = some (.pointer (some ⟨b, off + 2, none⟩)) := by kernel_rfl
theorem gf60f3 (b off : Nat) : evFieldAddr Tryz.prog 60 (.pointer (some ⟨b, off, none⟩)) 3 = some (.pointer (some ⟨b, off + 3, none⟩)) := by kernel_rfl
theorem gf60f4 (b off : Nat) : evFieldAddr Tryz.prog 60 (.pointer (some ⟨b, off, none⟩)) 4 = some (.pointer (some ⟨b, off + 4, none⟩)) := by kernel_rfl
theorem gf60f5 (b off : Nat) : evFieldAddr Tryz.prog 60 (.pointer (some ⟨b, off, none⟩)) 5 = some (.pointer (some ⟨b, off + 5, none⟩)) := by kernel_rfl
theorem gf60f6 (b off : Nat) : evFieldAddr Tryz.prog 60 (.pointer (some ⟨b, off, none⟩)) 6 = some (.pointer (some ⟨b, off + 6, none⟩)) := by kernel_rfl
theorem gf60f7 (b off : Nat) : evFieldAddr Tryz.prog 60 (.pointer (some ⟨b, off, none⟩)) 7 = some (.pointer (some ⟨b, off + 7, none⟩)) := by kernel_rfl
theorem gf60f8 (b off : Nat) : evFieldAddr Tryz.prog 60 (.pointer (some ⟨b, off, none⟩)) 8 = some (.pointer (some ⟨b, off + 8, none⟩)) := by kernel_rfl
theorem gf60f9 (b off : Nat) : evFieldAddr Tryz.prog 60 (.pointer (some ⟨b, off, none⟩)) 9 = some (.pointer (some ⟨b, off + 9, none⟩)) := by kernel_rfl
theorem gf64f0 (b off : Nat) : evFieldAddr Tryz.prog 64 (.pointer (some ⟨b, off, none⟩)) 0 = some (.pointer (some ⟨b, off + 0, none⟩)) := by kernel_rfl
theorem gf64f1 (b off : Nat) : evFieldAddr Tryz.prog 64 (.pointer (some ⟨b, off, none⟩)) 1 = some (.pointer (some ⟨b, off + 1, none⟩)) := by kernel_rfl
theorem gf64f2 (b off : Nat) : evFieldAddr Tryz.prog 64 (.pointer (some ⟨b, off, none⟩)) 2 = some (.pointer (some ⟨b, off + 2, none⟩)) := by kernel_rfl
theorem gf69f0 (b off : Nat) : evFieldAddr Tryz.prog 69 (.pointer (some ⟨b, off, none⟩)) 0 = some (.pointer (some ⟨b, off + 0, none⟩)) := by kernel_rfl
theorem gf69f1 (b off : Nat) : evFieldAddr Tryz.prog 69 (.pointer (some ⟨b, off, none⟩)) 1 = some (.pointer (some ⟨b, off + 3, none⟩)) := by kernel_rfl
theorem gf69f2 (b off : Nat) : evFieldAddr Tryz.prog 69 (.pointer (some ⟨b, off, none⟩)) 2 = some (.pointer (some ⟨b, off + 4, none⟩)) := by kernel_rfl
theorem gf69f3 (b off : Nat) : evFieldAddr Tryz.prog 69 (.pointer (some ⟨b, off, none⟩)) 3 = some (.pointer (some ⟨b, off + 5, none⟩)) := by kernel_rfl
theorem gf71f0 (b off : Nat) : evFieldAddr Tryz.prog 71 (.pointer (some ⟨b, off, none⟩)) 0 = some (.pointer (some ⟨b, off + 0, none⟩)) := by kernel_rfl
theorem gf71f1 (b off : Nat) : evFieldAddr Tryz.prog 71 (.pointer (some ⟨b, off, none⟩)) 1 = some (.pointer (some ⟨b, off + 1, none⟩)) := by kernel_rfl
theorem gf73f0 (b off : Nat) : evFieldAddr Tryz.prog 73 (.pointer (some ⟨b, off, none⟩)) 0 = some (.pointer (some ⟨b, off + 0, none⟩)) := by kernel_rfl
theorem gf73f1 (b off : Nat) : evFieldAddr Tryz.prog 73 (.pointer (some ⟨b, off, none⟩)) 1 = some (.pointer (some ⟨b, off + 2, none⟩)) := by kernel_rfl
theorem gf73f2 (b off : Nat) : evFieldAddr Tryz.prog 73 (.pointer (some ⟨b, off, none⟩)) 2 = some (.pointer (some ⟨b, off + 3, none⟩)) := by kernel_rfl
theorem gf79f0 (b off : Nat) : evFieldAddr Tryz.prog 79 (.pointer (some ⟨b, off, none⟩)) 0 = some (.pointer (some ⟨b, off + 0, none⟩)) := by kernel_rfl
theorem gf79f1 (b off : Nat) : evFieldAddr Tryz.prog 79 (.pointer (some ⟨b, off, none⟩)) 1 = some (.pointer (some ⟨b, off + 1, none⟩)) := by kernel_rfl
theorem gf87f0 (b off : Nat) : evFieldAddr Tryz.prog 87 (.pointer (some ⟨b, off, none⟩)) 0 = some (.pointer (some ⟨b, off + 0, none⟩)) := by kernel_rfl
theorem gf87f1 (b off : Nat) : evFieldAddr Tryz.prog 87 (.pointer (some ⟨b, off, none⟩)) 1 = some (.pointer (some ⟨b, off + 1, none⟩)) := by kernel_rfl
theorem gf87f2 (b off : Nat) : evFieldAddr Tryz.prog 87 (.pointer (some ⟨b, off, none⟩)) 2 = some (.pointer (some ⟨b, off + 2, none⟩)) := by kernel_rfl
theorem gf87f3 (b off : Nat) : evFieldAddr Tryz.prog 87 (.pointer (some ⟨b, off, none⟩)) 3 = some (.pointer (some ⟨b, off + 3, none⟩)) := by kernel_rfl
theorem gf87f4 (b off : Nat) : evFieldAddr Tryz.prog 87 (.pointer (some ⟨b, off, none⟩)) 4 = some (.pointer (some ⟨b, off + 4, none⟩)) := by kernel_rfl
theorem gf87f5 (b off : Nat) : evFieldAddr Tryz.prog 87 (.pointer (some ⟨b, off, none⟩)) 5 = some (.pointer (some ⟨b, off + 5, none⟩)) := by kernel_rfl
theorem gf87f6 (b off : Nat) : evFieldAddr Tryz.prog 87 (.pointer (some ⟨b, off, none⟩)) 6 = some (.pointer (some ⟨b, off + 8, none⟩)) := by kernel_rfl
theorem gf87f7 (b off : Nat) : evFieldAddr Tryz.prog 87 (.pointer (some ⟨b, off, none⟩)) 7 = some (.pointer (some ⟨b, off + 9, none⟩)) := by kernel_rfl
theorem gf87f8 (b off : Nat) : evFieldAddr Tryz.prog 87 (.pointer (some ⟨b, off, none⟩)) 8 = some (.pointer (some ⟨b, off + 10, none⟩)) := by kernel_rfl
theorem gf89f0 (b off : Nat) : evFieldAddr Tryz.prog 89 (.pointer (some ⟨b, off, none⟩)) 0 = some (.pointer (some ⟨b, off + 0, none⟩)) := by kernel_rfl
theorem gf89f1 (b off : Nat) : evFieldAddr Tryz.prog 89 (.pointer (some ⟨b, off, none⟩)) 1 = some (.pointer (some ⟨b, off + 1, none⟩)) := by kernel_rfl
theorem gf89f2 (b off : Nat) : evFieldAddr Tryz.prog 89 (.pointer (some ⟨b, off, none⟩)) 2 = some (.pointer (some ⟨b, off + 2, none⟩)) := by kernel_rfl
theorem gf93f0 (b off : Nat) : evFieldAddr Tryz.prog 93 (.pointer (some ⟨b, off, none⟩)) 0 = some (.pointer (some ⟨b, off + 0, none⟩)) := by kernel_rfl
theorem gf93f1 (b off : Nat) : evFieldAddr Tryz.prog 93 (.pointer (some ⟨b, off, none⟩)) 1 = some (.pointer (some ⟨b, off + 1, none⟩)) := by kernel_rfl
theorem gf93f2 (b off : Nat) : evFieldAddr Tryz.prog 93 (.pointer (some ⟨b, off, none⟩)) 2 = some (.pointer (some ⟨b, off + 257, none⟩)) := by kernel_rfl
theorem gf93f3 (b off : Nat) : evFieldAddr Tryz.prog 93 (.pointer (some ⟨b, off, none⟩)) 3 = some (.pointer (some ⟨b, off + 258, none⟩)) := by kernel_rfl
theorem gf93f4 (b off : Nat) : evFieldAddr Tryz.prog 93 (.pointer (some ⟨b, off, none⟩)) 4 = some (.pointer (some ⟨b, off + 259, none⟩)) := by kernel_rfl
theorem gf93f5 (b off : Nat) : evFieldAddr Tryz.prog 93 (.pointer (some ⟨b, off, none⟩)) 5 = some (.pointer (some ⟨b, off + 260, none⟩)) := by kernel_rfl
theorem gs106 : size? Tryz.prog 106 = some 2 := by kernel_rfl
theorem gs109 : size? Tryz.prog 109 = some 2 := by kernel_rfl
theorem gs116 : size? Tryz.prog 116 = some 1 := by kernel_rfl
theorem gs140 : size? Tryz.prog 140 = some 1 := by kernel_rfl
theorem gs141 : size? Tryz.prog 141 = some 1 := by kernel_rfl
theorem gs150 : size? Tryz.prog 150 = some 256 := by kernel_rfl
theorem gs160 : size? Tryz.prog 160 = some 2 := by kernel_rfl
theorem gs168 : size? Tryz.prog 168 = some 6 := by kernel_rfl
theorem gs209 : size? Tryz.prog 209 = some 3 := by kernel_rfl
theorem gs230 : size? Tryz.prog 230 = some 256 := by kernel_rfl
theorem gs238 : size? Tryz.prog 238 = some 1 := by kernel_rfl
theorem gs24 : size? Tryz.prog 24 = some 1 := by kernel_rfl
theorem gs27 : size? Tryz.prog 27 = some 1 := by kernel_rfl
theorem gs3 : size? Tryz.prog 3 = some 1 := by kernel_rfl
theorem gs4 : size? Tryz.prog 4 = some 1 := by kernel_rfl
theorem gs5 : size? Tryz.prog 5 = some 1 := by kernel_rfl
theorem gs57 : size? Tryz.prog 57 = some 1 := by kernel_rfl
theorem gs58 : size? Tryz.prog 58 = some 1 := by kernel_rfl
theorem gs62 : size? Tryz.prog 62 = some 1 := by kernel_rfl
theorem gs64 : size? Tryz.prog 64 = some 3 := by kernel_rfl
theorem gs79 : size? Tryz.prog 79 = some 2 := by kernel_rfl
theorem gs84 : size? Tryz.prog 84 = some 1 := by kernel_rfl
theorem gs85 : size? Tryz.prog 85 = some 1 := by kernel_rfl
theorem gs9 : size? Tryz.prog 9 = some 1 := by kernel_rfl
theorem gs90 : size? Tryz.prog 90 = some 256 := by kernel_rfl
theorem gs91 : size? Tryz.prog 91 = some 1 := by kernel_rfl
theorem nf187 : isNilT Tryz.prog 187 = false := by kernel_rfl
theorem nf27 : isNilT Tryz.prog 27 = false := by kernel_rfl
theorem nf3 : isNilT Tryz.prog 3 = false := by kernel_rfl
theorem nf5 : isNilT Tryz.prog 5 = false := by kernel_rfl
theorem nf62 : isNilT Tryz.prog 62 = false := by kernel_rfl
theorem nf84 : isNilT Tryz.prog 84 = false := by kernel_rfl
theorem nf9 : isNilT Tryz.prog 9 = false := by kernel_rfl
theorem nf97 : isNilT Tryz.prog 97 = false := by kernel_rfl

/- balerlaw24_none -/
noncomputable def F_balerlaw24_none (lf d : Nat) (rec : FuncId → Array Value → M Value) : M Value :=
 (inside (rec 10 #[(Value.int .i64 24), (Value.int .i64 64), (Value.int .i64 9)])).bind fun v8n1 =>
 optK (evExtract v8n1 0) fun v9n2 =>
 optK (evExtract v8n1 1) fun v10n3 =>
 (inside (rec 42 #[(Value.int .i64 1), (Value.int .i64 24), (Value.string { data := #[] })])).bind fun v12n4 =>
 (inside (rec 11 #[v9n2, v12n4])).bind fun v13n5 =>
 (inside (rec 15 #[v9n2, (Value.int .i64 100)])).bind fun v15n6 =>
 (inside (rec 14 #[v9n2])).bind fun v17n7 =>
 (inside (rec 15 #[v9n2, (Value.int .i64 100)])).bind fun v19n8 =>
 optK (q_eql Tryz.prog 27 v10n3 (Value.int .i64 0)) fun v21n9 =>
 ifV v21n9 (
 optK (q_eql Tryz.prog 27 v17n7 (Value.int .i64 0)) fun v24n10 =>
 ifV v24n10 (
 optK (q_eql Tryz.prog 3 v13n5 (Value.int .i64 14)) fun v28n11 =>
 ifV v28n11 (
 optK (q_eql Tryz.prog 3 v15n6 (Value.int .i64 6)) fun v32n12 =>
 ifV v32n12 (
 optK (q_eql Tryz.prog 3 v19n8 (Value.int .i64 1)) fun v36n13 =>
 ifV v36n13 (
 (inside (rec 18 #[v9n2])).bind fun v40n14 =>
 ifV v40n14 (
 (inside (rec 19 #[v9n2])).bind fun v44n15 =>
 optK (q_eql Tryz.prog 27 v44n15 (Value.int .i64 0)) fun v45n16 =>
 ifV v45n16 (
 (inside (rec 20 #[v9n2])).bind fun v49n17 =>
 optK (q_eql Tryz.prog 3 v49n17 (Value.int .i64 7)) fun v50n18 =>
 ifV v50n18 (
 (inside (rec 16 #[v9n2, (Value.int .i64 9)])).bind fun v54n19 =>
 optK (qS_eql Tryz.prog 9 v54n19 (Value.string { data := #[] })) fun v55n20 =>
 outK [v55n20]) (
 outK [(Value.bool false)])) (
 outK [(Value.bool false)])) (
 outK [(Value.bool false)])) (
 outK [(Value.bool false)])) (
 outK [(Value.bool false)])) (
 outK [(Value.bool false)])) (
 outK [(Value.bool false)])) (
 outK [(Value.bool false)])
theorem fsh_balerlaw24_none (lf d : Nat) : inside (F_balerlaw24_none lf d (evC lf d)) = evC lf (d + 1) 9 #[] := by
  unfold F_balerlaw24_none; (try simp only [clash3_eq, insB_eq, qS_eql_eq (P := Tryz.prog) nf9, q_eql_eq (P := Tryz.prog) nf27, q_eql_eq (P := Tryz.prog) nf3]); kernel_rfl

/- unpress_New -/
noncomputable def F_unpress_New (lf d : Nat) (rec : FuncId → Array Value → M Value) (a0 : Value) (a1 : Value) (a2 : Value) : M Value :=
 (inside (rec 43 #[a0])).bind fun v12n1 =>
 optK (evExtract v12n1 0) fun v13n2 =>
 optK (evExtract v12n1 1) fun v14n3 =>
 optK (q_neq Tryz.prog 27 v14n3 (Value.int .i64 0)) fun v16n4 =>
 ifV v16n4 (
 outK [(Value.pointer none), (Value.int .i64 1)]) (
 (inside (rec 44 #[a1, a2])).bind fun v20n5 =>
 optK (un3 Tryz.prog .not v20n5) fun v21n6 =>
 ifV v21n6 (
 outK [(Value.pointer none), (Value.int .i64 1)]) (
 (inside (rec 45 #[(Value.string { data := #[] })])).bind fun v25n7 =>
 insB (evBuildZ Tryz.prog 60 [Value.int .i64 0, Value.int .i64 0, Value.bool false, Value.pointer none, Value.pointer none, Value.pointer none, Value.bool false, Value.slice none 0 0, Value.bool false, Value.int .i64 0, Value.int .i64 0] [(0, a1), (1, a2), (3, v25n7), (4, v13n2)]) fun v27n8 =>
 insB (evBox3 Tryz.prog 60 v27n8) fun v28n9 =>
 outK [v28n9, (Value.int .i64 0)]))
theorem fsh_unpress_New (lf d : Nat) (a0 : Value) (a1 : Value) (a2 : Value) : inside (F_unpress_New lf d (evC lf d) a0 a1 a2) = evC lf (d + 1) 10 #[a0, a1, a2] := by
  unfold F_unpress_New; (try simp only [bz60, clash3_eq, evBox3_eq, insB_eq, q_neq_eq (P := Tryz.prog) nf27, un3_eq]); kernel_rfl

/- unpress_Expander_Feed -/
noncomputable def F_unpress_Expander_Feed (lf d : Nat) (rec : FuncId → Array Value → M Value) (a0 : Value) (a1 : Value) : M Value :=
 optK (qP_eql Tryz.prog 26 a0 (Value.pointer none)) fun v7n1 =>
 ifV v7n1 (
 outK [(Value.int .i64 0)]) (
 optK (nil2 a0) fun v10n2 =>
 optK (evFA3 Tryz.prog 60 2 v10n2 2) fun v11n3 =>
 insB (evLoad3 Tryz.prog 4 v11n3) fun v12n4 =>
 ifV v12n4 (
 outK [(Value.int .i64 0)]) (
 optK (nil2 a0) fun v16n5 =>
 optK (evFA3 Tryz.prog 60 8 v16n5 8) fun v17n6 =>
 insB (evLoad3 Tryz.prog 4 v17n6) fun v18n7 =>
 ifV v18n7 (
 outK [(Value.int .i64 0)]) (
 optK (len2 Tryz.prog #[9] [a1]) fun v21n8 =>
 optK (nil2 a0) fun v23n9 =>
 optK (evFA3 Tryz.prog 60 0 v23n9 0) fun v24n10 =>
 (timed (
 insB (evLoad3 Tryz.prog 3 v24n10) fun v25n12 => M.ret v25n12)).bind fun vtn11 =>
 optK (nil2 a0) fun v27n13 =>
 optK (evFA3 Tryz.prog 60 3 v27n13 3) fun v28n14 =>
 (timed (
 insB (evLoad3 Tryz.prog 55 v28n14) fun v29n16 => M.ret v29n16)).bind fun vtn15 =>
 (timed (
 (inside (rec 46 #[vtn15.1])).bind fun v30n18 => M.ret v30n18)).bind fun vtn17 =>
 optK (q_sub Tryz.prog 3 vtn11.1 vtn17.1) fun v31n19 =>
 optK (min2 [v21n8, v31n19]) fun v32n20 =>
 chkT ((!(clash3 vtn11.2 vtn17.2) && true) && true) (
 optK (nil2 a0) fun v34n21 =>
 optK (evFA3 Tryz.prog 60 3 v34n21 3) fun v35n22 =>
 insB (evLoad3 Tryz.prog 55 v35n22) fun v36n23 =>
 slice3 Tryz.prog 9 a1 none (some v32n20) none fun v39n24 =>
 (inside (rec 47 #[v36n23, v39n24])).bind fun v40n25 =>
 optK (q_gtr Tryz.prog 3 v32n20 (Value.int .i64 0)) fun v42n26 =>
 ifV v42n26 (
 optK (nil2 a0) fun v44n27 =>
 optK (evFA3 Tryz.prog 60 6 v44n27 6) fun v45n28 =>
 insB (evStore3 Tryz.prog 4 v45n28 (Value.bool false)) fun u29 =>
 outK [v32n20]) (
 outK [v32n20])))))
theorem fsh_unpress_Expander_Feed (lf d : Nat) (a0 : Value) (a1 : Value) : inside (F_unpress_Expander_Feed lf d (evC lf d) a0 a1) = evC lf (d + 1) 11 #[a0, a1] := by
  unfold F_unpress_Expander_Feed; (try simp only [clash3_eq, evFA3_eq (P := Tryz.prog) gf60f0, evFA3_eq (P := Tryz.prog) gf60f2, evFA3_eq (P := Tryz.prog) gf60f3, evFA3_eq (P := Tryz.prog) gf60f6, evFA3_eq (P := Tryz.prog) gf60f8, evLoad3_eq (P := Tryz.prog) ga3, evLoad3_eq (P := Tryz.prog) ga4, evLoad3_eq (P := Tryz.prog) ga55, evStore3_eq (P := Tryz.prog) gs4, insB_eq, qP_eql_eq (P := Tryz.prog) Tryz.underlying26, q_gtr_eq (P := Tryz.prog) nf3, q_sub_eq (P := Tryz.prog) nf3, slice3_eq (P := Tryz.prog) Tryz.underlying9]); kernel_rfl

/- unpress_Expander_Stopped -/
noncomputable def F_unpress_Expander_Stopped (lf d : Nat) (rec : FuncId → Array Value → M Value) (a0 : Value) : M Value :=
 optK (qP_eql Tryz.prog 26 a0 (Value.pointer none)) fun v5n1 =>
 ifV v5n1 (
 outK [(Value.bool true)]) (
 optK (nil2 a0) fun v8n2 =>
 optK (evFA3 Tryz.prog 60 8 v8n2 8) fun v9n3 =>
 insB (evLoad3 Tryz.prog 4 v9n3) fun v10n4 =>
 ifV v10n4 (
 outK [(Value.bool true)]) (
 optK (nil2 a0) fun v14n5 =>
 optK (evFA3 Tryz.prog 60 5 v14n5 5) fun v15n6 =>
 insB (evLoad3 Tryz.prog 57 v15n6) fun v16n7 =>
 optK (qP_neq Tryz.prog 57 v16n7 (Value.pointer none)) fun v17n8 =>
 ifV v17n8 (
 optK (nil2 a0) fun v19n9 =>
 optK (evFA3 Tryz.prog 60 7 v19n9 7) fun v20n10 =>
 insB (evLoad3 Tryz.prog 58 v20n10) fun v21n11 =>
 optK (len2 Tryz.prog #[58] [v21n11]) fun v22n12 =>
 optK (nil2 a0) fun v24n13 =>
 optK (evFA3 Tryz.prog 60 1 v24n13 1) fun v25n14 =>
 insB (evLoad3 Tryz.prog 3 v25n14) fun v26n15 =>
 optK (q_geq Tryz.prog 3 v22n12 v26n15) fun v27n16 =>
 outK [v27n16]) (
 optK (nil2 a0) fun v29n17 =>
 optK (evFA3 Tryz.prog 60 6 v29n17 6) fun v30n18 =>
 insB (evLoad3 Tryz.prog 4 v30n18) fun v31n19 =>
 outK [v31n19])))
theorem fsh_unpress_Expander_Stopped (lf d : Nat) (a0 : Value) : inside (F_unpress_Expander_Stopped lf d (evC lf d) a0) = evC lf (d + 1) 13 #[a0] := by
  unfold F_unpress_Expander_Stopped; (try simp only [clash3_eq, evFA3_eq (P := Tryz.prog) gf60f1, evFA3_eq (P := Tryz.prog) gf60f5, evFA3_eq (P := Tryz.prog) gf60f6, evFA3_eq (P := Tryz.prog) gf60f7, evFA3_eq (P := Tryz.prog) gf60f8, evLoad3_eq (P := Tryz.prog) ga3, evLoad3_eq (P := Tryz.prog) ga4, evLoad3_eq (P := Tryz.prog) ga57, evLoad3_eq (P := Tryz.prog) ga58, insB_eq, qP_eql_eq (P := Tryz.prog) Tryz.underlying26, qP_neq_eq (P := Tryz.prog) Tryz.underlying57, q_geq_eq (P := Tryz.prog) nf3]); kernel_rfl

/- unpress_Expander_End -/
noncomputable def F_unpress_Expander_End (lf d : Nat) (rec : FuncId → Array Value → M Value) (a0 : Value) : M Value :=
 optK (qP_eql Tryz.prog 26 a0 (Value.pointer none)) fun v4n1 =>
 ifV v4n1 (
 outK [(Value.int .i64 7)]) (
 optK (nil2 a0) fun v7n2 =>
 optK (evFA3 Tryz.prog 60 2 v7n2 2) fun v8n3 =>
 insB (evLoad3 Tryz.prog 4 v8n3) fun v9n4 =>
 ifV v9n4 (
 outK [(Value.int .i64 7)]) (
 optK (nil2 a0) fun v12n5 =>
 optK (evFA3 Tryz.prog 60 2 v12n5 2) fun v13n6 =>
 insB (evStore3 Tryz.prog 4 v13n6 (Value.bool true)) fun u7 =>
 optK (nil2 a0) fun v15n8 =>
 optK (evFA3 Tryz.prog 60 6 v15n8 6) fun v16n9 =>
 insB (evStore3 Tryz.prog 4 v16n9 (Value.bool false)) fun u10 =>
 outK [(Value.int .i64 0)]))
theorem fsh_unpress_Expander_End (lf d : Nat) (a0 : Value) : inside (F_unpress_Expander_End lf d (evC lf d) a0) = evC lf (d + 1) 14 #[a0] := by
  unfold F_unpress_Expander_End; (try simp only [clash3_eq, evFA3_eq (P := Tryz.prog) gf60f2, evFA3_eq (P := Tryz.prog) gf60f6, evLoad3_eq (P := Tryz.prog) ga4, evStore3_eq (P := Tryz.prog) gs4, insB_eq, qP_eql_eq (P := Tryz.prog) Tryz.underlying26]); kernel_rfl

/- unpress_Expander_Step -/
noncomputable def lpA_unpress_Expander_Step (lf d fu : Nat) (k : Ex → Fr → M Value) (x0 : Value) (x1 : Value) (x4 : Value) (x5 : Value) : M Value := loopK (fun s1 k1 => codeK Tryz.prog (evC lf d) (gtA 15) lf (codeAt (bodyOf Tryz.prog 15) [true, true, false, false, false]) s1 k1) [0, 1, 4, 5] fu [(0, x0), (1, x1), (4, x4), (5, x5)] k
noncomputable def kcA_unpress_Expander_Step (lf d : Nat) : Ex → Fr → M Value := contAt Tryz.prog (evC lf d) (gtA 15) lf (bodyOf Tryz.prog 15) [true, true, false, false] (endK Tryz.prog (resOf Tryz.prog 15))
noncomputable def LA_unpress_Expander_Step (lf d : Nat) (rec : FuncId → Array Value → M Value) (k : Ex → Fr → M Value) : Nat → Value → Value → Value → Value → M Value
 | 0, _, _, _, _ => M.fail
 | fu + 1, x0, x1, x4, x5 =>
 optK (q_lss Tryz.prog 3 x5 x1) fun v8n1 =>
 ifV v8n1 (
 (inside (rec 13 #[x0])).bind fun v11n2 =>
 optK (un3 Tryz.prog .not v11n2) fun v12n3 =>
 ifV v12n3 (
 optK (nil2 x0) fun v15n4 =>
 optK (evFA3 Tryz.prog 60 5 v15n4 5) fun v16n5 =>
 insB (evLoad3 Tryz.prog 57 v16n5) fun v17n6 =>
 optK (qP_neq Tryz.prog 57 v17n6 (Value.pointer none)) fun v18n7 =>
 ifV v18n7 (
 (inside (rec 50 #[x0])).bind fun v20n8 =>
 optK (q_add Tryz.prog 3 x5 (Value.int .i64 1)) fun v25n9 =>
 LA_unpress_Expander_Step lf d rec k fu x0 x1 x4 v25n9) (
 (inside (rec 51 #[x0])).bind fun v22n10 =>
 optK (un3 Tryz.prog .not v22n10) fun v23n11 =>
 ifV v23n11 (
 LA_unpress_Expander_Step lf d rec k fu x0 x1 x4 x5) (
 optK (q_add Tryz.prog 3 x5 (Value.int .i64 1)) fun v25n12 =>
 LA_unpress_Expander_Step lf d rec k fu x0 x1 x4 v25n12))) (
 k (Ex.exit 0) [(0, x0), (1, x1), (4, x4), (5, x5), (13, v12n3)])) (
 k (Ex.exit 0) [(0, x0), (1, x1), (4, x4), (5, x5), (13, (Value.bool false))])
noncomputable def KA_unpress_Expander_Step (lf d : Nat) (rec : FuncId → Array Value → M Value) (dflt : Ex → Fr → M Value) : Ex → Fr → M Value := (kEx 0 (runCur [0, 1, 4, 5, 13] (fun y0 y1 y4 y5 y13 =>
 optK (qP_neq Tryz.prog 26 y0 (Value.pointer none)) fun v27n13 =>
 ifV v27n13 (
 optK (nil2 y0) fun v29n14 =>
 optK (evFA3 Tryz.prog 60 10 v29n14 10) fun v30n15 =>
 insB (evLoad3 Tryz.prog 3 v30n15) fun v31n16 =>
 optK (q_add Tryz.prog 3 v31n16 y5) fun v33n17 =>
 optK (nil2 y0) fun v34n18 =>
 optK (evFA3 Tryz.prog 60 10 v34n18 10) fun v35n19 =>
 insB (evStore3 Tryz.prog 3 v35n19 v33n17) fun u20 =>
 outK [y5]) (
 outK [y5])) (dflt (Ex.exit 0))) dflt)
noncomputable def F_unpress_Expander_Step (lf d : Nat) (rec : FuncId → Array Value → M Value) (a0 : Value) (a1 : Value) : M Value :=
 LA_unpress_Expander_Step lf d rec (KA_unpress_Expander_Step lf d rec (kcA_unpress_Expander_Step lf d)) lf a0 a1 (Value.int .i64 0) (Value.int .i64 0)
theorem LQA_unpress_Expander_Step (lf d : Nat) (k : Ex → Fr → M Value) : ∀ fu : Nat, LA_unpress_Expander_Step lf d (evC lf d) k fu = lpA_unpress_Expander_Step lf d fu k
  | 0 => by funext x0 x1 x4 x5; kernel_rfl
  | fu + 1 => by
    have ih := LQA_unpress_Expander_Step lf d k fu
    funext x0 x1 x4 x5; simp only [LA_unpress_Expander_Step, ih, clash3_eq, evFA3_eq (P := Tryz.prog) gf60f5, evLoad3_eq (P := Tryz.prog) ga57, insB_eq, qP_neq_eq (P := Tryz.prog) Tryz.underlying57, q_add_eq (P := Tryz.prog) nf3, q_lss_eq (P := Tryz.prog) nf3, un3_eq]; kernel_rfl
set_option maxRecDepth 20000 in
theorem KQA_unpress_Expander_Step (lf d : Nat) : KA_unpress_Expander_Step lf d (evC lf d) (kcA_unpress_Expander_Step lf d) = kcA_unpress_Expander_Step lf d := by
  unfold KA_unpress_Expander_Step
  refine Eq.trans (kEx_eq ?_) ?_
  · exact (runCur_eq _ _ _ (by intro y0 y1 y4 y5 y13; show _ = _; (try simp only [clash3_eq, evFA3_eq (P := Tryz.prog) gf60f10, evLoad3_eq (P := Tryz.prog) ga3, evStore3_eq (P := Tryz.prog) gs3, insB_eq, qP_neq_eq (P := Tryz.prog) Tryz.underlying26, q_add_eq (P := Tryz.prog) nf3]); kernel_rfl))
  rfl
theorem fsh_unpress_Expander_Step (lf d : Nat) (a0 : Value) (a1 : Value) : inside (F_unpress_Expander_Step lf d (evC lf d) a0 a1) = evC lf (d + 1) 15 #[a0, a1] := by
  unfold F_unpress_Expander_Step; (try simp only [KQA_unpress_Expander_Step lf d, LQA_unpress_Expander_Step, clash3_eq, insB_eq]); kernel_rfl

/- unpress_Expander_Take -/
noncomputable def F_unpress_Expander_Take (lf d : Nat) (rec : FuncId → Array Value → M Value) (a0 : Value) (a1 : Value) : M Value :=
 optK (qP_eql Tryz.prog 26 a0 (Value.pointer none)) fun v8n1 =>
 ifV v8n1 (
 outK [(Value.string { data := #[] })]) (
 optK (q_lss Tryz.prog 3 a1 (Value.int .i64 1)) fun v11n2 =>
 ifV v11n2 (
 outK [(Value.string { data := #[] })]) (
 optK (nil2 a0) fun v15n3 =>
 optK (evFA3 Tryz.prog 60 7 v15n3 7) fun v16n4 =>
 insB (evLoad3 Tryz.prog 58 v16n4) fun v17n5 =>
 optK (len2 Tryz.prog #[58] [v17n5]) fun v18n6 =>
 optK (min2 [a1, v18n6]) fun v19n7 =>
 optK (nil2 a0) fun v21n8 =>
 optK (evFA3 Tryz.prog 60 7 v21n8 7) fun v22n9 =>
 insB (evLoad3 Tryz.prog 58 v22n9) fun v23n10 =>
 slice2 Tryz.prog 58 v23n10 none (some v19n7) none fun v25n11 =>
 insB (evToStr3 v25n11) fun v26n12 =>
 optK (nil2 a0) fun v29n13 =>
 optK (evFA3 Tryz.prog 60 7 v29n13 7) fun v30n14 =>
 insB (evLoad3 Tryz.prog 58 v30n14) fun v31n15 =>
 slice2 Tryz.prog 58 v31n15 (some v19n7) none none fun v33n16 =>
 optK (nil2 a0) fun v34n17 =>
 optK (evFA3 Tryz.prog 60 7 v34n17 7) fun v35n18 =>
 insB (evStore3 Tryz.prog 58 v35n18 v33n16) fun u19 =>
 outK [v26n12]))
theorem fsh_unpress_Expander_Take (lf d : Nat) (a0 : Value) (a1 : Value) : inside (F_unpress_Expander_Take lf d (evC lf d) a0 a1) = evC lf (d + 1) 16 #[a0, a1] := by
  unfold F_unpress_Expander_Take; (try simp only [clash3_eq, evFA3_eq (P := Tryz.prog) gf60f7, evLoad3_eq (P := Tryz.prog) ga58, evStore3_eq (P := Tryz.prog) gs58, evToStr3_eq, insB_eq, qP_eql_eq (P := Tryz.prog) Tryz.underlying26, q_lss_eq (P := Tryz.prog) nf3]); kernel_rfl

/- unpress_Expander_Waiting -/
noncomputable def F_unpress_Expander_Waiting (lf d : Nat) (rec : FuncId → Array Value → M Value) (a0 : Value) : M Value :=
 optK (qP_eql Tryz.prog 26 a0 (Value.pointer none)) fun v4n1 =>
 ifV v4n1 (
 outK [(Value.int .i64 0)]) (
 optK (nil2 a0) fun v6n2 =>
 optK (evFA3 Tryz.prog 60 7 v6n2 7) fun v7n3 =>
 insB (evLoad3 Tryz.prog 58 v7n3) fun v8n4 =>
 optK (len2 Tryz.prog #[58] [v8n4]) fun v9n5 =>
 outK [v9n5])
theorem fsh_unpress_Expander_Waiting (lf d : Nat) (a0 : Value) : inside (F_unpress_Expander_Waiting lf d (evC lf d) a0) = evC lf (d + 1) 17 #[a0] := by
  unfold F_unpress_Expander_Waiting; (try simp only [clash3_eq, evFA3_eq (P := Tryz.prog) gf60f7, evLoad3_eq (P := Tryz.prog) ga58, insB_eq, qP_eql_eq (P := Tryz.prog) Tryz.underlying26]); kernel_rfl

/- unpress_Expander_Done -/
noncomputable def F_unpress_Expander_Done (lf d : Nat) (rec : FuncId → Array Value → M Value) (a0 : Value) : M Value :=
 optK (qP_neq Tryz.prog 26 a0 (Value.pointer none)) fun v4n1 =>
 ifV v4n1 (
 optK (nil2 a0) fun v7n2 =>
 optK (evFA3 Tryz.prog 60 8 v7n2 8) fun v8n3 =>
 insB (evLoad3 Tryz.prog 4 v8n3) fun v9n4 =>
 outK [v9n4]) (
 outK [(Value.bool false)])
theorem fsh_unpress_Expander_Done (lf d : Nat) (a0 : Value) : inside (F_unpress_Expander_Done lf d (evC lf d) a0) = evC lf (d + 1) 18 #[a0] := by
  unfold F_unpress_Expander_Done; (try simp only [clash3_eq, evFA3_eq (P := Tryz.prog) gf60f8, evLoad3_eq (P := Tryz.prog) ga4, insB_eq, qP_neq_eq (P := Tryz.prog) Tryz.underlying26]); kernel_rfl

/- unpress_Expander_Err -/
noncomputable def F_unpress_Expander_Err (lf d : Nat) (rec : FuncId → Array Value → M Value) (a0 : Value) : M Value :=
 optK (qP_eql Tryz.prog 26 a0 (Value.pointer none)) fun v4n1 =>
 ifV v4n1 (
 outK [(Value.int .i64 0)]) (
 optK (nil2 a0) fun v6n2 =>
 optK (evFA3 Tryz.prog 60 9 v6n2 9) fun v7n3 =>
 insB (evLoad3 Tryz.prog 27 v7n3) fun v8n4 =>
 outK [v8n4])
theorem fsh_unpress_Expander_Err (lf d : Nat) (a0 : Value) : inside (F_unpress_Expander_Err lf d (evC lf d) a0) = evC lf (d + 1) 19 #[a0] := by
  unfold F_unpress_Expander_Err; (try simp only [clash3_eq, evFA3_eq (P := Tryz.prog) gf60f9, evLoad3_eq (P := Tryz.prog) ga27, insB_eq, qP_eql_eq (P := Tryz.prog) Tryz.underlying26]); kernel_rfl

/- unpress_Expander_Steps -/
noncomputable def F_unpress_Expander_Steps (lf d : Nat) (rec : FuncId → Array Value → M Value) (a0 : Value) : M Value :=
 optK (qP_eql Tryz.prog 26 a0 (Value.pointer none)) fun v4n1 =>
 ifV v4n1 (
 outK [(Value.int .i64 0)]) (
 optK (nil2 a0) fun v6n2 =>
 optK (evFA3 Tryz.prog 60 10 v6n2 10) fun v7n3 =>
 insB (evLoad3 Tryz.prog 3 v7n3) fun v8n4 =>
 outK [v8n4])
theorem fsh_unpress_Expander_Steps (lf d : Nat) (a0 : Value) : inside (F_unpress_Expander_Steps lf d (evC lf d) a0) = evC lf (d + 1) 20 #[a0] := by
  unfold F_unpress_Expander_Steps; (try simp only [clash3_eq, evFA3_eq (P := Tryz.prog) gf60f10, evLoad3_eq (P := Tryz.prog) ga3, insB_eq, qP_eql_eq (P := Tryz.prog) Tryz.underlying26]); kernel_rfl

/- tester_Tester_Feed -/
noncomputable def F_tester_Tester_Feed (lf d : Nat) (rec : FuncId → Array Value → M Value) (a0 : Value) (a1 : Value) : M Value :=
 optK (qP_eql Tryz.prog 41 a0 (Value.pointer none)) fun v6n1 =>
 ifV v6n1 (
 outK [(Value.int .i64 0)]) (
 optK (nil2 a0) fun v8n2 =>
 optK (evFA3 Tryz.prog 73 0 v8n2 0) fun v9n3 =>
 optK (evFA3 Tryz.prog 71 0 v9n3 0) fun v10n4 =>
 insB (evLoad3 Tryz.prog 26 v10n4) fun v11n5 =>
 (inside (rec 11 #[v11n5, a1])).bind fun v13n6 =>
 outK [v13n6])
theorem fsh_tester_Tester_Feed (lf d : Nat) (a0 : Value) (a1 : Value) : inside (F_tester_Tester_Feed lf d (evC lf d) a0 a1) = evC lf (d + 1) 23 #[a0, a1] := by
  unfold F_tester_Tester_Feed; (try simp only [clash3_eq, evFA3_eq (P := Tryz.prog) gf71f0, evFA3_eq (P := Tryz.prog) gf73f0, evLoad3_eq (P := Tryz.prog) ga26, insB_eq, qP_eql_eq (P := Tryz.prog) Tryz.underlying41]); kernel_rfl

/- tester_Tester_End -/
noncomputable def F_tester_Tester_End (lf d : Nat) (rec : FuncId → Array Value → M Value) (a0 : Value) : M Value :=
 optK (qP_eql Tryz.prog 41 a0 (Value.pointer none)) fun v4n1 =>
 ifV v4n1 (
 outK [(Value.int .i64 7)]) (
 optK (nil2 a0) fun v6n2 =>
 optK (evFA3 Tryz.prog 73 0 v6n2 0) fun v7n3 =>
 optK (evFA3 Tryz.prog 71 0 v7n3 0) fun v8n4 =>
 insB (evLoad3 Tryz.prog 26 v8n4) fun v9n5 =>
 (inside (rec 14 #[v9n5])).bind fun v10n6 =>
 outK [v10n6])
theorem fsh_tester_Tester_End (lf d : Nat) (a0 : Value) : inside (F_tester_Tester_End lf d (evC lf d) a0) = evC lf (d + 1) 24 #[a0] := by
  unfold F_tester_Tester_End; (try simp only [clash3_eq, evFA3_eq (P := Tryz.prog) gf71f0, evFA3_eq (P := Tryz.prog) gf73f0, evLoad3_eq (P := Tryz.prog) ga26, insB_eq, qP_eql_eq (P := Tryz.prog) Tryz.underlying41]); kernel_rfl

/- tester_Tester_Step -/
noncomputable def lpA_tester_Tester_Step (lf d fu : Nat) (k : Ex → Fr → M Value) (x0 : Value) (x1 : Value) (x4 : Value) (x5 : Value) (x7 : Value) : M Value := loopK (fun s1 k1 => codeK Tryz.prog (evC lf d) (gtA 25) lf (codeAt (bodyOf Tryz.prog 25) [true, true, true, false, false, false]) s1 k1) [0, 1, 4, 5, 7] fu [(0, x0), (1, x1), (4, x4), (5, x5), (7, x7)] k
noncomputable def kcA_tester_Tester_Step (lf d : Nat) : Ex → Fr → M Value := contAt Tryz.prog (evC lf d) (gtA 25) lf (bodyOf Tryz.prog 25) [true, true, true, false, false] (endK Tryz.prog (resOf Tryz.prog 25))
noncomputable def LA_tester_Tester_Step (lf d : Nat) (rec : FuncId → Array Value → M Value) (k : Ex → Fr → M Value) : Nat → Value → Value → Value → Value → Value → M Value
 | 0, _, _, _, _, _ => M.fail
 | fu + 1, x0, x1, x4, x5, x7 =>
 optK (q_lss Tryz.prog 3 x5 x1) fun v10n2 =>
 ifV v10n2 (
 (inside (rec 26 #[x0])).bind fun v13n3 =>
 optK (un3 Tryz.prog .not v13n3) fun v14n4 =>
 ifV v14n4 (
 optK (nil2 x0) fun v18n5 =>
 optK (evFA3 Tryz.prog 73 0 v18n5 0) fun v19n6 =>
 optK (evFA3 Tryz.prog 71 0 v19n6 0) fun v20n7 =>
 insB (evLoad3 Tryz.prog 26 v20n7) fun v21n8 =>
 optK (q_sub Tryz.prog 3 x1 x5) fun v24n9 =>
 (inside (rec 15 #[v21n8, v24n9])).bind fun v25n10 =>
 optK (q_add Tryz.prog 3 x5 v25n10) fun v26n11 =>
 optK (nil2 x0) fun v28n12 =>
 optK (evFA3 Tryz.prog 73 0 v28n12 0) fun v29n13 =>
 optK (evFA3 Tryz.prog 71 0 v29n13 0) fun v30n14 =>
 insB (evLoad3 Tryz.prog 26 v30n14) fun v31n15 =>
 (inside (rec 17 #[v31n15])).bind fun v32n16 =>
 optK (q_geq Tryz.prog 3 v32n16 (Value.int .i64 4096)) fun v33n17 =>
 ifV v33n17 (
 optK (nil2 x0) fun v43n18 =>
 optK (evFA3 Tryz.prog 73 0 v43n18 0) fun v44n19 =>
 (inside (rec 52 #[v44n19])).bind fun v45n20 =>
 LA_tester_Tester_Step lf d rec k fu x0 x1 x4 v26n11 x7) (
 optK (nil2 x0) fun v36n21 =>
 optK (evFA3 Tryz.prog 73 0 v36n21 0) fun v37n22 =>
 optK (evFA3 Tryz.prog 71 0 v37n22 0) fun v38n23 =>
 insB (evLoad3 Tryz.prog 26 v38n23) fun v39n24 =>
 (inside (rec 18 #[v39n24])).bind fun v40n25 =>
 ifV v40n25 (
 optK (nil2 x0) fun v43n26 =>
 optK (evFA3 Tryz.prog 73 0 v43n26 0) fun v44n27 =>
 (inside (rec 52 #[v44n27])).bind fun v45n28 =>
 LA_tester_Tester_Step lf d rec k fu x0 x1 x4 v26n11 x7) (
 LA_tester_Tester_Step lf d rec k fu x0 x1 x4 v26n11 x7))) (
 k (Ex.exit 0) [(0, x0), (1, x1), (4, x4), (5, x5), (7, x7), (15, v14n4)])) (
 k (Ex.exit 0) [(0, x0), (1, x1), (4, x4), (5, x5), (7, x7), (15, (Value.bool false))])
noncomputable def KA_tester_Tester_Step (lf d : Nat) (rec : FuncId → Array Value → M Value) (dflt : Ex → Fr → M Value) : Ex → Fr → M Value := (kEx 0 (runCur [0, 1, 4, 5, 7, 15] (fun y0 y1 y4 y5 y7 y15 =>
 (inside (rec 53 #[y0])).bind fun v47n29 =>
 outK [y5]) (dflt (Ex.exit 0))) dflt)
noncomputable def F_tester_Tester_Step (lf d : Nat) (rec : FuncId → Array Value → M Value) (a0 : Value) (a1 : Value) : M Value :=
 optK (qP_eql Tryz.prog 41 a0 (Value.pointer none)) fun v7n1 =>
 ifV v7n1 (
 outK [(Value.int .i64 0)]) (
 LA_tester_Tester_Step lf d rec (KA_tester_Tester_Step lf d rec (kcA_tester_Tester_Step lf d)) lf a0 a1 (Value.int .i64 0) (Value.int .i64 0) v7n1)
theorem LQA_tester_Tester_Step (lf d : Nat) (k : Ex → Fr → M Value) : ∀ fu : Nat, LA_tester_Tester_Step lf d (evC lf d) k fu = lpA_tester_Tester_Step lf d fu k
  | 0 => by funext x0 x1 x4 x5 x7; kernel_rfl
  | fu + 1 => by
    have ih := LQA_tester_Tester_Step lf d k fu
    funext x0 x1 x4 x5 x7; simp only [LA_tester_Tester_Step, ih, clash3_eq, evFA3_eq (P := Tryz.prog) gf71f0, evFA3_eq (P := Tryz.prog) gf73f0, evLoad3_eq (P := Tryz.prog) ga26, insB_eq, q_add_eq (P := Tryz.prog) nf3, q_geq_eq (P := Tryz.prog) nf3, q_lss_eq (P := Tryz.prog) nf3, q_sub_eq (P := Tryz.prog) nf3, un3_eq]; kernel_rfl
set_option maxRecDepth 20000 in
theorem KQA_tester_Tester_Step (lf d : Nat) : KA_tester_Tester_Step lf d (evC lf d) (kcA_tester_Tester_Step lf d) = kcA_tester_Tester_Step lf d := by
  unfold KA_tester_Tester_Step
  refine Eq.trans (kEx_eq ?_) ?_
  · exact (runCur_eq _ _ _ (by intro y0 y1 y4 y5 y7 y15; show _ = _; (try simp only [clash3_eq, insB_eq]); kernel_rfl))
  rfl
theorem fsh_tester_Tester_Step (lf d : Nat) (a0 : Value) (a1 : Value) : inside (F_tester_Tester_Step lf d (evC lf d) a0 a1) = evC lf (d + 1) 25 #[a0, a1] := by
  unfold F_tester_Tester_Step; (try simp only [KQA_tester_Tester_Step lf d, LQA_tester_Tester_Step, clash3_eq, insB_eq, qP_eql_eq (P := Tryz.prog) Tryz.underlying41]); kernel_rfl

/- tester_Tester_Stopped -/
noncomputable def F_tester_Tester_Stopped (lf d : Nat) (rec : FuncId → Array Value → M Value) (a0 : Value) : M Value :=
 optK (qP_eql Tryz.prog 41 a0 (Value.pointer none)) fun v4n1 =>
 ifV v4n1 (
 outK [(Value.bool true)]) (
 optK (nil2 a0) fun v7n2 =>
 optK (evFA3 Tryz.prog 73 0 v7n2 0) fun v8n3 =>
 optK (evFA3 Tryz.prog 71 0 v8n3 0) fun v9n4 =>
 insB (evLoad3 Tryz.prog 26 v9n4) fun v10n5 =>
 (inside (rec 13 #[v10n5])).bind fun v11n6 =>
 outK [v11n6])
theorem fsh_tester_Tester_Stopped (lf d : Nat) (a0 : Value) : inside (F_tester_Tester_Stopped lf d (evC lf d) a0) = evC lf (d + 1) 26 #[a0] := by
  unfold F_tester_Tester_Stopped; (try simp only [clash3_eq, evFA3_eq (P := Tryz.prog) gf71f0, evFA3_eq (P := Tryz.prog) gf73f0, evLoad3_eq (P := Tryz.prog) ga26, insB_eq, qP_eql_eq (P := Tryz.prog) Tryz.underlying41]); kernel_rfl

/- tester_Tester_Take -/
noncomputable def F_tester_Tester_Take (lf d : Nat) (rec : FuncId → Array Value → M Value) (a0 : Value) (a1 : Value) : M Value :=
 optK (qP_eql Tryz.prog 41 a0 (Value.pointer none)) fun v8n1 =>
 ifV v8n1 (
 outK [(Value.string { data := #[] })]) (
 optK (q_lss Tryz.prog 3 a1 (Value.int .i64 1)) fun v11n2 =>
 ifV v11n2 (
 outK [(Value.string { data := #[] })]) (
 optK (nil2 a0) fun v15n3 =>
 optK (evFA3 Tryz.prog 73 2 v15n3 1) fun v16n4 =>
 insB (evLoad3 Tryz.prog 9 v16n4) fun v17n5 =>
 optK (len2 Tryz.prog #[9] [v17n5]) fun v18n6 =>
 optK (min2 [a1, v18n6]) fun v19n7 =>
 optK (nil2 a0) fun v21n8 =>
 optK (evFA3 Tryz.prog 73 2 v21n8 1) fun v22n9 =>
 insB (evLoad3 Tryz.prog 9 v22n9) fun v23n10 =>
 slice3 Tryz.prog 9 v23n10 none (some v19n7) none fun v25n11 =>
 optK (nil2 a0) fun v28n12 =>
 optK (evFA3 Tryz.prog 73 2 v28n12 1) fun v29n13 =>
 insB (evLoad3 Tryz.prog 9 v29n13) fun v30n14 =>
 slice3 Tryz.prog 9 v30n14 (some v19n7) none none fun v32n15 =>
 optK (nil2 a0) fun v33n16 =>
 optK (evFA3 Tryz.prog 73 2 v33n16 1) fun v34n17 =>
 insB (evStore3 Tryz.prog 9 v34n17 v32n15) fun u18 =>
 outK [v25n11]))
theorem fsh_tester_Tester_Take (lf d : Nat) (a0 : Value) (a1 : Value) : inside (F_tester_Tester_Take lf d (evC lf d) a0 a1) = evC lf (d + 1) 27 #[a0, a1] := by
  unfold F_tester_Tester_Take; (try simp only [clash3_eq, evFA3_eq (P := Tryz.prog) gf73f1, evLoad3_eq (P := Tryz.prog) ga9, evStore3_eq (P := Tryz.prog) gs9, insB_eq, qP_eql_eq (P := Tryz.prog) Tryz.underlying41, q_lss_eq (P := Tryz.prog) nf3, slice3_eq (P := Tryz.prog) Tryz.underlying9]); kernel_rfl

/- tester_Tester_Done -/
noncomputable def F_tester_Tester_Done (lf d : Nat) (rec : FuncId → Array Value → M Value) (a0 : Value) : M Value :=
 optK (qP_neq Tryz.prog 41 a0 (Value.pointer none)) fun v4n1 =>
 ifV v4n1 (
 optK (nil2 a0) fun v7n2 =>
 optK (evFA3 Tryz.prog 73 0 v7n2 0) fun v8n3 =>
 optK (evFA3 Tryz.prog 71 0 v8n3 0) fun v9n4 =>
 insB (evLoad3 Tryz.prog 26 v9n4) fun v10n5 =>
 (inside (rec 18 #[v10n5])).bind fun v11n6 =>
 outK [v11n6]) (
 outK [(Value.bool false)])
theorem fsh_tester_Tester_Done (lf d : Nat) (a0 : Value) : inside (F_tester_Tester_Done lf d (evC lf d) a0) = evC lf (d + 1) 29 #[a0] := by
  unfold F_tester_Tester_Done; (try simp only [clash3_eq, evFA3_eq (P := Tryz.prog) gf71f0, evFA3_eq (P := Tryz.prog) gf73f0, evLoad3_eq (P := Tryz.prog) ga26, insB_eq, qP_neq_eq (P := Tryz.prog) Tryz.underlying41]); kernel_rfl

/- tester_Tester_Err -/
noncomputable def F_tester_Tester_Err (lf d : Nat) (rec : FuncId → Array Value → M Value) (a0 : Value) : M Value :=
 optK (qP_eql Tryz.prog 41 a0 (Value.pointer none)) fun v4n1 =>
 ifV v4n1 (
 outK [(Value.int .i64 0)]) (
 optK (nil2 a0) fun v6n2 =>
 optK (evFA3 Tryz.prog 73 0 v6n2 0) fun v7n3 =>
 optK (evFA3 Tryz.prog 71 0 v7n3 0) fun v8n4 =>
 insB (evLoad3 Tryz.prog 26 v8n4) fun v9n5 =>
 (inside (rec 19 #[v9n5])).bind fun v10n6 =>
 outK [v10n6])
theorem fsh_tester_Tester_Err (lf d : Nat) (a0 : Value) : inside (F_tester_Tester_Err lf d (evC lf d) a0) = evC lf (d + 1) 30 #[a0] := by
  unfold F_tester_Tester_Err; (try simp only [clash3_eq, evFA3_eq (P := Tryz.prog) gf71f0, evFA3_eq (P := Tryz.prog) gf73f0, evLoad3_eq (P := Tryz.prog) ga26, insB_eq, qP_eql_eq (P := Tryz.prog) Tryz.underlying41]); kernel_rfl

/- tester_Tester_Count -/
noncomputable def F_tester_Tester_Count (lf d : Nat) (rec : FuncId → Array Value → M Value) (a0 : Value) : M Value :=
 optK (qP_eql Tryz.prog 41 a0 (Value.pointer none)) fun v4n1 =>
 ifV v4n1 (
 outK [(Value.int .i64 0)]) (
 optK (nil2 a0) fun v6n2 =>
 optK (evFA3 Tryz.prog 73 0 v6n2 0) fun v7n3 =>
 optK (evFA3 Tryz.prog 71 1 v7n3 1) fun v8n4 =>
 insB (evLoad3 Tryz.prog 3 v8n4) fun v9n5 =>
 outK [v9n5])
theorem fsh_tester_Tester_Count (lf d : Nat) (a0 : Value) : inside (F_tester_Tester_Count lf d (evC lf d) a0) = evC lf (d + 1) 31 #[a0] := by
  unfold F_tester_Tester_Count; (try simp only [clash3_eq, evFA3_eq (P := Tryz.prog) gf71f1, evFA3_eq (P := Tryz.prog) gf73f0, evLoad3_eq (P := Tryz.prog) ga3, insB_eq, qP_eql_eq (P := Tryz.prog) Tryz.underlying41]); kernel_rfl

/- tester_Tester_Steps -/
noncomputable def F_tester_Tester_Steps (lf d : Nat) (rec : FuncId → Array Value → M Value) (a0 : Value) : M Value :=
 optK (qP_eql Tryz.prog 41 a0 (Value.pointer none)) fun v4n1 =>
 ifV v4n1 (
 outK [(Value.int .i64 0)]) (
 optK (nil2 a0) fun v6n2 =>
 optK (evFA3 Tryz.prog 73 0 v6n2 0) fun v7n3 =>
 optK (evFA3 Tryz.prog 71 0 v7n3 0) fun v8n4 =>
 insB (evLoad3 Tryz.prog 26 v8n4) fun v9n5 =>
 (inside (rec 20 #[v9n5])).bind fun v10n6 =>
 outK [v10n6])
theorem fsh_tester_Tester_Steps (lf d : Nat) (a0 : Value) : inside (F_tester_Tester_Steps lf d (evC lf d) a0) = evC lf (d + 1) 32 #[a0] := by
  unfold F_tester_Tester_Steps; (try simp only [clash3_eq, evFA3_eq (P := Tryz.prog) gf71f0, evFA3_eq (P := Tryz.prog) gf73f0, evLoad3_eq (P := Tryz.prog) ga26, insB_eq, qP_eql_eq (P := Tryz.prog) Tryz.underlying41]); kernel_rfl

/- balerlaw25_three -/
noncomputable def F_balerlaw25_three (lf d : Nat) (rec : FuncId → Array Value → M Value) : M Value :=
 (inside (rec 35 #[(Value.int .i64 24), (Value.int .i64 64)])).bind fun v8n1 =>
 optK (evExtract v8n1 0) fun v9n2 =>
 optK (evExtract v8n1 1) fun v10n3 =>
 (inside (rec 42 #[(Value.int .i64 1), (Value.int .i64 24), (Value.string { data := #[97, 98, 99] })])).bind fun v12n4 =>
 (inside (rec 23 #[v9n2, v12n4])).bind fun v13n5 =>
 (inside (rec 25 #[v9n2, (Value.int .i64 100000)])).bind fun v15n6 =>
 (inside (rec 24 #[v9n2])).bind fun v17n7 =>
 (inside (rec 25 #[v9n2, (Value.int .i64 100000)])).bind fun v19n8 =>
 optK (q_eql Tryz.prog 27 v10n3 (Value.int .i64 0)) fun v21n9 =>
 ifV v21n9 (
 optK (q_eql Tryz.prog 27 v17n7 (Value.int .i64 0)) fun v24n10 =>
 ifV v24n10 (
 optK (q_gtr Tryz.prog 3 v13n5 (Value.int .i64 14)) fun v28n11 =>
 ifV v28n11 (
 optK (q_gtr Tryz.prog 3 v15n6 (Value.int .i64 9)) fun v32n12 =>
 ifV v32n12 (
 optK (q_eql Tryz.prog 3 v19n8 (Value.int .i64 1)) fun v36n13 =>
 ifV v36n13 (
 (inside (rec 29 #[v9n2])).bind fun v40n14 =>
 ifV v40n14 (
 (inside (rec 30 #[v9n2])).bind fun v44n15 =>
 optK (q_eql Tryz.prog 27 v44n15 (Value.int .i64 0)) fun v45n16 =>
 ifV v45n16 (
 (inside (rec 31 #[v9n2])).bind fun v49n17 =>
 optK (q_eql Tryz.prog 3 v49n17 (Value.int .i64 3)) fun v50n18 =>
 ifV v50n18 (
 (inside (rec 32 #[v9n2])).bind fun v54n19 =>
 optK (q_add Tryz.prog 3 v15n6 (Value.int .i64 1)) fun v56n20 =>
 optK (q_eql Tryz.prog 3 v54n19 v56n20) fun v57n21 =>
 ifV v57n21 (
 (inside (rec 27 #[v9n2, (Value.int .i64 9)])).bind fun v61n22 =>
 optK (qS_eql Tryz.prog 9 v61n22 (Value.string { data := #[51] })) fun v62n23 =>
 outK [v62n23]) (
 outK [(Value.bool false)])) (
 outK [(Value.bool false)])) (
 outK [(Value.bool false)])) (
 outK [(Value.bool false)])) (
 outK [(Value.bool false)])) (
 outK [(Value.bool false)])) (
 outK [(Value.bool false)])) (
 outK [(Value.bool false)])) (
 outK [(Value.bool false)])
theorem fsh_balerlaw25_three (lf d : Nat) : inside (F_balerlaw25_three lf d (evC lf d)) = evC lf (d + 1) 34 #[] := by
  unfold F_balerlaw25_three; (try simp only [clash3_eq, insB_eq, qS_eql_eq (P := Tryz.prog) nf9, q_add_eq (P := Tryz.prog) nf3, q_eql_eq (P := Tryz.prog) nf27, q_eql_eq (P := Tryz.prog) nf3, q_gtr_eq (P := Tryz.prog) nf3]); kernel_rfl

/- tester_New -/
noncomputable def F_tester_New (lf d : Nat) (rec : FuncId → Array Value → M Value) (a0 : Value) (a1 : Value) : M Value :=
 (inside (rec 10 #[a0, a1, (Value.int .i64 4096)])).bind fun v11n1 =>
 optK (evExtract v11n1 0) fun v12n2 =>
 optK (evExtract v11n1 1) fun v13n3 =>
 optK (q_neq Tryz.prog 27 v13n3 (Value.int .i64 0)) fun v15n4 =>
 ifV v15n4 (
 outK [(Value.pointer none), v13n3]) (
 insB (evBuildZ Tryz.prog 71 [Value.pointer none, Value.int .i64 0] [(0, v12n2)]) fun v18n5 =>
 insB (evBuildZ Tryz.prog 73 [Value.pointer none, Value.int .i64 0, Value.string ⟨⟨[]⟩⟩, Value.bool false] [(0, v18n5)]) fun v19n6 =>
 insB (evBox3 Tryz.prog 73 v19n6) fun v20n7 =>
 outK [v20n7, (Value.int .i64 0)])
theorem fsh_tester_New (lf d : Nat) (a0 : Value) (a1 : Value) : inside (F_tester_New lf d (evC lf d) a0 a1) = evC lf (d + 1) 35 #[a0, a1] := by
  unfold F_tester_New; (try simp only [bz71, bz73, clash3_eq, evBox3_eq, insB_eq, q_neq_eq (P := Tryz.prog) nf27]); kernel_rfl

/- tester_Digits -/
noncomputable def F_tester_Digits (lf d : Nat) (rec : FuncId → Array Value → M Value) (a0 : Value) : M Value :=
 optK (q_lss Tryz.prog 3 a0 (Value.int .i64 10)) fun v4n1 =>
 ifV v4n1 (
 optK (max2 [a0, (Value.int .i64 0)]) fun v6n2 =>
 optK (q_add Tryz.prog 3 (Value.int .i64 48) v6n2) fun v7n3 =>
 conv3 Tryz.prog 3 5 .i64 .u8 v7n3 fun v8n4 =>
 insB (evBS3 Tryz.prog 58 1 [(0, v8n4)]) fun v9n5 =>
 insB (evToStr3 v9n5) fun v10n6 =>
 outK [v10n6]) (
 optK (q_quo Tryz.prog 3 a0 (Value.int .i64 10)) fun v12n7 =>
 (timed (
 (inside (rec 37 #[v12n7])).bind fun v13n9 => M.ret v13n9)).bind fun vtn8 =>
 optK (q_rem Tryz.prog 3 a0 (Value.int .i64 10)) fun v15n10 =>
 optK (q_add Tryz.prog 3 (Value.int .i64 48) v15n10) fun v16n11 =>
 (timed (
 conv3 Tryz.prog 3 5 .i64 .u8 v16n11 fun v17n13 => M.ret v17n13)).bind fun vtn12 =>
 (timed (
 insB (evBS3 Tryz.prog 58 1 [(0, vtn12.1)]) fun v18n15 => M.ret v18n15)).bind fun vtn14 =>
 (timed (
 insB (evToStr3 vtn14.1) fun v19n17 => M.ret v19n17)).bind fun vtn16 =>
 optK (qS_add Tryz.prog 9 vtn8.1 vtn16.1) fun v20n18 =>
 chkT ((!(clash3 vtn8.2 vtn12.2) && (!(clash3 vtn8.2 vtn14.2) && (!(clash3 vtn8.2 vtn16.2) && true))) && true) (
 outK [v20n18]))
theorem fsh_tester_Digits (lf d : Nat) (a0 : Value) : inside (F_tester_Digits lf d (evC lf d) a0) = evC lf (d + 1) 37 #[a0] := by
  unfold F_tester_Digits; (try simp only [clash3_eq, conv3_eq cw3x5, evBS3_eq, evToStr3_eq, insB_eq, qS_add_eq (P := Tryz.prog) nf9, q_add_eq (P := Tryz.prog) nf3, q_lss_eq (P := Tryz.prog) nf3, q_quo_eq (P := Tryz.prog) nf3, q_rem_eq (P := Tryz.prog) nf3]); kernel_rfl

/- balerref21_With -/
noncomputable def lpA_balerref21_With (lf d fu : Nat) (k : Ex → Fr → M Value) (x0 : Value) (x1 : Value) (x2 : Value) (x6 : Value) (x7 : Value) (x8 : Value) (x18 : Value) (x19 : Value) (x20 : Value) : M Value := loopK (fun s1 k1 => codeK Tryz.prog (evC lf d) (gtA 42) lf (codeAt (bodyOf Tryz.prog 42) [true, true, true, false, true, false, false]) s1 k1) [0, 1, 2, 6, 7, 8, 18, 19, 20] fu [(0, x0), (1, x1), (2, x2), (6, x6), (7, x7), (8, x8), (18, x18), (19, x19), (20, x20)] k
noncomputable def kcA_balerref21_With (lf d : Nat) : Ex → Fr → M Value := contAt Tryz.prog (evC lf d) (gtA 42) lf (bodyOf Tryz.prog 42) [true, true, true, false, true, false] (endK Tryz.prog (resOf Tryz.prog 42))
noncomputable def LA_balerref21_With (lf d : Nat) (rec : FuncId → Array Value → M Value) (k : Ex → Fr → M Value) : Nat → Value → Value → Value → Value → Value → Value → Value → Value → Value → M Value
 | 0, _, _, _, _, _, _, _, _, _ => M.fail
 | fu + 1, x0, x1, x2, x6, x7, x8, x18, x19, x20 =>
 optK (q_lss Tryz.prog 3 x20 x19) fun v21n6 =>
 ifV v21n6 (
 optK (evIA3 Tryz.prog 76 2 x18 x20) fun v22n7 =>
 insB (evLoadA3 Tryz.prog 79 2 v22n7) fun v23n8 =>
 insB (evAllocZ 79 [Value.string ⟨⟨[]⟩⟩, Value.string ⟨⟨[]⟩⟩]) fun v10n9 =>
 insB (evStoreA3 Tryz.prog 79 2 v10n9 v23n8) fun u10 =>
 optK (qS_add Tryz.prog 9 x7 (Value.string { data := #[48, 48, 49, 49, 48, 48, 48, 49, 48, 49, 48, 48, 48, 48, 48, 49, 48, 49, 48, 49, 49, 48, 48, 49, 48, 48, 49, 48, 48, 49, 49, 48, 48, 49, 48, 49, 48, 48, 49, 49, 48, 49, 48, 49, 49, 48, 48, 49] })) fun v25n11 =>
 optK (evFA3 Tryz.prog 79 0 v10n9 0) fun v26n12 =>
 (timed (
 insB (evLoad3 Tryz.prog 9 v26n12) fun v27n14 => M.ret v27n14)).bind fun vtn13 =>
 (timed (
 insB (evLoadA3 Tryz.prog 79 2 v10n9) fun v28n16 => M.ret v28n16)).bind fun vtn15 =>
 (timed (
 (inside (rec 59 #[vtn15.1])).bind fun v29n18 => M.ret v29n18)).bind fun vtn17 =>
 (timed (
 (inside (rec 58 #[vtn13.1, vtn17.1])).bind fun v30n20 => M.ret v30n20)).bind fun vtn19 =>
 optK (qS_add Tryz.prog 9 v25n11 vtn19.1) fun v31n21 =>
 chkT ((!(clash3 vtn13.2 vtn17.2) && true) && true) (
 insB (evLoadA3 Tryz.prog 79 2 v10n9) fun v33n22 =>
 (inside (rec 59 #[v33n22])).bind fun v34n23 =>
 insB (evBS3 Tryz.prog 75 1 [(0, v34n23)]) fun v35n24 =>
 insB (evAppend3 Tryz.prog 75 x8 v35n24) fun v36n25 =>
 optK (q_add Tryz.prog 3 x20 (Value.int .i64 1)) fun v37n26 =>
 LA_balerref21_With lf d rec k fu x0 x1 x2 x6 v31n21 v36n25 x18 x19 v37n26)) (
 k (Ex.exit 0) [(0, x0), (1, x1), (2, x2), (6, x6), (7, x7), (8, x8), (18, x18), (19, x19), (20, x20), (21, v21n6)])
noncomputable def KA_balerref21_With (lf d : Nat) (rec : FuncId → Array Value → M Value) (dflt : Ex → Fr → M Value) : Ex → Fr → M Value := (kEx 0 (runCur [0, 1, 2, 6, 7, 8, 18, 19, 20, 21] (fun y0 y1 y2 y6 y7 y8 y18 y19 y20 y21 =>
 (inside (rec 61 #[y8])).bind fun v40n27 =>
 optK (qS_add Tryz.prog 9 y7 v40n27) fun v41n28 =>
 (inside (rec 60 #[v41n28])).bind fun v42n29 =>
 outK [v42n29]) (dflt (Ex.exit 0))) dflt)
noncomputable def F_balerref21_With (lf d : Nat) (rec : FuncId → Array Value → M Value) (a0 : Value) (a1 : Value) (a2 : Value) : M Value :=
 (inside (rec 56 #[a0])).bind fun v12n1 =>
 optK (q_mul Tryz.prog 3 a0 a1) fun v16n2 =>
 optK (q_sub Tryz.prog 3 v16n2 (Value.int .i64 19)) fun v17n3 =>
 (inside (rec 57 #[a2, v17n3])).bind fun v18n4 =>
 optK (len2 Tryz.prog #[76] [v18n4]) fun v19n5 =>
 LA_balerref21_With lf d rec (KA_balerref21_With lf d rec (kcA_balerref21_With lf d)) lf a0 a1 a2 (Value.string { data := #[] }) v12n1 (Value.slice none 0 0) v18n4 v19n5 (Value.int .i64 0)
theorem LQA_balerref21_With (lf d : Nat) (k : Ex → Fr → M Value) : ∀ fu : Nat, LA_balerref21_With lf d (evC lf d) k fu = lpA_balerref21_With lf d fu k
  | 0 => by funext x0 x1 x2 x6 x7 x8 x18 x19 x20; kernel_rfl
  | fu + 1 => by
    have ih := LQA_balerref21_With lf d k fu
    funext x0 x1 x2 x6 x7 x8 x18 x19 x20; simp only [LA_balerref21_With, ih, az79, clash3_eq, evAppend3_eq, evBS3_eq, evFA3_eq (P := Tryz.prog) gf79f0, evIA3_eq (P := Tryz.prog) Tryz.underlying76 gs79, evLoad3_eq (P := Tryz.prog) ga9, evLoadA3_eq (P := Tryz.prog) ga79 gs79, evStoreA3_eq (P := Tryz.prog) gs79, insB_eq, qS_add_eq (P := Tryz.prog) nf9, q_add_eq (P := Tryz.prog) nf3, q_lss_eq (P := Tryz.prog) nf3]; kernel_rfl
set_option maxRecDepth 20000 in
theorem KQA_balerref21_With (lf d : Nat) : KA_balerref21_With lf d (evC lf d) (kcA_balerref21_With lf d) = kcA_balerref21_With lf d := by
  unfold KA_balerref21_With
  refine Eq.trans (kEx_eq ?_) ?_
  · exact (runCur_eq _ _ _ (by intro y0 y1 y2 y6 y7 y8 y18 y19 y20 y21; show _ = _; (try simp only [clash3_eq, insB_eq, qS_add_eq (P := Tryz.prog) nf9]); kernel_rfl))
  rfl
theorem fsh_balerref21_With (lf d : Nat) (a0 : Value) (a1 : Value) (a2 : Value) : inside (F_balerref21_With lf d (evC lf d) a0 a1 a2) = evC lf (d + 1) 42 #[a0, a1, a2] := by
  unfold F_balerref21_With; (try simp only [KQA_balerref21_With lf d, LQA_balerref21_With, clash3_eq, insB_eq, q_mul_eq (P := Tryz.prog) nf3, q_sub_eq (P := Tryz.prog) nf3]); kernel_rfl

/- unstream_New -/
noncomputable def F_unstream_New (lf d : Nat) (rec : FuncId → Array Value → M Value) (a0 : Value) : M Value :=
 (inside (rec 62 #[(Value.int .i64 1), a0])).bind fun v8n1 =>
 optK (evExtract v8n1 0) fun v9n2 =>
 optK (evExtract v8n1 1) fun v10n3 =>
 optK (q_neq Tryz.prog 27 v10n3 (Value.int .i64 0)) fun v12n4 =>
 ifV v12n4 (
 outK [(Value.pointer none), v10n3]) (
 insB (evBuildZ Tryz.prog 87 [Value.int .i64 0, Value.int .i64 0, Value.int .i64 0, Value.int .i64 0, Value.pointer none, Value.string ⟨⟨[]⟩⟩, Value.int .i64 0, Value.int .u32 0, Value.int .u32 0, Value.bool false, Value.int .i64 0] [(0, a0)]) fun v15n5 =>
 insB (evBox3 Tryz.prog 87 v15n5) fun v16n6 =>
 outK [v16n6, (Value.int .i64 0)])
theorem fsh_unstream_New (lf d : Nat) (a0 : Value) : inside (F_unstream_New lf d (evC lf d) a0) = evC lf (d + 1) 43 #[a0] := by
  unfold F_unstream_New; (try simp only [bz87, clash3_eq, evBox3_eq, insB_eq, q_neq_eq (P := Tryz.prog) nf27]); kernel_rfl

/- unpress_may -/
noncomputable def F_unpress_may (lf d : Nat) (rec : FuncId → Array Value → M Value) (a0 : Value) (a1 : Value) : M Value :=
 optK (q_geq Tryz.prog 3 a0 (Value.int .i64 64)) fun v6n1 =>
 ifV v6n1 (
 optK (q_leq Tryz.prog 3 a0 (Value.int .i64 1048576)) fun v9n2 =>
 ifV v9n2 (
 optK (q_geq Tryz.prog 3 a1 (Value.int .i64 1)) fun v13n3 =>
 ifV v13n3 (
 optK (q_leq Tryz.prog 3 a1 (Value.int .i64 65536)) fun v17n4 =>
 outK [v17n4]) (
 outK [(Value.bool false)])) (
 outK [(Value.bool false)])) (
 outK [(Value.bool false)])
theorem fsh_unpress_may (lf d : Nat) (a0 : Value) (a1 : Value) : inside (F_unpress_may lf d (evC lf d) a0 a1) = evC lf (d + 1) 44 #[a0, a1] := by
  unfold F_unpress_may; (try simp only [clash3_eq, insB_eq, q_geq_eq (P := Tryz.prog) nf3, q_leq_eq (P := Tryz.prog) nf3]); kernel_rfl

/- bits_NewReader -/
noncomputable def F_bits_NewReader (lf d : Nat) (rec : FuncId → Array Value → M Value) (a0 : Value) : M Value :=
 insB (evBuildZ Tryz.prog 89 [Value.string ⟨⟨[]⟩⟩, Value.int .i64 0, Value.int .i64 0] [(0, a0)]) fun v4n1 =>
 insB (evBox3 Tryz.prog 89 v4n1) fun v5n2 =>
 outK [v5n2]
theorem fsh_bits_NewReader (lf d : Nat) (a0 : Value) : inside (F_bits_NewReader lf d (evC lf d) a0) = evC lf (d + 1) 45 #[a0] := by
  unfold F_bits_NewReader; (try simp only [bz89, clash3_eq, evBox3_eq, insB_eq]); kernel_rfl

/- bits_Reader_Held -/
noncomputable def F_bits_Reader_Held (lf d : Nat) (rec : FuncId → Array Value → M Value) (a0 : Value) : M Value :=
 optK (qP_eql Tryz.prog 55 a0 (Value.pointer none)) fun v4n1 =>
 ifV v4n1 (
 outK [(Value.int .i64 0)]) (
 optK (nil2 a0) fun v6n2 =>
 optK (evFA3 Tryz.prog 89 0 v6n2 0) fun v7n3 =>
 insB (evLoad3 Tryz.prog 9 v7n3) fun v8n4 =>
 optK (len2 Tryz.prog #[9] [v8n4]) fun v9n5 =>
 outK [v9n5])
theorem fsh_bits_Reader_Held (lf d : Nat) (a0 : Value) : inside (F_bits_Reader_Held lf d (evC lf d) a0) = evC lf (d + 1) 46 #[a0] := by
  unfold F_bits_Reader_Held; (try simp only [clash3_eq, evFA3_eq (P := Tryz.prog) gf89f0, evLoad3_eq (P := Tryz.prog) ga9, insB_eq, qP_eql_eq (P := Tryz.prog) Tryz.underlying55]); kernel_rfl

/- bits_Reader_More -/
noncomputable def F_bits_Reader_More (lf d : Nat) (rec : FuncId → Array Value → M Value) (a0 : Value) (a1 : Value) : M Value :=
 optK (qP_eql Tryz.prog 55 a0 (Value.pointer none)) fun v6n1 =>
 ifV v6n1 (
 outK [(Value.int .i64 7)]) (
 optK (nil2 a0) fun v8n2 =>
 optK (evFA3 Tryz.prog 89 0 v8n2 0) fun v9n3 =>
 insB (evLoad3 Tryz.prog 9 v9n3) fun v10n4 =>
 optK (qS_add Tryz.prog 9 v10n4 a1) fun v12n5 =>
 optK (nil2 a0) fun v13n6 =>
 optK (evFA3 Tryz.prog 89 0 v13n6 0) fun v14n7 =>
 insB (evStore3 Tryz.prog 9 v14n7 v12n5) fun u8 =>
 outK [(Value.int .i64 0)])
theorem fsh_bits_Reader_More (lf d : Nat) (a0 : Value) (a1 : Value) : inside (F_bits_Reader_More lf d (evC lf d) a0 a1) = evC lf (d + 1) 47 #[a0, a1] := by
  unfold F_bits_Reader_More; (try simp only [clash3_eq, evFA3_eq (P := Tryz.prog) gf89f0, evLoad3_eq (P := Tryz.prog) ga9, evStore3_eq (P := Tryz.prog) gs9, insB_eq, qP_eql_eq (P := Tryz.prog) Tryz.underlying55, qS_add_eq (P := Tryz.prog) nf9]); kernel_rfl

/- unpress_Expander_open -/
noncomputable def F_unpress_Expander_open (lf d : Nat) (rec : FuncId → Array Value → M Value) (a0 : Value) : M Value :=
 optK (nil2 a0) fun v6n1 =>
 optK (evFA3 Tryz.prog 60 5 v6n1 5) fun v7n2 =>
 insB (evLoad3 Tryz.prog 57 v7n2) fun v8n3 =>
 (inside (rec 64 #[v8n3])).bind fun v9n4 =>
 optK (evExtract v9n4 0) fun v10n5 =>
 optK (evExtract v9n4 1) fun v11n6 =>
 optK (nil2 a0) fun v14n7 =>
 optK (evFA3 Tryz.prog 60 7 v14n7 7) fun v15n8 =>
 insB (evLoad3 Tryz.prog 58 v15n8) fun v16n9 =>
 insB (evAppend3 Tryz.prog 58 v16n9 v10n5) fun v18n10 =>
 optK (nil2 a0) fun v19n11 =>
 optK (evFA3 Tryz.prog 60 7 v19n11 7) fun v20n12 =>
 insB (evStore3 Tryz.prog 58 v20n12 v18n10) fun u13 =>
 optK (q_neq Tryz.prog 27 v11n6 (Value.int .i64 0)) fun v23n14 =>
 ifV v23n14 (
 (inside (rec 65 #[a0, v11n6])).bind fun v26n15 =>
 outK []) (
 optK (nil2 a0) fun v29n16 =>
 optK (evFA3 Tryz.prog 60 5 v29n16 5) fun v30n17 =>
 insB (evLoad3 Tryz.prog 57 v30n17) fun v31n18 =>
 optK (nil2 v31n18) fun v32n19 =>
 optK (evFA3 Tryz.prog 69 3 v32n19 1) fun v33n20 =>
 insB (evLoad3 Tryz.prog 65 v33n20) fun v34n21 =>
 (inside (rec 66 #[v34n21])).bind fun v35n22 =>
 ifV v35n22 (
 optK (nil2 a0) fun v37n23 =>
 optK (evFA3 Tryz.prog 60 5 v37n23 5) fun v38n24 =>
 insB (evStore3 Tryz.prog 57 v38n24 (Value.pointer none)) fun u25 =>
 outK []) (
 outK []))
theorem fsh_unpress_Expander_open (lf d : Nat) (a0 : Value) : inside (F_unpress_Expander_open lf d (evC lf d) a0) = evC lf (d + 1) 50 #[a0] := by
  unfold F_unpress_Expander_open; (try simp only [clash3_eq, evAppend3_eq, evFA3_eq (P := Tryz.prog) gf60f5, evFA3_eq (P := Tryz.prog) gf60f7, evFA3_eq (P := Tryz.prog) gf69f1, evLoad3_eq (P := Tryz.prog) ga57, evLoad3_eq (P := Tryz.prog) ga58, evLoad3_eq (P := Tryz.prog) ga65, evStore3_eq (P := Tryz.prog) gs57, evStore3_eq (P := Tryz.prog) gs58, insB_eq, q_neq_eq (P := Tryz.prog) nf27]); kernel_rfl

/- unpress_Expander_read -/
noncomputable def F_unpress_Expander_read (lf d : Nat) (rec : FuncId → Array Value → M Value) (a0 : Value) : M Value :=
 optK (nil2 a0) fun v6n1 =>
 optK (evFA3 Tryz.prog 60 2 v6n1 2) fun v7n2 =>
 insB (evLoad3 Tryz.prog 4 v7n2) fun v8n3 =>
 ifV v8n3 (
 optK (nil2 a0) fun v11n4 =>
 optK (evFA3 Tryz.prog 60 4 v11n4 4) fun v12n5 =>
 insB (evLoad3 Tryz.prog 51 v12n5) fun v13n6 =>
 (inside (rec 67 #[v13n6])).bind fun v14n7 =>
 ifV v14n7 (
 optK (nil2 a0) fun v18n8 =>
 optK (evFA3 Tryz.prog 60 3 v18n8 3) fun v19n9 =>
 insB (evLoad3 Tryz.prog 55 v19n9) fun v20n10 =>
 (inside (rec 68 #[v20n10])).bind fun v21n11 =>
 optK (q_eql Tryz.prog 3 v21n11 (Value.int .i64 0)) fun v22n12 =>
 ifV v22n12 (
 (inside (rec 65 #[a0, (Value.int .i64 0)])).bind fun v25n13 =>
 outK [(Value.bool true)]) (
 optK (nil2 a0) fun v28n14 =>
 optK (evFA3 Tryz.prog 60 4 v28n14 4) fun v29n15 =>
 insB (evLoad3 Tryz.prog 51 v29n15) fun v30n16 =>
 optK (nil2 a0) fun v32n17 =>
 optK (evFA3 Tryz.prog 60 3 v32n17 3) fun v33n18 =>
 insB (evLoad3 Tryz.prog 55 v33n18) fun v34n19 =>
 (inside (rec 69 #[v30n16, v34n19])).bind fun v35n20 =>
 optK (evExtract v35n20 0) fun v36n21 =>
 optK (evExtract v35n20 1) fun v37n22 =>
 optK (nil2 a0) fun v39n23 =>
 optK (evFA3 Tryz.prog 60 3 v39n23 3) fun v40n24 =>
 insB (evLoad3 Tryz.prog 55 v40n24) fun v41n25 =>
 (inside (rec 70 #[v41n25])).bind fun v42n26 =>
 optK (q_eql Tryz.prog 27 v37n22 (Value.int .i64 3)) fun v45n27 =>
 ifV v45n27 (
 optK (nil2 a0) fun v48n28 =>
 optK (evFA3 Tryz.prog 60 2 v48n28 2) fun v49n29 =>
 insB (evLoad3 Tryz.prog 4 v49n29) fun v50n30 =>
 optK (un3 Tryz.prog .not v50n30) fun v51n31 =>
 ifV v51n31 (
 optK (nil2 a0) fun v54n32 =>
 optK (evFA3 Tryz.prog 60 6 v54n32 6) fun v55n33 =>
 insB (evStore3 Tryz.prog 4 v55n33 (Value.bool true)) fun u34 =>
 outK [(Value.bool false)]) (
 optK (q_eql Tryz.prog 27 v37n22 (Value.int .i64 3)) fun v58n35 =>
 ifV v58n35 (
 (inside (rec 65 #[a0, (Value.int .i64 24)])).bind fun v60n36 =>
 outK [(Value.bool true)]) (
 optK (q_neq Tryz.prog 27 v37n22 (Value.int .i64 0)) fun v63n37 =>
 ifV v63n37 (
 (inside (rec 65 #[a0, v37n22])).bind fun v66n38 =>
 outK [(Value.bool true)]) (
 optK (q_eql Tryz.prog 97 v36n21 (Value.int .i64 1)) fun v69n39 =>
 ifV v69n39 (
 optK (nil2 a0) fun v72n40 =>
 optK (evFA3 Tryz.prog 60 4 v72n40 4) fun v73n41 =>
 insB (evLoad3 Tryz.prog 51 v73n41) fun v74n42 =>
 (inside (rec 72 #[v74n42])).bind fun v75n43 =>
 (inside (rec 71 #[v75n43])).bind fun v76n44 =>
 optK (nil2 a0) fun v77n45 =>
 optK (evFA3 Tryz.prog 60 5 v77n45 5) fun v78n46 =>
 insB (evStore3 Tryz.prog 57 v78n46 v76n44) fun u47 =>
 outK [(Value.bool true)]) (
 outK [(Value.bool true)]))))) (
 optK (q_eql Tryz.prog 27 v37n22 (Value.int .i64 3)) fun v58n48 =>
 ifV v58n48 (
 (inside (rec 65 #[a0, (Value.int .i64 24)])).bind fun v60n49 =>
 outK [(Value.bool true)]) (
 optK (q_neq Tryz.prog 27 v37n22 (Value.int .i64 0)) fun v63n50 =>
 ifV v63n50 (
 (inside (rec 65 #[a0, v37n22])).bind fun v66n51 =>
 outK [(Value.bool true)]) (
 optK (q_eql Tryz.prog 97 v36n21 (Value.int .i64 1)) fun v69n52 =>
 ifV v69n52 (
 optK (nil2 a0) fun v72n53 =>
 optK (evFA3 Tryz.prog 60 4 v72n53 4) fun v73n54 =>
 insB (evLoad3 Tryz.prog 51 v73n54) fun v74n55 =>
 (inside (rec 72 #[v74n55])).bind fun v75n56 =>
 (inside (rec 71 #[v75n56])).bind fun v76n57 =>
 optK (nil2 a0) fun v77n58 =>
 optK (evFA3 Tryz.prog 60 5 v77n58 5) fun v78n59 =>
 insB (evStore3 Tryz.prog 57 v78n59 v76n57) fun u60 =>
 outK [(Value.bool true)]) (
 outK [(Value.bool true)])))))) (
 optK (nil2 a0) fun v28n61 =>
 optK (evFA3 Tryz.prog 60 4 v28n61 4) fun v29n62 =>
 insB (evLoad3 Tryz.prog 51 v29n62) fun v30n63 =>
 optK (nil2 a0) fun v32n64 =>
 optK (evFA3 Tryz.prog 60 3 v32n64 3) fun v33n65 =>
 insB (evLoad3 Tryz.prog 55 v33n65) fun v34n66 =>
 (inside (rec 69 #[v30n63, v34n66])).bind fun v35n67 =>
 optK (evExtract v35n67 0) fun v36n68 =>
 optK (evExtract v35n67 1) fun v37n69 =>
 optK (nil2 a0) fun v39n70 =>
 optK (evFA3 Tryz.prog 60 3 v39n70 3) fun v40n71 =>
 insB (evLoad3 Tryz.prog 55 v40n71) fun v41n72 =>
 (inside (rec 70 #[v41n72])).bind fun v42n73 =>
 optK (q_eql Tryz.prog 27 v37n69 (Value.int .i64 3)) fun v45n74 =>
 ifV v45n74 (
 optK (nil2 a0) fun v48n75 =>
 optK (evFA3 Tryz.prog 60 2 v48n75 2) fun v49n76 =>
 insB (evLoad3 Tryz.prog 4 v49n76) fun v50n77 =>
 optK (un3 Tryz.prog .not v50n77) fun v51n78 =>
 ifV v51n78 (
 optK (nil2 a0) fun v54n79 =>
 optK (evFA3 Tryz.prog 60 6 v54n79 6) fun v55n80 =>
 insB (evStore3 Tryz.prog 4 v55n80 (Value.bool true)) fun u81 =>
 outK [(Value.bool false)]) (
 optK (q_eql Tryz.prog 27 v37n69 (Value.int .i64 3)) fun v58n82 =>
 ifV v58n82 (
 (inside (rec 65 #[a0, (Value.int .i64 24)])).bind fun v60n83 =>
 outK [(Value.bool true)]) (
 optK (q_neq Tryz.prog 27 v37n69 (Value.int .i64 0)) fun v63n84 =>
 ifV v63n84 (
 (inside (rec 65 #[a0, v37n69])).bind fun v66n85 =>
 outK [(Value.bool true)]) (
 optK (q_eql Tryz.prog 97 v36n68 (Value.int .i64 1)) fun v69n86 =>
 ifV v69n86 (
 optK (nil2 a0) fun v72n87 =>
 optK (evFA3 Tryz.prog 60 4 v72n87 4) fun v73n88 =>
 insB (evLoad3 Tryz.prog 51 v73n88) fun v74n89 =>
 (inside (rec 72 #[v74n89])).bind fun v75n90 =>
 (inside (rec 71 #[v75n90])).bind fun v76n91 =>
 optK (nil2 a0) fun v77n92 =>
 optK (evFA3 Tryz.prog 60 5 v77n92 5) fun v78n93 =>
 insB (evStore3 Tryz.prog 57 v78n93 v76n91) fun u94 =>
 outK [(Value.bool true)]) (
 outK [(Value.bool true)]))))) (
 optK (q_eql Tryz.prog 27 v37n69 (Value.int .i64 3)) fun v58n95 =>
 ifV v58n95 (
 (inside (rec 65 #[a0, (Value.int .i64 24)])).bind fun v60n96 =>
 outK [(Value.bool true)]) (
 optK (q_neq Tryz.prog 27 v37n69 (Value.int .i64 0)) fun v63n97 =>
 ifV v63n97 (
 (inside (rec 65 #[a0, v37n69])).bind fun v66n98 =>
 outK [(Value.bool true)]) (
 optK (q_eql Tryz.prog 97 v36n68 (Value.int .i64 1)) fun v69n99 =>
 ifV v69n99 (
 optK (nil2 a0) fun v72n100 =>
 optK (evFA3 Tryz.prog 60 4 v72n100 4) fun v73n101 =>
 insB (evLoad3 Tryz.prog 51 v73n101) fun v74n102 =>
 (inside (rec 72 #[v74n102])).bind fun v75n103 =>
 (inside (rec 71 #[v75n103])).bind fun v76n104 =>
 optK (nil2 a0) fun v77n105 =>
 optK (evFA3 Tryz.prog 60 5 v77n105 5) fun v78n106 =>
 insB (evStore3 Tryz.prog 57 v78n106 v76n104) fun u107 =>
 outK [(Value.bool true)]) (
 outK [(Value.bool true)])))))) (
 optK (nil2 a0) fun v28n108 =>
 optK (evFA3 Tryz.prog 60 4 v28n108 4) fun v29n109 =>
 insB (evLoad3 Tryz.prog 51 v29n109) fun v30n110 =>
 optK (nil2 a0) fun v32n111 =>
 optK (evFA3 Tryz.prog 60 3 v32n111 3) fun v33n112 =>
 insB (evLoad3 Tryz.prog 55 v33n112) fun v34n113 =>
 (inside (rec 69 #[v30n110, v34n113])).bind fun v35n114 =>
 optK (evExtract v35n114 0) fun v36n115 =>
 optK (evExtract v35n114 1) fun v37n116 =>
 optK (nil2 a0) fun v39n117 =>
 optK (evFA3 Tryz.prog 60 3 v39n117 3) fun v40n118 =>
 insB (evLoad3 Tryz.prog 55 v40n118) fun v41n119 =>
 (inside (rec 70 #[v41n119])).bind fun v42n120 =>
 optK (q_eql Tryz.prog 27 v37n116 (Value.int .i64 3)) fun v45n121 =>
 ifV v45n121 (
 optK (nil2 a0) fun v48n122 =>
 optK (evFA3 Tryz.prog 60 2 v48n122 2) fun v49n123 =>
 insB (evLoad3 Tryz.prog 4 v49n123) fun v50n124 =>
 optK (un3 Tryz.prog .not v50n124) fun v51n125 =>
 ifV v51n125 (
 optK (nil2 a0) fun v54n126 =>
 optK (evFA3 Tryz.prog 60 6 v54n126 6) fun v55n127 =>
 insB (evStore3 Tryz.prog 4 v55n127 (Value.bool true)) fun u128 =>
 outK [(Value.bool false)]) (
 optK (q_eql Tryz.prog 27 v37n116 (Value.int .i64 3)) fun v58n129 =>
 ifV v58n129 (
 (inside (rec 65 #[a0, (Value.int .i64 24)])).bind fun v60n130 =>
 outK [(Value.bool true)]) (
 optK (q_neq Tryz.prog 27 v37n116 (Value.int .i64 0)) fun v63n131 =>
 ifV v63n131 (
 (inside (rec 65 #[a0, v37n116])).bind fun v66n132 =>
 outK [(Value.bool true)]) (
 optK (q_eql Tryz.prog 97 v36n115 (Value.int .i64 1)) fun v69n133 =>
 ifV v69n133 (
 optK (nil2 a0) fun v72n134 =>
 optK (evFA3 Tryz.prog 60 4 v72n134 4) fun v73n135 =>
 insB (evLoad3 Tryz.prog 51 v73n135) fun v74n136 =>
 (inside (rec 72 #[v74n136])).bind fun v75n137 =>
 (inside (rec 71 #[v75n137])).bind fun v76n138 =>
 optK (nil2 a0) fun v77n139 =>
 optK (evFA3 Tryz.prog 60 5 v77n139 5) fun v78n140 =>
 insB (evStore3 Tryz.prog 57 v78n140 v76n138) fun u141 =>
 outK [(Value.bool true)]) (
 outK [(Value.bool true)]))))) (
 optK (q_eql Tryz.prog 27 v37n116 (Value.int .i64 3)) fun v58n142 =>
 ifV v58n142 (
 (inside (rec 65 #[a0, (Value.int .i64 24)])).bind fun v60n143 =>
 outK [(Value.bool true)]) (
 optK (q_neq Tryz.prog 27 v37n116 (Value.int .i64 0)) fun v63n144 =>
 ifV v63n144 (
 (inside (rec 65 #[a0, v37n116])).bind fun v66n145 =>
 outK [(Value.bool true)]) (
 optK (q_eql Tryz.prog 97 v36n115 (Value.int .i64 1)) fun v69n146 =>
 ifV v69n146 (
 optK (nil2 a0) fun v72n147 =>
 optK (evFA3 Tryz.prog 60 4 v72n147 4) fun v73n148 =>
 insB (evLoad3 Tryz.prog 51 v73n148) fun v74n149 =>
 (inside (rec 72 #[v74n149])).bind fun v75n150 =>
 (inside (rec 71 #[v75n150])).bind fun v76n151 =>
 optK (nil2 a0) fun v77n152 =>
 optK (evFA3 Tryz.prog 60 5 v77n152 5) fun v78n153 =>
 insB (evStore3 Tryz.prog 57 v78n153 v76n151) fun u154 =>
 outK [(Value.bool true)]) (
 outK [(Value.bool true)])))))
theorem fsh_unpress_Expander_read (lf d : Nat) (a0 : Value) : inside (F_unpress_Expander_read lf d (evC lf d) a0) = evC lf (d + 1) 51 #[a0] := by
  unfold F_unpress_Expander_read; (try simp only [clash3_eq, evFA3_eq (P := Tryz.prog) gf60f2, evFA3_eq (P := Tryz.prog) gf60f3, evFA3_eq (P := Tryz.prog) gf60f4, evFA3_eq (P := Tryz.prog) gf60f5, evFA3_eq (P := Tryz.prog) gf60f6, evLoad3_eq (P := Tryz.prog) ga4, evLoad3_eq (P := Tryz.prog) ga51, evLoad3_eq (P := Tryz.prog) ga55, evStore3_eq (P := Tryz.prog) gs4, evStore3_eq (P := Tryz.prog) gs57, insB_eq, q_eql_eq (P := Tryz.prog) nf27, q_eql_eq (P := Tryz.prog) nf3, q_eql_eq (P := Tryz.prog) nf97, q_neq_eq (P := Tryz.prog) nf27, un3_eq]); kernel_rfl

/- tester_counted_forget -/
noncomputable def F_tester_counted_forget (lf d : Nat) (rec : FuncId → Array Value → M Value) (a0 : Value) : M Value :=
 optK (nil2 a0) fun v3n1 =>
 optK (evFA3 Tryz.prog 71 1 v3n1 1) fun v4n2 =>
 (timed (
 insB (evLoad3 Tryz.prog 3 v4n2) fun v5n4 => M.ret v5n4)).bind fun vtn3 =>
 optK (nil2 a0) fun v7n5 =>
 optK (evFA3 Tryz.prog 71 0 v7n5 0) fun v8n6 =>
 (timed (
 insB (evLoad3 Tryz.prog 26 v8n6) fun v9n8 => M.ret v9n8)).bind fun vtn7 =>
 optK (nil2 a0) fun v11n9 =>
 optK (evFA3 Tryz.prog 71 0 v11n9 0) fun v12n10 =>
 (timed (
 insB (evLoad3 Tryz.prog 26 v12n10) fun v13n12 => M.ret v13n12)).bind fun vtn11 =>
 (timed (
 (inside (rec 17 #[vtn11.1])).bind fun v14n14 => M.ret v14n14)).bind fun vtn13 =>
 (timed (
 (inside (rec 16 #[vtn7.1, vtn13.1])).bind fun v15n16 => M.ret v15n16)).bind fun vtn15 =>
 optK (len2 Tryz.prog #[9] [vtn15.1]) fun v16n17 =>
 optK (q_add Tryz.prog 3 vtn3.1 v16n17) fun v17n18 =>
 optK (nil2 a0) fun v18n19 =>
 optK (evFA3 Tryz.prog 71 1 v18n19 1) fun v19n20 =>
 (timed (
 insB (evStore3 Tryz.prog 3 v19n20 v17n18) fun u22 => M.ret u22)).bind fun vtn21 =>
 chkT ((!(clash3 vtn3.2 vtn13.2) && (!(clash3 vtn3.2 vtn15.2) && true)) && ((!(clash3 vtn7.2 vtn13.2) && true) && true)) (
 outK [])
theorem fsh_tester_counted_forget (lf d : Nat) (a0 : Value) : inside (F_tester_counted_forget lf d (evC lf d) a0) = evC lf (d + 1) 52 #[a0] := by
  unfold F_tester_counted_forget; (try simp only [clash3_eq, evFA3_eq (P := Tryz.prog) gf71f0, evFA3_eq (P := Tryz.prog) gf71f1, evLoad3_eq (P := Tryz.prog) ga26, evLoad3_eq (P := Tryz.prog) ga3, evStore3_eq (P := Tryz.prog) gs3, insB_eq, q_add_eq (P := Tryz.prog) nf3]); kernel_rfl

/- tester_Tester_tell -/
noncomputable def F_tester_Tester_tell (lf d : Nat) (rec : FuncId → Array Value → M Value) (a0 : Value) : M Value :=
 optK (nil2 a0) fun v3n1 =>
 optK (evFA3 Tryz.prog 73 0 v3n1 0) fun v4n2 =>
 optK (evFA3 Tryz.prog 71 0 v4n2 0) fun v5n3 =>
 insB (evLoad3 Tryz.prog 26 v5n3) fun v6n4 =>
 (inside (rec 18 #[v6n4])).bind fun v7n5 =>
 ifV v7n5 (
 optK (nil2 a0) fun v10n6 =>
 optK (evFA3 Tryz.prog 73 0 v10n6 0) fun v11n7 =>
 optK (evFA3 Tryz.prog 71 0 v11n7 0) fun v12n8 =>
 insB (evLoad3 Tryz.prog 26 v12n8) fun v13n9 =>
 (inside (rec 19 #[v13n9])).bind fun v14n10 =>
 optK (q_eql Tryz.prog 27 v14n10 (Value.int .i64 0)) fun v15n11 =>
 ifV v15n11 (
 optK (nil2 a0) fun v19n12 =>
 optK (evFA3 Tryz.prog 73 3 v19n12 2) fun v20n13 =>
 insB (evLoad3 Tryz.prog 4 v20n13) fun v21n14 =>
 optK (un3 Tryz.prog .not v21n14) fun v22n15 =>
 ifV v22n15 (
 optK (nil2 a0) fun v25n16 =>
 optK (evFA3 Tryz.prog 73 3 v25n16 2) fun v26n17 =>
 insB (evStore3 Tryz.prog 4 v26n17 (Value.bool true)) fun u18 =>
 optK (nil2 a0) fun v29n19 =>
 optK (evFA3 Tryz.prog 73 0 v29n19 0) fun v30n20 =>
 optK (evFA3 Tryz.prog 71 1 v30n20 1) fun v31n21 =>
 insB (evLoad3 Tryz.prog 3 v31n21) fun v32n22 =>
 (inside (rec 37 #[v32n22])).bind fun v33n23 =>
 optK (nil2 a0) fun v34n24 =>
 optK (evFA3 Tryz.prog 73 2 v34n24 1) fun v35n25 =>
 insB (evStore3 Tryz.prog 9 v35n25 v33n23) fun u26 =>
 outK []) (
 outK [])) (
 outK [])) (
 outK [])
theorem fsh_tester_Tester_tell (lf d : Nat) (a0 : Value) : inside (F_tester_Tester_tell lf d (evC lf d) a0) = evC lf (d + 1) 53 #[a0] := by
  unfold F_tester_Tester_tell; (try simp only [clash3_eq, evFA3_eq (P := Tryz.prog) gf71f0, evFA3_eq (P := Tryz.prog) gf71f1, evFA3_eq (P := Tryz.prog) gf73f0, evFA3_eq (P := Tryz.prog) gf73f1, evFA3_eq (P := Tryz.prog) gf73f2, evLoad3_eq (P := Tryz.prog) ga26, evLoad3_eq (P := Tryz.prog) ga3, evLoad3_eq (P := Tryz.prog) ga4, evStore3_eq (P := Tryz.prog) gs4, evStore3_eq (P := Tryz.prog) gs9, insB_eq, q_eql_eq (P := Tryz.prog) nf27, un3_eq]); kernel_rfl

/- balerref21_Head -/
noncomputable def F_balerref21_Head (lf d : Nat) (rec : FuncId → Array Value → M Value) (a0 : Value) : M Value :=
 optK (q_add Tryz.prog 3 a0 (Value.int .i64 1)) fun v5n1 =>
 slice3 Tryz.prog 9 (Value.string { data := #[48, 49, 50, 51, 52, 53, 54, 55, 56, 57] }) (some a0) (some v5n1) none fun v6n2 =>
 optK (qS_add Tryz.prog 9 (Value.string { data := #[66, 90, 104] }) v6n2) fun v7n3 =>
 (inside (rec 73 #[v7n3])).bind fun v8n4 =>
 outK [v8n4]
theorem fsh_balerref21_Head (lf d : Nat) (a0 : Value) : inside (F_balerref21_Head lf d (evC lf d) a0) = evC lf (d + 1) 56 #[a0] := by
  unfold F_balerref21_Head; (try simp only [clash3_eq, insB_eq, qS_add_eq (P := Tryz.prog) nf9, q_add_eq (P := Tryz.prog) nf3, slice3_eq (P := Tryz.prog) Tryz.underlying9]); kernel_rfl

/- balerref19_Of -/
noncomputable def lpA_balerref19_Of (lf d fu : Nat) (k : Ex → Fr → M Value) (x0 : Value) (x1 : Value) (x4 : Value) (x5 : Value) (x6 : Value) (x12 : Value) (x13 : Value) (x14 : Value) : M Value := loopK (fun s1 k1 => codeK Tryz.prog (evC lf d) (gtA 57) lf (codeAt (bodyOf Tryz.prog 57) [true, true, true, false, true, false, false]) s1 k1) [0, 1, 4, 5, 6, 12, 13, 14] fu [(0, x0), (1, x1), (4, x4), (5, x5), (6, x6), (12, x12), (13, x13), (14, x14)] k
noncomputable def kcA_balerref19_Of (lf d : Nat) : Ex → Fr → M Value := contAt Tryz.prog (evC lf d) (gtA 57) lf (bodyOf Tryz.prog 57) [true, true, true, false, true, false] (endK Tryz.prog (resOf Tryz.prog 57))
noncomputable def lpB_balerref19_Of (lf d fu : Nat) (k : Ex → Fr → M Value) (x0 : Value) (x1 : Value) (x4 : Value) (x5 : Value) (x6 : Value) (x8 : Value) (x9 : Value) (x12 : Value) (x13 : Value) (x14 : Value) (x15 : Value) (x27 : Value) (x39 : Value) (x40 : Value) : M Value := loopK (fun s1 k1 => codeK Tryz.prog (evC lf d) (gtA 57) lf (codeAt (bodyOf Tryz.prog 57) [true, true, true, false, true, false, false, true, true, false, false, true, true, true, true, true, false, false]) s1 k1) [0, 1, 4, 5, 6, 8, 9, 12, 13, 14, 15, 27, 39, 40] fu [(0, x0), (1, x1), (4, x4), (5, x5), (6, x6), (8, x8), (9, x9), (12, x12), (13, x13), (14, x14), (15, x15), (27, x27), (39, x39), (40, x40)] k
noncomputable def kcB_balerref19_Of (lf d fu : Nat) (k : Ex → Fr → M Value) : Ex → Fr → M Value := contAt Tryz.prog (evC lf d) (gtA 57) lf (codeAt (bodyOf Tryz.prog 57) [true, true, true, false, true, false, false]) [true, true, false, false, true, true, true, true, true, false] (againK (fun s1 => loopK (fun s1 k1 => codeK Tryz.prog (evC lf d) (gtA 57) lf (codeAt (bodyOf Tryz.prog 57) [true, true, true, false, true, false, false]) s1 k1) [0, 1, 4, 5, 6, 12, 13, 14] fu (s1.keep [0, 1, 4, 5, 6, 12, 13, 14]) k) k)
noncomputable def KA_balerref19_Of (lf d : Nat) (rec : FuncId → Array Value → M Value) (dflt : Ex → Fr → M Value) : Ex → Fr → M Value := (kEx 0 (runCur [0, 1, 4, 5, 6, 12, 13, 14, 15] (fun y0 y1 y4 y5 y6 y12 y13 y14 y15 =>
 optK (evFA3 Tryz.prog 79 0 y6 0) fun v52n38 =>
 insB (evLoad3 Tryz.prog 9 v52n38) fun v53n39 =>
 optK (len2 Tryz.prog #[9] [v53n39]) fun v54n40 =>
 optK (q_gtr Tryz.prog 3 v54n40 (Value.int .i64 0)) fun v55n41 =>
 ifV v55n41 (
 insB (evLoadA3 Tryz.prog 79 2 y6) fun v57n42 =>
 insB (evBS3 Tryz.prog 76 1 [(0, v57n42)]) fun v58n43 =>
 insB (evAppend3 Tryz.prog 76 y5 v58n43) fun v59n44 =>
 outK [v59n44]) (
 outK [y5])) (dflt (Ex.exit 0))) dflt)
noncomputable def LB_balerref19_Of (lf d : Nat) (rec : FuncId → Array Value → M Value) (k : Ex → Fr → M Value) : Nat → Value → Value → Value → Value → Value → Value → Value → Value → Value → Value → Value → Value → Value → Value → M Value
 | 0, _, _, _, _, _, _, _, _, _, _, _, _, _, _ => M.fail
 | fu + 1, x0, x1, x4, x5, x6, x8, x9, x12, x13, x14, x15, x27, x39, x40 =>
 optK (q_lss Tryz.prog 3 x40 x39) fun v41n45 =>
 ifV v41n45 (
 optK (evFA3 Tryz.prog 79 1 x6 1) fun v42n46 =>
 insB (evLoad3 Tryz.prog 9 v42n46) fun v43n47 =>
 optK (evFA3 Tryz.prog 106 0 x8 0) fun v44n48 =>
 insB (evLoad3 Tryz.prog 5 v44n48) fun v45n49 =>
 insB (evBS3 Tryz.prog 58 1 [(0, v45n49)]) fun v46n50 =>
 insB (evToStr3 v46n50) fun v47n51 =>
 optK (qS_add Tryz.prog 9 v43n47 v47n51) fun v48n52 =>
 optK (evFA3 Tryz.prog 79 1 x6 1) fun v49n53 =>
 insB (evStore3 Tryz.prog 9 v49n53 v48n52) fun u54 =>
 optK (q_add Tryz.prog 3 x40 (Value.int .i64 1)) fun v50n55 =>
 LB_balerref19_Of lf d rec k fu x0 x1 x4 x5 x6 x8 x9 x12 x13 x14 x15 x27 x39 v50n55) (
 k (Ex.exit 2) [(0, x0), (1, x1), (4, x4), (5, x5), (6, x6), (8, x8), (9, x9), (12, x12), (13, x13), (14, x14), (15, x15), (27, x27), (39, x39), (40, x40), (41, v41n45)])
noncomputable def KB_balerref19_Of (lf d : Nat) (rec : FuncId → Array Value → M Value) (fu : Nat) (k : Ex → Fr → M Value) (again : Value → Value → Value → Value → Value → Value → Value → Value → M Value) (dflt : Ex → Fr → M Value) : Ex → Fr → M Value := (kEx 2 (runCur [0, 1, 4, 5, 6, 8, 9, 12, 13, 14, 15, 27, 39, 40, 41] (fun y0 y1 y4 y5 y6 y8 y9 y12 y13 y14 y15 y27 y39 y40 y41 =>
 optK (q_add Tryz.prog 3 y14 (Value.int .i64 1)) fun v51n56 =>
 again y0 y1 y4 y5 y6 y12 y13 v51n56) (dflt (Ex.exit 2))) dflt)
noncomputable def LA_balerref19_Of (lf d : Nat) (rec : FuncId → Array Value → M Value) (k : Ex → Fr → M Value) : Nat → Value → Value → Value → Value → Value → Value → Value → Value → M Value
 | 0, _, _, _, _, _, _, _, _ => M.fail
 | fu + 1, x0, x1, x4, x5, x6, x12, x13, x14 =>
 optK (q_lss Tryz.prog 3 x14 x13) fun v15n6 =>
 ifV v15n6 (
 optK (evIA3 Tryz.prog 103 2 x12 x14) fun v16n7 =>
 insB (evLoadA3 Tryz.prog 106 2 v16n7) fun v17n8 =>
 insB (evAllocZ 106 [Value.int .u8 0, Value.int .i64 0]) fun v8n9 =>
 insB (evStoreA3 Tryz.prog 106 2 v8n9 v17n8) fun u10 =>
 insB (evLoadA3 Tryz.prog 106 2 v8n9) fun v18n11 =>
 (inside (rec 75 #[v18n11])).bind fun v19n12 =>
 optK (evFA3 Tryz.prog 79 0 x6 0) fun v20n13 =>
 insB (evLoad3 Tryz.prog 9 v20n13) fun v21n14 =>
 optK (len2 Tryz.prog #[9] [v21n14]) fun v22n15 =>
 optK (len2 Tryz.prog #[9] [v19n12]) fun v24n16 =>
 optK (q_add Tryz.prog 3 v22n15 v24n16) fun v25n17 =>
 optK (q_gtr Tryz.prog 3 v25n17 x1) fun v27n18 =>
 ifV v27n18 (
 insB (evLoadA3 Tryz.prog 79 2 x6) fun v29n19 =>
 insB (evBS3 Tryz.prog 76 1 [(0, v29n19)]) fun v30n20 =>
 insB (evAppend3 Tryz.prog 76 x5 v30n20) fun v31n21 =>
 insB (evBuildZ Tryz.prog 79 [Value.string ⟨⟨[]⟩⟩, Value.string ⟨⟨[]⟩⟩] []) fun v32n22 =>
 insB (evStoreA3 Tryz.prog 79 2 x6 v32n22) fun u23 =>
 optK (evFA3 Tryz.prog 79 0 x6 0) fun v33n24 =>
 insB (evLoad3 Tryz.prog 9 v33n24) fun v34n25 =>
 optK (qS_add Tryz.prog 9 v34n25 v19n12) fun v36n26 =>
 optK (evFA3 Tryz.prog 79 0 x6 0) fun v37n27 =>
 insB (evStore3 Tryz.prog 9 v37n27 v36n26) fun u28 =>
 optK (evFA3 Tryz.prog 106 1 v8n9 1) fun v38n29 =>
 insB (evLoad3 Tryz.prog 3 v38n29) fun v39n30 =>
 LB_balerref19_Of lf d rec (KB_balerref19_Of lf d rec fu k (LA_balerref19_Of lf d rec k fu) (kcB_balerref19_Of lf d fu k)) lf x0 x1 x4 v31n21 x6 v8n9 v19n12 x12 x13 x14 v15n6 v27n18 v39n30 (Value.int .i64 0)) (
 optK (evFA3 Tryz.prog 79 0 x6 0) fun v33n31 =>
 insB (evLoad3 Tryz.prog 9 v33n31) fun v34n32 =>
 optK (qS_add Tryz.prog 9 v34n32 v19n12) fun v36n33 =>
 optK (evFA3 Tryz.prog 79 0 x6 0) fun v37n34 =>
 insB (evStore3 Tryz.prog 9 v37n34 v36n33) fun u35 =>
 optK (evFA3 Tryz.prog 106 1 v8n9 1) fun v38n36 =>
 insB (evLoad3 Tryz.prog 3 v38n36) fun v39n37 =>
 LB_balerref19_Of lf d rec (KB_balerref19_Of lf d rec fu k (LA_balerref19_Of lf d rec k fu) (kcB_balerref19_Of lf d fu k)) lf x0 x1 x4 x5 x6 v8n9 v19n12 x12 x13 x14 v15n6 v27n18 v39n37 (Value.int .i64 0))) (
 k (Ex.exit 0) [(0, x0), (1, x1), (4, x4), (5, x5), (6, x6), (12, x12), (13, x13), (14, x14), (15, v15n6)])
noncomputable def F_balerref19_Of (lf d : Nat) (rec : FuncId → Array Value → M Value) (a0 : Value) (a1 : Value) : M Value :=
 insB (evBuildZ Tryz.prog 79 [Value.string ⟨⟨[]⟩⟩, Value.string ⟨⟨[]⟩⟩] []) fun v10n1 =>
 insB (evAllocZ 79 [Value.string ⟨⟨[]⟩⟩, Value.string ⟨⟨[]⟩⟩]) fun v6n2 =>
 insB (evStoreA3 Tryz.prog 79 2 v6n2 v10n1) fun u3 =>
 (inside (rec 74 #[a0])).bind fun v12n4 =>
 optK (len2 Tryz.prog #[103] [v12n4]) fun v13n5 =>
 LA_balerref19_Of lf d rec (KA_balerref19_Of lf d rec (kcA_balerref19_Of lf d)) lf a0 a1 (Value.slice none 0 0) (Value.slice none 0 0) v6n2 v12n4 v13n5 (Value.int .i64 0)
set_option maxRecDepth 20000 in
theorem KQA_balerref19_Of (lf d : Nat) : KA_balerref19_Of lf d (evC lf d) (kcA_balerref19_Of lf d) = kcA_balerref19_Of lf d := by
  unfold KA_balerref19_Of
  refine Eq.trans (kEx_eq ?_) ?_
  · exact (runCur_eq _ _ _ (by intro y0 y1 y4 y5 y6 y12 y13 y14 y15; show _ = _; (try simp only [clash3_eq, evAppend3_eq, evBS3_eq, evFA3_eq (P := Tryz.prog) gf79f0, evLoad3_eq (P := Tryz.prog) ga9, evLoadA3_eq (P := Tryz.prog) ga79 gs79, insB_eq, q_gtr_eq (P := Tryz.prog) nf3]); kernel_rfl))
  rfl
theorem LQB_balerref19_Of (lf d : Nat) (k : Ex → Fr → M Value) : ∀ fu : Nat, LB_balerref19_Of lf d (evC lf d) k fu = lpB_balerref19_Of lf d fu k
  | 0 => by funext x0 x1 x4 x5 x6 x8 x9 x12 x13 x14 x15 x27 x39 x40; kernel_rfl
  | fu + 1 => by
    have ih := LQB_balerref19_Of lf d k fu
    funext x0 x1 x4 x5 x6 x8 x9 x12 x13 x14 x15 x27 x39 x40; simp only [LB_balerref19_Of, ih, clash3_eq, evBS3_eq, evFA3_eq (P := Tryz.prog) gf106f0, evFA3_eq (P := Tryz.prog) gf79f1, evLoad3_eq (P := Tryz.prog) ga5, evLoad3_eq (P := Tryz.prog) ga9, evStore3_eq (P := Tryz.prog) gs9, evToStr3_eq, insB_eq, qS_add_eq (P := Tryz.prog) nf9, q_add_eq (P := Tryz.prog) nf3, q_lss_eq (P := Tryz.prog) nf3]; kernel_rfl
set_option maxRecDepth 20000 in
theorem KQB_balerref19_Of (lf d fu : Nat) (k : Ex → Fr → M Value) (again : Value → Value → Value → Value → Value → Value → Value → Value → M Value) (ha : again = lpA_balerref19_Of lf d fu k) : KB_balerref19_Of lf d (evC lf d) fu k again (kcB_balerref19_Of lf d fu k) = kcB_balerref19_Of lf d fu k := by
  subst ha
  unfold KB_balerref19_Of
  refine Eq.trans (kEx_eq ?_) ?_
  · exact (runCur_eq _ _ _ (by intro y0 y1 y4 y5 y6 y8 y9 y12 y13 y14 y15 y27 y39 y40 y41; show _ = _; (try simp only [clash3_eq, insB_eq, q_add_eq (P := Tryz.prog) nf3]); kernel_rfl))
  rfl
theorem LQA_balerref19_Of (lf d : Nat) (k : Ex → Fr → M Value) : ∀ fu : Nat, LA_balerref19_Of lf d (evC lf d) k fu = lpA_balerref19_Of lf d fu k
  | 0 => by funext x0 x1 x4 x5 x6 x12 x13 x14; kernel_rfl
  | fu + 1 => by
    have ih := LQA_balerref19_Of lf d k fu
    funext x0 x1 x4 x5 x6 x12 x13 x14; simp only [LA_balerref19_Of, ih, KQB_balerref19_Of lf d fu k _ rfl, LQB_balerref19_Of, az106, bz79, clash3_eq, evAppend3_eq, evBS3_eq, evFA3_eq (P := Tryz.prog) gf106f1, evFA3_eq (P := Tryz.prog) gf79f0, evIA3_eq (P := Tryz.prog) Tryz.underlying103 gs106, evLoad3_eq (P := Tryz.prog) ga3, evLoad3_eq (P := Tryz.prog) ga9, evLoadA3_eq (P := Tryz.prog) ga106 gs106, evLoadA3_eq (P := Tryz.prog) ga79 gs79, evStore3_eq (P := Tryz.prog) gs9, evStoreA3_eq (P := Tryz.prog) gs106, evStoreA3_eq (P := Tryz.prog) gs79, insB_eq, qS_add_eq (P := Tryz.prog) nf9, q_add_eq (P := Tryz.prog) nf3, q_gtr_eq (P := Tryz.prog) nf3, q_lss_eq (P := Tryz.prog) nf3]; kernel_rfl
theorem fsh_balerref19_Of (lf d : Nat) (a0 : Value) (a1 : Value) : inside (F_balerref19_Of lf d (evC lf d) a0 a1) = evC lf (d + 1) 57 #[a0, a1] := by
  unfold F_balerref19_Of; (try simp only [KQA_balerref19_Of lf d, LQA_balerref19_Of, az79, bz79, clash3_eq, evStoreA3_eq (P := Tryz.prog) gs79, insB_eq]); kernel_rfl

/- balerref20_Write -/
noncomputable def F_balerref20_Write (lf d : Nat) (rec : FuncId → Array Value → M Value) (a0 : Value) (a1 : Value) : M Value :=
 (inside (rec 76 #[a0])).bind fun v7n1 =>
 insB (evAllocZ 109 [Value.string ⟨⟨[]⟩⟩, Value.int .i64 0]) fun v5n2 =>
 insB (evStoreA3 Tryz.prog 109 2 v5n2 v7n1) fun u3 =>
 optK (evFA3 Tryz.prog 109 0 v5n2 0) fun v8n4 =>
 insB (evLoad3 Tryz.prog 9 v8n4) fun v9n5 =>
 optK (evFA3 Tryz.prog 109 1 v5n2 1) fun v10n6 =>
 insB (evLoad3 Tryz.prog 3 v10n6) fun v11n7 =>
 insB (evBuildZ Tryz.prog 112 [Value.string ⟨⟨[]⟩⟩, Value.int .i64 0, Value.int .u32 0] [(0, v9n5), (1, v11n7), (2, a1)]) fun v13n8 =>
 (inside (rec 77 #[v13n8])).bind fun v14n9 =>
 outK [v14n9]
theorem fsh_balerref20_Write (lf d : Nat) (a0 : Value) (a1 : Value) : inside (F_balerref20_Write lf d (evC lf d) a0 a1) = evC lf (d + 1) 58 #[a0, a1] := by
  unfold F_balerref20_Write; (try simp only [az109, bz112, clash3_eq, evFA3_eq (P := Tryz.prog) gf109f0, evFA3_eq (P := Tryz.prog) gf109f1, evLoad3_eq (P := Tryz.prog) ga3, evLoad3_eq (P := Tryz.prog) ga9, evStoreA3_eq (P := Tryz.prog) gs109, insB_eq]); kernel_rfl

/- balerref19_Block_Sum -/
noncomputable def F_balerref19_Block_Sum (lf d : Nat) (rec : FuncId → Array Value → M Value) (a0 : Value) : M Value :=
 insB (evBox3 Tryz.prog 79 a0) fun v1n1 =>
 optK (evFA3 Tryz.prog 79 1 v1n1 1) fun v3n2 =>
 insB (evLoad3 Tryz.prog 9 v3n2) fun v4n3 =>
 (inside (rec 78 #[v4n3])).bind fun v5n4 =>
 outK [v5n4]
theorem fsh_balerref19_Block_Sum (lf d : Nat) (a0 : Value) : inside (F_balerref19_Block_Sum lf d (evC lf d) a0) = evC lf (d + 1) 59 #[a0] := by
  unfold F_balerref19_Block_Sum; (try simp only [clash3_eq, evBox3_eq, evFA3_eq (P := Tryz.prog) gf79f1, evLoad3_eq (P := Tryz.prog) ga9, insB_eq]); kernel_rfl

/- balerref01_Pack -/
noncomputable def F_balerref01_Pack (lf d : Nat) (rec : FuncId → Array Value → M Value) (a0 : Value) : M Value :=
 (inside (rec 80 #[a0])).bind fun v4n1 =>
 (inside (rec 79 #[v4n1])).bind fun v5n2 =>
 outK [v5n2]
theorem fsh_balerref01_Pack (lf d : Nat) (a0 : Value) : inside (F_balerref01_Pack lf d (evC lf d) a0) = evC lf (d + 1) 60 #[a0] := by
  unfold F_balerref01_Pack; (try simp only [clash3_eq, insB_eq]); kernel_rfl

/- balerref21_Tail -/
noncomputable def F_balerref21_Tail (lf d : Nat) (rec : FuncId → Array Value → M Value) (a0 : Value) : M Value :=
 (inside (rec 82 #[a0])).bind fun v4n1 =>
 (inside (rec 81 #[v4n1, (Value.int .i64 32)])).bind fun v5n2 =>
 optK (qS_add Tryz.prog 9 (Value.string { data := #[48, 48, 48, 49, 48, 49, 49, 49, 48, 49, 49, 49, 48, 48, 49, 48, 48, 49, 48, 48, 48, 49, 48, 49, 48, 48, 49, 49, 49, 48, 48, 48, 48, 49, 48, 49, 48, 48, 48, 48, 49, 48, 48, 49, 48, 48, 48, 48] }) v5n2) fun v6n3 =>
 outK [v6n3]
theorem fsh_balerref21_Tail (lf d : Nat) (a0 : Value) : inside (F_balerref21_Tail lf d (evC lf d) a0) = evC lf (d + 1) 61 #[a0] := by
  unfold F_balerref21_Tail; (try simp only [clash3_eq, insB_eq, qS_add_eq (P := Tryz.prog) nf9]); kernel_rfl

/- split_Room -/
noncomputable def F_split_Room (lf d : Nat) (rec : FuncId → Array Value → M Value) (a0 : Value) (a1 : Value) : M Value :=
 optK (q_lss Tryz.prog 3 a0 (Value.int .i64 1)) fun v7n1 =>
 ifV v7n1 (
 outK [(Value.int .i64 0), (Value.int .i64 1)]) (
 optK (q_gtr Tryz.prog 3 a0 (Value.int .i64 9)) fun v10n2 =>
 ifV v10n2 (
 outK [(Value.int .i64 0), (Value.int .i64 1)]) (
 optK (q_lss Tryz.prog 3 a1 (Value.int .i64 24)) fun v14n3 =>
 ifV v14n3 (
 outK [(Value.int .i64 0), (Value.int .i64 1)]) (
 optK (q_gtr Tryz.prog 3 a1 (Value.int .i64 100000)) fun v18n4 =>
 ifV v18n4 (
 outK [(Value.int .i64 0), (Value.int .i64 1)]) (
 optK (q_mul Tryz.prog 3 a0 a1) fun v22n5 =>
 optK (q_sub Tryz.prog 3 v22n5 (Value.int .i64 19)) fun v23n6 =>
 outK [v23n6, (Value.int .i64 0)]))))
theorem fsh_split_Room (lf d : Nat) (a0 : Value) (a1 : Value) : inside (F_split_Room lf d (evC lf d) a0 a1) = evC lf (d + 1) 62 #[a0, a1] := by
  unfold F_split_Room; (try simp only [clash3_eq, insB_eq, q_gtr_eq (P := Tryz.prog) nf3, q_lss_eq (P := Tryz.prog) nf3, q_mul_eq (P := Tryz.prog) nf3, q_sub_eq (P := Tryz.prog) nf3]); kernel_rfl

/- unpress_opening_step -/
noncomputable def F_unpress_opening_step (lf d : Nat) (rec : FuncId → Array Value → M Value) (a0 : Value) : M Value :=
 optK (nil2 a0) fun v8n1 =>
 optK (evFA3 Tryz.prog 69 3 v8n1 1) fun v9n2 =>
 insB (evLoad3 Tryz.prog 65 v9n2) fun v10n3 =>
 (inside (rec 84 #[v10n3, (Value.int .i64 1)])).bind fun v11n4 =>
 optK (nil2 a0) fun v13n5 =>
 optK (evFA3 Tryz.prog 69 3 v13n5 1) fun v14n6 =>
 insB (evLoad3 Tryz.prog 65 v14n6) fun v15n7 =>
 (inside (rec 85 #[v15n7])).bind fun v16n8 =>
 optK (qS_eql Tryz.prog 9 v16n8 (Value.string { data := #[] })) fun v18n9 =>
 ifV v18n9 (
 outK [(Value.string { data := #[] }), (Value.int .i64 0)]) (
 optK (nil2 a0) fun v21n10 =>
 optK (evFA3 Tryz.prog 69 4 v21n10 2) fun v22n11 =>
 insB (evLoad3 Tryz.prog 66 v22n11) fun v23n12 =>
 optK (index3 Tryz.prog 9 v16n8 (Value.int .i64 0)) fun v25n13 =>
 (inside (rec 86 #[v23n12, v25n13])).bind fun v26n14 =>
 optK (evExtract v26n14 0) fun v27n15 =>
 optK (evExtract v26n14 1) fun v28n16 =>
 optK (q_neq Tryz.prog 27 v28n16 (Value.int .i64 0)) fun v30n17 =>
 ifV v30n17 (
 outK [(Value.string { data := #[] }), v28n16]) (
 optK (nil2 a0) fun v33n18 =>
 optK (evFA3 Tryz.prog 69 5 v33n18 3) fun v34n19 =>
 insB (evLoad3 Tryz.prog 67 v34n19) fun v35n20 =>
 (inside (rec 87 #[v35n20, v27n15])).bind fun v37n21 =>
 (inside (rec 88 #[a0])).bind fun v40n22 =>
 outK [v27n15, v40n22]))
theorem fsh_unpress_opening_step (lf d : Nat) (a0 : Value) : inside (F_unpress_opening_step lf d (evC lf d) a0) = evC lf (d + 1) 64 #[a0] := by
  unfold F_unpress_opening_step; (try simp only [clash3_eq, evFA3_eq (P := Tryz.prog) gf69f1, evFA3_eq (P := Tryz.prog) gf69f2, evFA3_eq (P := Tryz.prog) gf69f3, evLoad3_eq (P := Tryz.prog) ga65, evLoad3_eq (P := Tryz.prog) ga66, evLoad3_eq (P := Tryz.prog) ga67, index3_eq (P := Tryz.prog) Tryz.underlying9, insB_eq, qS_eql_eq (P := Tryz.prog) nf9, q_neq_eq (P := Tryz.prog) nf27]); kernel_rfl

/- unpress_Expander_fail -/
noncomputable def F_unpress_Expander_fail (lf d : Nat) (rec : FuncId → Array Value → M Value) (a0 : Value) (a1 : Value) : M Value :=
 optK (nil2 a0) fun v5n1 =>
 optK (evFA3 Tryz.prog 60 8 v5n1 8) fun v6n2 =>
 insB (evStore3 Tryz.prog 4 v6n2 (Value.bool true)) fun u3 =>
 optK (nil2 a0) fun v9n4 =>
 optK (evFA3 Tryz.prog 60 9 v9n4 9) fun v10n5 =>
 insB (evStore3 Tryz.prog 27 v10n5 a1) fun u6 =>
 optK (nil2 a0) fun v12n7 =>
 optK (evFA3 Tryz.prog 60 5 v12n7 5) fun v13n8 =>
 insB (evStore3 Tryz.prog 57 v13n8 (Value.pointer none)) fun u9 =>
 outK []
theorem fsh_unpress_Expander_fail (lf d : Nat) (a0 : Value) (a1 : Value) : inside (F_unpress_Expander_fail lf d (evC lf d) a0 a1) = evC lf (d + 1) 65 #[a0, a1] := by
  unfold F_unpress_Expander_fail; (try simp only [clash3_eq, evFA3_eq (P := Tryz.prog) gf60f5, evFA3_eq (P := Tryz.prog) gf60f8, evFA3_eq (P := Tryz.prog) gf60f9, evStore3_eq (P := Tryz.prog) gs27, evStore3_eq (P := Tryz.prog) gs4, evStore3_eq (P := Tryz.prog) gs57, insB_eq]); kernel_rfl

/- unbwt_Inverter_Done -/
noncomputable def F_unbwt_Inverter_Done (lf d : Nat) (rec : FuncId → Array Value → M Value) (a0 : Value) : M Value :=
 optK (qP_neq Tryz.prog 65 a0 (Value.pointer none)) fun v4n1 =>
 ifV v4n1 (
 optK (nil2 a0) fun v7n2 =>
 optK (evFA3 Tryz.prog 93 260 v7n2 5) fun v8n3 =>
 insB (evLoad3 Tryz.prog 3 v8n3) fun v9n4 =>
 optK (nil2 a0) fun v11n5 =>
 optK (evFA3 Tryz.prog 93 0 v11n5 0) fun v12n6 =>
 insB (evLoad3 Tryz.prog 9 v12n6) fun v13n7 =>
 optK (len2 Tryz.prog #[9] [v13n7]) fun v14n8 =>
 optK (q_mul Tryz.prog 3 (Value.int .i64 3) v14n8) fun v15n9 =>
 optK (q_eql Tryz.prog 3 v9n4 v15n9) fun v16n10 =>
 outK [v16n10]) (
 outK [(Value.bool false)])
theorem fsh_unbwt_Inverter_Done (lf d : Nat) (a0 : Value) : inside (F_unbwt_Inverter_Done lf d (evC lf d) a0) = evC lf (d + 1) 66 #[a0] := by
  unfold F_unbwt_Inverter_Done; (try simp only [clash3_eq, evFA3_eq (P := Tryz.prog) gf93f0, evFA3_eq (P := Tryz.prog) gf93f5, evLoad3_eq (P := Tryz.prog) ga3, evLoad3_eq (P := Tryz.prog) ga9, insB_eq, qP_neq_eq (P := Tryz.prog) Tryz.underlying65, q_eql_eq (P := Tryz.prog) nf3, q_mul_eq (P := Tryz.prog) nf3]); kernel_rfl

/- unstream_Reader_MayEnd -/
noncomputable def F_unstream_Reader_MayEnd (lf d : Nat) (rec : FuncId → Array Value → M Value) (a0 : Value) : M Value :=
 optK (qP_neq Tryz.prog 51 a0 (Value.pointer none)) fun v4n1 =>
 ifV v4n1 (
 optK (nil2 a0) fun v7n2 =>
 optK (evFA3 Tryz.prog 87 9 v7n2 7) fun v8n3 =>
 insB (evLoad3 Tryz.prog 4 v8n3) fun v9n4 =>
 ifV v9n4 (
 optK (nil2 a0) fun v13n5 =>
 optK (evFA3 Tryz.prog 87 1 v13n5 1) fun v14n6 =>
 insB (evLoad3 Tryz.prog 84 v14n6) fun v15n7 =>
 optK (q_eql Tryz.prog 84 v15n7 (Value.int .i64 0)) fun v16n8 =>
 ifV v16n8 (
 optK (nil2 a0) fun v20n9 =>
 optK (evFA3 Tryz.prog 87 2 v20n9 2) fun v21n10 =>
 insB (evLoad3 Tryz.prog 3 v21n10) fun v22n11 =>
 optK (q_eql Tryz.prog 3 v22n11 (Value.int .i64 0)) fun v23n12 =>
 ifV v23n12 (
 optK (nil2 a0) fun v27n13 =>
 optK (evFA3 Tryz.prog 87 10 v27n13 8) fun v28n14 =>
 insB (evLoad3 Tryz.prog 27 v28n14) fun v29n15 =>
 optK (q_eql Tryz.prog 27 v29n15 (Value.int .i64 0)) fun v30n16 =>
 outK [v30n16]) (
 outK [(Value.bool false)])) (
 outK [(Value.bool false)])) (
 outK [(Value.bool false)])) (
 outK [(Value.bool false)])
theorem fsh_unstream_Reader_MayEnd (lf d : Nat) (a0 : Value) : inside (F_unstream_Reader_MayEnd lf d (evC lf d) a0) = evC lf (d + 1) 67 #[a0] := by
  unfold F_unstream_Reader_MayEnd; (try simp only [clash3_eq, evFA3_eq (P := Tryz.prog) gf87f1, evFA3_eq (P := Tryz.prog) gf87f2, evFA3_eq (P := Tryz.prog) gf87f7, evFA3_eq (P := Tryz.prog) gf87f8, evLoad3_eq (P := Tryz.prog) ga27, evLoad3_eq (P := Tryz.prog) ga3, evLoad3_eq (P := Tryz.prog) ga4, evLoad3_eq (P := Tryz.prog) ga84, insB_eq, qP_neq_eq (P := Tryz.prog) Tryz.underlying51, q_eql_eq (P := Tryz.prog) nf27, q_eql_eq (P := Tryz.prog) nf3, q_eql_eq (P := Tryz.prog) nf84]); kernel_rfl

/- bits_Reader_Left -/
noncomputable def F_bits_Reader_Left (lf d : Nat) (rec : FuncId → Array Value → M Value) (a0 : Value) : M Value :=
 optK (qP_eql Tryz.prog 55 a0 (Value.pointer none)) fun v4n1 =>
 ifV v4n1 (
 outK [(Value.int .i64 0)]) (
 (timed (
 (inside (rec 89 #[a0])).bind fun v6n3 => M.ret v6n3)).bind fun vtn2 =>
 optK (nil2 a0) fun v8n4 =>
 optK (evFA3 Tryz.prog 89 2 v8n4 2) fun v9n5 =>
 (timed (
 insB (evLoad3 Tryz.prog 3 v9n5) fun v10n7 => M.ret v10n7)).bind fun vtn6 =>
 optK (q_sub Tryz.prog 3 vtn2.1 vtn6.1) fun v11n8 =>
 chkT ((!(clash3 vtn2.2 vtn6.2) && true) && true) (
 outK [v11n8]))
theorem fsh_bits_Reader_Left (lf d : Nat) (a0 : Value) : inside (F_bits_Reader_Left lf d (evC lf d) a0) = evC lf (d + 1) 68 #[a0] := by
  unfold F_bits_Reader_Left; (try simp only [clash3_eq, evFA3_eq (P := Tryz.prog) gf89f2, evLoad3_eq (P := Tryz.prog) ga3, insB_eq, qP_eql_eq (P := Tryz.prog) Tryz.underlying55, q_sub_eq (P := Tryz.prog) nf3]); kernel_rfl

/- unstream_Reader_Step -/
noncomputable def F_unstream_Reader_Step (lf d : Nat) (rec : FuncId → Array Value → M Value) (a0 : Value) (a1 : Value) : M Value :=
 optK (qP_eql Tryz.prog 51 a0 (Value.pointer none)) fun v10n1 =>
 ifV v10n1 (
 outK [(Value.int .i64 0), (Value.int .i64 7)]) (
 optK (qP_eql Tryz.prog 55 a1 (Value.pointer none)) fun v13n2 =>
 ifV v13n2 (
 outK [(Value.int .i64 0), (Value.int .i64 7)]) (
 optK (nil2 a0) fun v17n3 =>
 optK (evFA3 Tryz.prog 87 10 v17n3 8) fun v18n4 =>
 insB (evLoad3 Tryz.prog 27 v18n4) fun v19n5 =>
 optK (q_neq Tryz.prog 27 v19n5 (Value.int .i64 0)) fun v20n6 =>
 ifV v20n6 (
 optK (nil2 a0) fun v22n7 =>
 optK (evFA3 Tryz.prog 87 10 v22n7 8) fun v23n8 =>
 insB (evLoad3 Tryz.prog 27 v23n8) fun v24n9 =>
 outK [(Value.int .i64 0), v24n9]) (
 (inside (rec 90 #[a0, a1])).bind fun v28n10 =>
 optK (evExtract v28n10 0) fun v29n11 =>
 optK (evExtract v28n10 1) fun v30n12 =>
 optK (q_neq Tryz.prog 27 v30n12 (Value.int .i64 3)) fun v32n13 =>
 ifV v32n13 (
 optK (nil2 a0) fun v35n14 =>
 optK (evFA3 Tryz.prog 87 10 v35n14 8) fun v36n15 =>
 insB (evStore3 Tryz.prog 27 v36n15 v30n12) fun u16 =>
 outK [v29n11, v30n12]) (
 outK [v29n11, v30n12]))))
theorem fsh_unstream_Reader_Step (lf d : Nat) (a0 : Value) (a1 : Value) : inside (F_unstream_Reader_Step lf d (evC lf d) a0 a1) = evC lf (d + 1) 69 #[a0, a1] := by
  unfold F_unstream_Reader_Step; (try simp only [clash3_eq, evFA3_eq (P := Tryz.prog) gf87f8, evLoad3_eq (P := Tryz.prog) ga27, evStore3_eq (P := Tryz.prog) gs27, insB_eq, qP_eql_eq (P := Tryz.prog) Tryz.underlying51, qP_eql_eq (P := Tryz.prog) Tryz.underlying55, q_neq_eq (P := Tryz.prog) nf27]); kernel_rfl

/- bits_Reader_Drop -/
noncomputable def F_bits_Reader_Drop (lf d : Nat) (rec : FuncId → Array Value → M Value) (a0 : Value) : M Value :=
 optK (qP_eql Tryz.prog 55 a0 (Value.pointer none)) fun v5n1 =>
 ifV v5n1 (
 outK [(Value.int .i64 0)]) (
 optK (nil2 a0) fun v7n2 =>
 optK (evFA3 Tryz.prog 89 2 v7n2 2) fun v8n3 =>
 insB (evLoad3 Tryz.prog 3 v8n3) fun v9n4 =>
 optK (q_quo Tryz.prog 3 v9n4 (Value.int .i64 8)) fun v10n5 =>
 optK (nil2 a0) fun v12n6 =>
 optK (evFA3 Tryz.prog 89 1 v12n6 1) fun v13n7 =>
 insB (evLoad3 Tryz.prog 3 v13n7) fun v14n8 =>
 optK (q_sub Tryz.prog 3 v10n5 v14n8) fun v15n9 =>
 optK (nil2 a0) fun v18n10 =>
 optK (evFA3 Tryz.prog 89 0 v18n10 0) fun v19n11 =>
 insB (evLoad3 Tryz.prog 9 v19n11) fun v20n12 =>
 slice3 Tryz.prog 9 v20n12 (some v15n9) none none fun v22n13 =>
 optK (nil2 a0) fun v23n14 =>
 optK (evFA3 Tryz.prog 89 0 v23n14 0) fun v24n15 =>
 insB (evStore3 Tryz.prog 9 v24n15 v22n13) fun u16 =>
 optK (nil2 a0) fun v26n17 =>
 optK (evFA3 Tryz.prog 89 1 v26n17 1) fun v27n18 =>
 insB (evLoad3 Tryz.prog 3 v27n18) fun v28n19 =>
 optK (q_add Tryz.prog 3 v28n19 v15n9) fun v30n20 =>
 optK (nil2 a0) fun v31n21 =>
 optK (evFA3 Tryz.prog 89 1 v31n21 1) fun v32n22 =>
 insB (evStore3 Tryz.prog 3 v32n22 v30n20) fun u23 =>
 outK [v15n9])
theorem fsh_bits_Reader_Drop (lf d : Nat) (a0 : Value) : inside (F_bits_Reader_Drop lf d (evC lf d) a0) = evC lf (d + 1) 70 #[a0] := by
  unfold F_bits_Reader_Drop; (try simp only [clash3_eq, evFA3_eq (P := Tryz.prog) gf89f0, evFA3_eq (P := Tryz.prog) gf89f1, evFA3_eq (P := Tryz.prog) gf89f2, evLoad3_eq (P := Tryz.prog) ga3, evLoad3_eq (P := Tryz.prog) ga9, evStore3_eq (P := Tryz.prog) gs3, evStore3_eq (P := Tryz.prog) gs9, insB_eq, qP_eql_eq (P := Tryz.prog) Tryz.underlying55, q_add_eq (P := Tryz.prog) nf3, q_quo_eq (P := Tryz.prog) nf3, q_sub_eq (P := Tryz.prog) nf3, slice3_eq (P := Tryz.prog) Tryz.underlying9]); kernel_rfl

/- unpress_openingOf -/
noncomputable def F_unpress_openingOf (lf d : Nat) (rec : FuncId → Array Value → M Value) (a0 : Value) : M Value :=
 insB (evBox3 Tryz.prog 64 a0) fun v1n1 =>
 optK (evFA3 Tryz.prog 64 0 v1n1 0) fun v6n2 =>
 insB (evLoad3 Tryz.prog 9 v6n2) fun v7n3 =>
 optK (evFA3 Tryz.prog 64 1 v1n1 1) fun v8n4 =>
 insB (evLoad3 Tryz.prog 3 v8n4) fun v9n5 =>
 (inside (rec 91 #[v7n3, v9n5])).bind fun v10n6 =>
 optK (evExtract v10n6 0) fun v11n7 =>
 optK (evExtract v10n6 1) fun v12n8 =>
 (timed (
 insB (evLoadA3 Tryz.prog 64 3 v1n1) fun v13n10 => M.ret v13n10)).bind fun vtn9 =>
 (timed (
 (inside (rec 92 #[])).bind fun v15n12 => M.ret v15n12)).bind fun vtn11 =>
 (timed (
 (inside (rec 93 #[])).bind fun v16n14 => M.ret v16n14)).bind fun vtn13 =>
 insB (evBuildZ Tryz.prog 69 [Value.string ⟨⟨[]⟩⟩, Value.int .i64 0, Value.int .u32 0, Value.pointer none, Value.pointer none, Value.pointer none] [(0, vtn9.1), (1, v11n7), (2, vtn11.1), (3, vtn13.1)]) fun v17n15 =>
 (timed (
 insB (evBox3 Tryz.prog 69 v17n15) fun v18n17 => M.ret v18n17)).bind fun vtn16 =>
 chkT ((!(clash3 vtn9.2 vtn11.2) && (!(clash3 vtn9.2 vtn13.2) && true)) && true) (
 outK [vtn16.1])
theorem fsh_unpress_openingOf (lf d : Nat) (a0 : Value) : inside (F_unpress_openingOf lf d (evC lf d) a0) = evC lf (d + 1) 71 #[a0] := by
  unfold F_unpress_openingOf; (try simp only [bz69, clash3_eq, evBox3_eq, evFA3_eq (P := Tryz.prog) gf64f0, evFA3_eq (P := Tryz.prog) gf64f1, evLoad3_eq (P := Tryz.prog) ga3, evLoad3_eq (P := Tryz.prog) ga9, evLoadA3_eq (P := Tryz.prog) ga64 gs64, insB_eq]); kernel_rfl

/- unstream_Reader_Got -/
noncomputable def F_unstream_Reader_Got (lf d : Nat) (rec : FuncId → Array Value → M Value) (a0 : Value) : M Value :=
 insB (evAllocZ 64 [Value.string ⟨⟨[]⟩⟩, Value.int .i64 0, Value.int .u32 0]) fun v2n1 =>
 optK (qP_eql Tryz.prog 51 a0 (Value.pointer none)) fun v4n2 =>
 ifV v4n2 (
 insB (evBuildZ Tryz.prog 64 [Value.string ⟨⟨[]⟩⟩, Value.int .i64 0, Value.int .u32 0] []) fun v5n3 =>
 insB (evStoreA3 Tryz.prog 64 3 v2n1 v5n3) fun u4 =>
 (evLoad Tryz.prog 64 v2n1).bind fun vrn5 =>
 outK [vrn5]) (
 optK (nil2 a0) fun v7n6 =>
 optK (evFA3 Tryz.prog 87 5 v7n6 5) fun v8n7 =>
 insB (evLoadA3 Tryz.prog 64 3 v8n7) fun v9n8 =>
 insB (evStoreA3 Tryz.prog 64 3 v2n1 v9n8) fun u9 =>
 (evLoad Tryz.prog 64 v2n1).bind fun vrn10 =>
 outK [vrn10])
theorem fsh_unstream_Reader_Got (lf d : Nat) (a0 : Value) : inside (F_unstream_Reader_Got lf d (evC lf d) a0) = evC lf (d + 1) 72 #[a0] := by
  unfold F_unstream_Reader_Got; (try simp only [az64, bz64, clash3_eq, evFA3_eq (P := Tryz.prog) gf87f5, evLoadA3_eq (P := Tryz.prog) ga64 gs64, evStoreA3_eq (P := Tryz.prog) gs64, insB_eq, qP_eql_eq (P := Tryz.prog) Tryz.underlying51]); kernel_rfl

/- balerref01_Bits -/
noncomputable def lpA_balerref01_Bits (lf d fu : Nat) (k : Ex → Fr → M Value) (x0 : Value) (x2 : Value) (x3 : Value) (x4 : Value) : M Value := loopK (fun s1 k1 => codeK Tryz.prog (evC lf d) (gtA 73) lf (codeAt (bodyOf Tryz.prog 73) [true, true, false, true, false, false]) s1 k1) [0, 2, 3, 4] fu [(0, x0), (2, x2), (3, x3), (4, x4)] k
noncomputable def kcA_balerref01_Bits (lf d : Nat) : Ex → Fr → M Value := contAt Tryz.prog (evC lf d) (gtA 73) lf (bodyOf Tryz.prog 73) [true, true, false, true, false] (endK Tryz.prog (resOf Tryz.prog 73))
noncomputable def LA_balerref01_Bits (lf d : Nat) (rec : FuncId → Array Value → M Value) (k : Ex → Fr → M Value) : Nat → Value → Value → Value → Value → M Value
 | 0, _, _, _, _ => M.fail
 | fu + 1, x0, x2, x3, x4 =>
 optK (len2 Tryz.prog #[9] [x0]) fun v7n1 =>
 optK (q_lss Tryz.prog 3 x4 v7n1) fun v8n2 =>
 ifV v8n2 (
 optK (index3 Tryz.prog 9 x0 x4) fun v14n3 =>
 conv3 Tryz.prog 5 62 .u8 .u32 v14n3 fun v15n4 =>
 (inside (rec 81 #[v15n4, (Value.int .i64 8)])).bind fun v16n5 =>
 optK (qS_add Tryz.prog 9 x3 v16n5) fun v17n6 =>
 optK (q_add Tryz.prog 3 x4 (Value.int .i64 1)) fun v10n7 =>
 LA_balerref01_Bits lf d rec k fu x0 x2 v17n6 v10n7) (
 k (Ex.exit 0) [(0, x0), (2, x2), (3, x3), (4, x4), (8, v8n2)])
noncomputable def KA_balerref01_Bits (lf d : Nat) (rec : FuncId → Array Value → M Value) (dflt : Ex → Fr → M Value) : Ex → Fr → M Value := (kEx 0 (runCur [0, 2, 3, 4, 8] (fun y0 y2 y3 y4 y8 =>
 outK [y3]) (dflt (Ex.exit 0))) dflt)
noncomputable def F_balerref01_Bits (lf d : Nat) (rec : FuncId → Array Value → M Value) (a0 : Value) : M Value :=
 LA_balerref01_Bits lf d rec (KA_balerref01_Bits lf d rec (kcA_balerref01_Bits lf d)) lf a0 (Value.string { data := #[] }) (Value.string { data := #[] }) (Value.int .i64 0)
theorem LQA_balerref01_Bits (lf d : Nat) (k : Ex → Fr → M Value) : ∀ fu : Nat, LA_balerref01_Bits lf d (evC lf d) k fu = lpA_balerref01_Bits lf d fu k
  | 0 => by funext x0 x2 x3 x4; kernel_rfl
  | fu + 1 => by
    have ih := LQA_balerref01_Bits lf d k fu
    funext x0 x2 x3 x4; simp only [LA_balerref01_Bits, ih, clash3_eq, conv3_eq cw5x62, index3_eq (P := Tryz.prog) Tryz.underlying9, insB_eq, qS_add_eq (P := Tryz.prog) nf9, q_add_eq (P := Tryz.prog) nf3, q_lss_eq (P := Tryz.prog) nf3]; kernel_rfl
set_option maxRecDepth 20000 in
theorem KQA_balerref01_Bits (lf d : Nat) : KA_balerref01_Bits lf d (evC lf d) (kcA_balerref01_Bits lf d) = kcA_balerref01_Bits lf d := by
  unfold KA_balerref01_Bits
  refine Eq.trans (kEx_eq ?_) ?_
  · exact (runCur_eq _ _ _ (by intro y0 y2 y3 y4 y8; show _ = _; (try simp only [clash3_eq, insB_eq]); kernel_rfl))
  rfl
theorem fsh_balerref01_Bits (lf d : Nat) (a0 : Value) : inside (F_balerref01_Bits lf d (evC lf d) a0) = evC lf (d + 1) 73 #[a0] := by
  unfold F_balerref01_Bits; (try simp only [KQA_balerref01_Bits lf d, LQA_balerref01_Bits, clash3_eq, insB_eq]); kernel_rfl

/- balerref03_Pieces -/
noncomputable def lpA_balerref03_Pieces (lf d fu : Nat) (k : Ex → Fr → M Value) (x0 : Value) (x2 : Value) (x3 : Value) : M Value := loopK (fun s1 k1 => codeK Tryz.prog (evC lf d) (gtA 74) lf (codeAt (bodyOf Tryz.prog 74) [true, true, false, false, false]) s1 k1) [0, 2, 3] fu [(0, x0), (2, x2), (3, x3)] k
noncomputable def kcA_balerref03_Pieces (lf d : Nat) : Ex → Fr → M Value := contAt Tryz.prog (evC lf d) (gtA 74) lf (bodyOf Tryz.prog 74) [true, true, false, false] (endK Tryz.prog (resOf Tryz.prog 74))
noncomputable def LA_balerref03_Pieces (lf d : Nat) (rec : FuncId → Array Value → M Value) (k : Ex → Fr → M Value) : Nat → Value → Value → Value → M Value
 | 0, _, _, _ => M.fail
 | fu + 1, x0, x2, x3 =>
 optK (len2 Tryz.prog #[9] [x0]) fun v6n1 =>
 optK (q_gtr Tryz.prog 3 v6n1 (Value.int .i64 0)) fun v7n2 =>
 ifV v7n2 (
 (inside (rec 94 #[x0])).bind fun v9n3 =>
 optK (index3 Tryz.prog 9 x0 (Value.int .i64 0)) fun v12n4 =>
 insB (evBuildZ Tryz.prog 106 [Value.int .u8 0, Value.int .i64 0] [(0, v12n4), (1, v9n3)]) fun v14n5 =>
 insB (evBS3 Tryz.prog 103 1 [(0, v14n5)]) fun v15n6 =>
 insB (evAppend3 Tryz.prog 103 x3 v15n6) fun v16n7 =>
 slice3 Tryz.prog 9 x0 (some v9n3) none none fun v19n8 =>
 LA_balerref03_Pieces lf d rec k fu v19n8 x2 v16n7) (
 k (Ex.exit 0) [(0, x0), (2, x2), (3, x3), (7, v7n2)])
noncomputable def KA_balerref03_Pieces (lf d : Nat) (rec : FuncId → Array Value → M Value) (dflt : Ex → Fr → M Value) : Ex → Fr → M Value := (kEx 0 (runCur [0, 2, 3, 7] (fun y0 y2 y3 y7 =>
 outK [y3]) (dflt (Ex.exit 0))) dflt)
noncomputable def F_balerref03_Pieces (lf d : Nat) (rec : FuncId → Array Value → M Value) (a0 : Value) : M Value :=
 LA_balerref03_Pieces lf d rec (KA_balerref03_Pieces lf d rec (kcA_balerref03_Pieces lf d)) lf a0 (Value.slice none 0 0) (Value.slice none 0 0)
theorem LQA_balerref03_Pieces (lf d : Nat) (k : Ex → Fr → M Value) : ∀ fu : Nat, LA_balerref03_Pieces lf d (evC lf d) k fu = lpA_balerref03_Pieces lf d fu k
  | 0 => by funext x0 x2 x3; kernel_rfl
  | fu + 1 => by
    have ih := LQA_balerref03_Pieces lf d k fu
    funext x0 x2 x3; simp only [LA_balerref03_Pieces, ih, bz106, clash3_eq, evAppend3_eq, evBS3_eq, index3_eq (P := Tryz.prog) Tryz.underlying9, insB_eq, q_gtr_eq (P := Tryz.prog) nf3, slice3_eq (P := Tryz.prog) Tryz.underlying9]; kernel_rfl
set_option maxRecDepth 20000 in
theorem KQA_balerref03_Pieces (lf d : Nat) : KA_balerref03_Pieces lf d (evC lf d) (kcA_balerref03_Pieces lf d) = kcA_balerref03_Pieces lf d := by
  unfold KA_balerref03_Pieces
  refine Eq.trans (kEx_eq ?_) ?_
  · exact (runCur_eq _ _ _ (by intro y0 y2 y3 y7; show _ = _; (try simp only [clash3_eq, insB_eq]); kernel_rfl))
  rfl
theorem fsh_balerref03_Pieces (lf d : Nat) (a0 : Value) : inside (F_balerref03_Pieces lf d (evC lf d) a0) = evC lf (d + 1) 74 #[a0] := by
  unfold F_balerref03_Pieces; (try simp only [KQA_balerref03_Pieces lf d, LQA_balerref03_Pieces, clash3_eq, insB_eq]); kernel_rfl

/- balerref03_Piece -/
noncomputable def lpA_balerref03_Piece (lf d fu : Nat) (k : Ex → Fr → M Value) (x0 : Value) (x1 : Value) (x2 : Value) (x3 : Value) (x6 : Value) (x7 : Value) : M Value := loopK (fun s1 k1 => codeK Tryz.prog (evC lf d) (gtA 75) lf (codeAt (bodyOf Tryz.prog 75) [true, true, false, true, false, false]) s1 k1) [0, 1, 2, 3, 6, 7] fu [(0, x0), (1, x1), (2, x2), (3, x3), (6, x6), (7, x7)] k
noncomputable def kcA_balerref03_Piece (lf d : Nat) : Ex → Fr → M Value := contAt Tryz.prog (evC lf d) (gtA 75) lf (bodyOf Tryz.prog 75) [true, true, false, true, false] (endK Tryz.prog (resOf Tryz.prog 75))
noncomputable def LA_balerref03_Piece (lf d : Nat) (rec : FuncId → Array Value → M Value) (k : Ex → Fr → M Value) : Nat → Value → Value → Value → Value → Value → Value → M Value
 | 0, _, _, _, _, _, _ => M.fail
 | fu + 1, x0, x1, x2, x3, x6, x7 =>
 optK (q_lss Tryz.prog 3 x7 x6) fun v8n4 =>
 ifV v8n4 (
 optK (q_lss Tryz.prog 3 x7 (Value.int .i64 4)) fun v11n5 =>
 ifV v11n5 (
 optK (evFA3 Tryz.prog 106 0 x1 0) fun v13n6 =>
 insB (evLoad3 Tryz.prog 5 v13n6) fun v14n7 =>
 insB (evBS3 Tryz.prog 58 1 [(0, v14n7)]) fun v15n8 =>
 insB (evToStr3 v15n8) fun v16n9 =>
 optK (qS_add Tryz.prog 9 x3 v16n9) fun v17n10 =>
 optK (q_add Tryz.prog 3 x7 (Value.int .i64 1)) fun v18n11 =>
 LA_balerref03_Piece lf d rec k fu x0 x1 x2 v17n10 x6 v18n11) (
 optK (q_add Tryz.prog 3 x7 (Value.int .i64 1)) fun v18n12 =>
 LA_balerref03_Piece lf d rec k fu x0 x1 x2 x3 x6 v18n12)) (
 k (Ex.exit 0) [(0, x0), (1, x1), (2, x2), (3, x3), (6, x6), (7, x7), (8, v8n4)])
noncomputable def KA_balerref03_Piece (lf d : Nat) (rec : FuncId → Array Value → M Value) (dflt : Ex → Fr → M Value) : Ex → Fr → M Value := (kEx 0 (runCur [0, 1, 2, 3, 6, 7, 8] (fun y0 y1 y2 y3 y6 y7 y8 =>
 optK (evFA3 Tryz.prog 106 1 y1 1) fun v19n13 =>
 insB (evLoad3 Tryz.prog 3 v19n13) fun v20n14 =>
 optK (q_geq Tryz.prog 3 v20n14 (Value.int .i64 4)) fun v21n15 =>
 ifV v21n15 (
 optK (evFA3 Tryz.prog 106 1 y1 1) fun v23n16 =>
 insB (evLoad3 Tryz.prog 3 v23n16) fun v24n17 =>
 optK (q_sub Tryz.prog 3 v24n17 (Value.int .i64 4)) fun v25n18 =>
 conv3 Tryz.prog 3 5 .i64 .u8 v25n18 fun v26n19 =>
 insB (evBS3 Tryz.prog 58 1 [(0, v26n19)]) fun v27n20 =>
 insB (evToStr3 v27n20) fun v28n21 =>
 optK (qS_add Tryz.prog 9 y3 v28n21) fun v29n22 =>
 outK [v29n22]) (
 outK [y3])) (dflt (Ex.exit 0))) dflt)
noncomputable def F_balerref03_Piece (lf d : Nat) (rec : FuncId → Array Value → M Value) (a0 : Value) : M Value :=
 insB (evBox3 Tryz.prog 106 a0) fun v1n1 =>
 optK (evFA3 Tryz.prog 106 1 v1n1 1) fun v5n2 =>
 insB (evLoad3 Tryz.prog 3 v5n2) fun v6n3 =>
 LA_balerref03_Piece lf d rec (KA_balerref03_Piece lf d rec (kcA_balerref03_Piece lf d)) lf a0 v1n1 (Value.string { data := #[] }) (Value.string { data := #[] }) v6n3 (Value.int .i64 0)
theorem LQA_balerref03_Piece (lf d : Nat) (k : Ex → Fr → M Value) : ∀ fu : Nat, LA_balerref03_Piece lf d (evC lf d) k fu = lpA_balerref03_Piece lf d fu k
  | 0 => by funext x0 x1 x2 x3 x6 x7; kernel_rfl
  | fu + 1 => by
    have ih := LQA_balerref03_Piece lf d k fu
    funext x0 x1 x2 x3 x6 x7; simp only [LA_balerref03_Piece, ih, clash3_eq, evBS3_eq, evFA3_eq (P := Tryz.prog) gf106f0, evLoad3_eq (P := Tryz.prog) ga5, evToStr3_eq, insB_eq, qS_add_eq (P := Tryz.prog) nf9, q_add_eq (P := Tryz.prog) nf3, q_lss_eq (P := Tryz.prog) nf3]; kernel_rfl
set_option maxRecDepth 20000 in
theorem KQA_balerref03_Piece (lf d : Nat) : KA_balerref03_Piece lf d (evC lf d) (kcA_balerref03_Piece lf d) = kcA_balerref03_Piece lf d := by
  unfold KA_balerref03_Piece
  refine Eq.trans (kEx_eq ?_) ?_
  · exact (runCur_eq _ _ _ (by intro y0 y1 y2 y3 y6 y7 y8; show _ = _; (try simp only [clash3_eq, conv3_eq cw3x5, evBS3_eq, evFA3_eq (P := Tryz.prog) gf106f1, evLoad3_eq (P := Tryz.prog) ga3, evToStr3_eq, insB_eq, qS_add_eq (P := Tryz.prog) nf9, q_geq_eq (P := Tryz.prog) nf3, q_sub_eq (P := Tryz.prog) nf3]); kernel_rfl))
  rfl
theorem fsh_balerref03_Piece (lf d : Nat) (a0 : Value) : inside (F_balerref03_Piece lf d (evC lf d) a0) = evC lf (d + 1) 75 #[a0] := by
  unfold F_balerref03_Piece; (try simp only [KQA_balerref03_Piece lf d, LQA_balerref03_Piece, clash3_eq, evBox3_eq, evFA3_eq (P := Tryz.prog) gf106f1, evLoad3_eq (P := Tryz.prog) ga3, insB_eq]); kernel_rfl

/- balerref17_Of -/
noncomputable def F_balerref17_Of (lf d : Nat) (rec : FuncId → Array Value → M Value) (a0 : Value) : M Value :=
 insB (evAllocZ 109 [Value.string ⟨⟨[]⟩⟩, Value.int .i64 0]) fun v2n1 =>
 (inside (rec 96 #[a0])).bind fun v5n2 =>
 (inside (rec 95 #[a0, v5n2])).bind fun v6n3 =>
 insB (evStoreA3 Tryz.prog 109 2 v2n1 v6n3) fun u4 =>
 (evLoad Tryz.prog 109 v2n1).bind fun vrn5 =>
 outK [vrn5]
theorem fsh_balerref17_Of (lf d : Nat) (a0 : Value) : inside (F_balerref17_Of lf d (evC lf d) a0) = evC lf (d + 1) 76 #[a0] := by
  unfold F_balerref17_Of; (try simp only [az109, clash3_eq, evStoreA3_eq (P := Tryz.prog) gs109, insB_eq]); kernel_rfl

/- balerref20_Bits -/
noncomputable def F_balerref20_Bits (lf d : Nat) (rec : FuncId → Array Value → M Value) (a0 : Value) : M Value :=
 insB (evBox3 Tryz.prog 112 a0) fun v1n1 =>
 optK (evFA3 Tryz.prog 112 0 v1n1 0) fun v8n2 =>
 insB (evLoad3 Tryz.prog 9 v8n2) fun v9n3 =>
 (inside (rec 97 #[v9n3])).bind fun v10n4 =>
 optK (evFA3 Tryz.prog 112 0 v1n1 0) fun v12n5 =>
 insB (evLoad3 Tryz.prog 9 v12n5) fun v13n6 =>
 (inside (rec 98 #[v13n6, v10n4])).bind fun v15n7 =>
 optK (evExtract v15n7 0) fun v16n8 =>
 optK (evExtract v15n7 1) fun v17n9 =>
 optK (len2 Tryz.prog #[9] [v10n4]) fun v21n10 =>
 (inside (rec 99 #[v16n8, v21n10])).bind fun v22n11 =>
 optK (evExtract v22n11 0) fun v23n12 =>
 optK (evExtract v22n11 1) fun v24n13 =>
 optK (evFA3 Tryz.prog 112 2 v1n1 2) fun v25n14 =>
 (timed (
 insB (evLoad3 Tryz.prog 62 v25n14) fun v26n16 => M.ret v26n16)).bind fun vtn15 =>
 (timed (
 (inside (rec 81 #[vtn15.1, (Value.int .i64 32)])).bind fun v27n18 => M.ret v27n18)).bind fun vtn17 =>
 optK (qS_add Tryz.prog 9 vtn17.1 (Value.string { data := #[48] })) fun v28n19 =>
 optK (evFA3 Tryz.prog 112 1 v1n1 1) fun v29n20 =>
 (timed (
 insB (evLoad3 Tryz.prog 3 v29n20) fun v30n22 => M.ret v30n22)).bind fun vtn21 =>
 (timed (
 conv3 Tryz.prog 3 62 .i64 .u32 vtn21.1 fun v31n24 => M.ret v31n24)).bind fun vtn23 =>
 (timed (
 (inside (rec 81 #[vtn23.1, (Value.int .i64 24)])).bind fun v32n26 => M.ret v32n26)).bind fun vtn25 =>
 optK (qS_add Tryz.prog 9 v28n19 vtn25.1) fun v33n27 =>
 (timed (
 (inside (rec 100 #[v10n4])).bind fun v35n29 => M.ret v35n29)).bind fun vtn28 =>
 optK (qS_add Tryz.prog 9 v33n27 vtn28.1) fun v36n30 =>
 optK (len2 Tryz.prog #[9] [v10n4]) fun v39n31 =>
 optK (q_add Tryz.prog 3 v39n31 (Value.int .i64 2)) fun v40n32 =>
 (timed (
 (inside (rec 101 #[v23n12, v40n32])).bind fun v41n34 => M.ret v41n34)).bind fun vtn33 =>
 optK (qS_add Tryz.prog 9 v36n30 vtn33.1) fun v42n35 =>
 chkT ((!(clash3 vtn15.2 vtn23.2) && true) && ((!(clash3 vtn17.2 vtn21.2) && (!(clash3 vtn17.2 vtn23.2) && true)) && true)) (
 outK [v42n35])
theorem fsh_balerref20_Bits (lf d : Nat) (a0 : Value) : inside (F_balerref20_Bits lf d (evC lf d) a0) = evC lf (d + 1) 77 #[a0] := by
  unfold F_balerref20_Bits; (try simp only [clash3_eq, conv3_eq cw3x62, evBox3_eq, evFA3_eq (P := Tryz.prog) gf112f0, evFA3_eq (P := Tryz.prog) gf112f1, evFA3_eq (P := Tryz.prog) gf112f2, evLoad3_eq (P := Tryz.prog) ga3, evLoad3_eq (P := Tryz.prog) ga62, evLoad3_eq (P := Tryz.prog) ga9, insB_eq, qS_add_eq (P := Tryz.prog) nf9, q_add_eq (P := Tryz.prog) nf3]); kernel_rfl

/- balerref02_Of -/
noncomputable def lpA_balerref02_Of (lf d fu : Nat) (k : Ex → Fr → M Value) (x0 : Value) (x2 : Value) (x3 : Value) (x4 : Value) : M Value := loopK (fun s1 k1 => codeK Tryz.prog (evC lf d) (gtA 78) lf (codeAt (bodyOf Tryz.prog 78) [true, true, false, true, false, false]) s1 k1) [0, 2, 3, 4] fu [(0, x0), (2, x2), (3, x3), (4, x4)] k
noncomputable def kcA_balerref02_Of (lf d : Nat) : Ex → Fr → M Value := contAt Tryz.prog (evC lf d) (gtA 78) lf (bodyOf Tryz.prog 78) [true, true, false, true, false] (endK Tryz.prog (resOf Tryz.prog 78))
noncomputable def LA_balerref02_Of (lf d : Nat) (rec : FuncId → Array Value → M Value) (k : Ex → Fr → M Value) : Nat → Value → Value → Value → Value → M Value
 | 0, _, _, _, _ => M.fail
 | fu + 1, x0, x2, x3, x4 =>
 optK (len2 Tryz.prog #[9] [x0]) fun v7n1 =>
 optK (q_lss Tryz.prog 3 x4 v7n1) fun v8n2 =>
 ifV v8n2 (
 optK (index3 Tryz.prog 9 x0 x4) fun v14n3 =>
 (inside (rec 102 #[x3, v14n3])).bind fun v15n4 =>
 optK (q_add Tryz.prog 3 x4 (Value.int .i64 1)) fun v10n5 =>
 LA_balerref02_Of lf d rec k fu x0 x2 v15n4 v10n5) (
 k (Ex.exit 0) [(0, x0), (2, x2), (3, x3), (4, x4), (8, v8n2)])
noncomputable def KA_balerref02_Of (lf d : Nat) (rec : FuncId → Array Value → M Value) (dflt : Ex → Fr → M Value) : Ex → Fr → M Value := (kEx 0 (runCur [0, 2, 3, 4, 8] (fun y0 y2 y3 y4 y8 =>
 optK (q_sub Tryz.prog 62 (Value.int .u32 4294967295) y3) fun v17n6 =>
 outK [v17n6]) (dflt (Ex.exit 0))) dflt)
noncomputable def F_balerref02_Of (lf d : Nat) (rec : FuncId → Array Value → M Value) (a0 : Value) : M Value :=
 LA_balerref02_Of lf d rec (KA_balerref02_Of lf d rec (kcA_balerref02_Of lf d)) lf a0 (Value.int .u32 0) (Value.int .u32 4294967295) (Value.int .i64 0)
theorem LQA_balerref02_Of (lf d : Nat) (k : Ex → Fr → M Value) : ∀ fu : Nat, LA_balerref02_Of lf d (evC lf d) k fu = lpA_balerref02_Of lf d fu k
  | 0 => by funext x0 x2 x3 x4; kernel_rfl
  | fu + 1 => by
    have ih := LQA_balerref02_Of lf d k fu
    funext x0 x2 x3 x4; simp only [LA_balerref02_Of, ih, clash3_eq, index3_eq (P := Tryz.prog) Tryz.underlying9, insB_eq, q_add_eq (P := Tryz.prog) nf3, q_lss_eq (P := Tryz.prog) nf3]; kernel_rfl
set_option maxRecDepth 20000 in
theorem KQA_balerref02_Of (lf d : Nat) : KA_balerref02_Of lf d (evC lf d) (kcA_balerref02_Of lf d) = kcA_balerref02_Of lf d := by
  unfold KA_balerref02_Of
  refine Eq.trans (kEx_eq ?_) ?_
  · exact (runCur_eq _ _ _ (by intro y0 y2 y3 y4 y8; show _ = _; (try simp only [clash3_eq, insB_eq, q_sub_eq (P := Tryz.prog) nf62]); kernel_rfl))
  rfl
theorem fsh_balerref02_Of (lf d : Nat) (a0 : Value) : inside (F_balerref02_Of lf d (evC lf d) a0) = evC lf (d + 1) 78 #[a0] := by
  unfold F_balerref02_Of; (try simp only [KQA_balerref02_Of lf d, LQA_balerref02_Of, clash3_eq, insB_eq]); kernel_rfl

/- balerref01_Bytes -/
noncomputable def lpA_balerref01_Bytes (lf d fu : Nat) (k : Ex → Fr → M Value) (x0 : Value) (x2 : Value) (x3 : Value) : M Value := loopK (fun s1 k1 => codeK Tryz.prog (evC lf d) (gtA 79) lf (codeAt (bodyOf Tryz.prog 79) [true, true, false, false, false]) s1 k1) [0, 2, 3] fu [(0, x0), (2, x2), (3, x3)] k
noncomputable def kcA_balerref01_Bytes (lf d : Nat) : Ex → Fr → M Value := contAt Tryz.prog (evC lf d) (gtA 79) lf (bodyOf Tryz.prog 79) [true, true, false, false] (endK Tryz.prog (resOf Tryz.prog 79))
noncomputable def LA_balerref01_Bytes (lf d : Nat) (rec : FuncId → Array Value → M Value) (k : Ex → Fr → M Value) : Nat → Value → Value → Value → M Value
 | 0, _, _, _ => M.fail
 | fu + 1, x0, x2, x3 =>
 optK (len2 Tryz.prog #[9] [x0]) fun v5n1 =>
 optK (q_geq Tryz.prog 3 v5n1 (Value.int .i64 8)) fun v6n2 =>
 ifV v6n2 (
 slice3 Tryz.prog 9 x0 none (some (Value.int .i64 8)) none fun v9n3 =>
 (inside (rec 103 #[v9n3])).bind fun v10n4 =>
 conv3 Tryz.prog 62 5 .u32 .u8 v10n4 fun v11n5 =>
 insB (evBS3 Tryz.prog 58 1 [(0, v11n5)]) fun v12n6 =>
 insB (evToStr3 v12n6) fun v13n7 =>
 optK (qS_add Tryz.prog 9 x3 v13n7) fun v14n8 =>
 slice3 Tryz.prog 9 x0 (some (Value.int .i64 8)) none none fun v16n9 =>
 LA_balerref01_Bytes lf d rec k fu v16n9 x2 v14n8) (
 k (Ex.exit 0) [(0, x0), (2, x2), (3, x3), (6, v6n2)])
noncomputable def KA_balerref01_Bytes (lf d : Nat) (rec : FuncId → Array Value → M Value) (dflt : Ex → Fr → M Value) : Ex → Fr → M Value := (kEx 0 (runCur [0, 2, 3, 6] (fun y0 y2 y3 y6 =>
 outK [y3]) (dflt (Ex.exit 0))) dflt)
noncomputable def F_balerref01_Bytes (lf d : Nat) (rec : FuncId → Array Value → M Value) (a0 : Value) : M Value :=
 LA_balerref01_Bytes lf d rec (KA_balerref01_Bytes lf d rec (kcA_balerref01_Bytes lf d)) lf a0 (Value.string { data := #[] }) (Value.string { data := #[] })
theorem LQA_balerref01_Bytes (lf d : Nat) (k : Ex → Fr → M Value) : ∀ fu : Nat, LA_balerref01_Bytes lf d (evC lf d) k fu = lpA_balerref01_Bytes lf d fu k
  | 0 => by funext x0 x2 x3; kernel_rfl
  | fu + 1 => by
    have ih := LQA_balerref01_Bytes lf d k fu
    funext x0 x2 x3; simp only [LA_balerref01_Bytes, ih, clash3_eq, conv3_eq cw62x5, evBS3_eq, evToStr3_eq, insB_eq, qS_add_eq (P := Tryz.prog) nf9, q_geq_eq (P := Tryz.prog) nf3, slice3_eq (P := Tryz.prog) Tryz.underlying9]; kernel_rfl
set_option maxRecDepth 20000 in
theorem KQA_balerref01_Bytes (lf d : Nat) : KA_balerref01_Bytes lf d (evC lf d) (kcA_balerref01_Bytes lf d) = kcA_balerref01_Bytes lf d := by
  unfold KA_balerref01_Bytes
  refine Eq.trans (kEx_eq ?_) ?_
  · exact (runCur_eq _ _ _ (by intro y0 y2 y3 y6; show _ = _; (try simp only [clash3_eq, insB_eq]); kernel_rfl))
  rfl
theorem fsh_balerref01_Bytes (lf d : Nat) (a0 : Value) : inside (F_balerref01_Bytes lf d (evC lf d) a0) = evC lf (d + 1) 79 #[a0] := by
  unfold F_balerref01_Bytes; (try simp only [KQA_balerref01_Bytes lf d, LQA_balerref01_Bytes, clash3_eq, insB_eq]); kernel_rfl

/- balerref01_Padded -/
noncomputable def lpA_balerref01_Padded (lf d fu : Nat) (k : Ex → Fr → M Value) (x0 : Value) (x2 : Value) : M Value := loopK (fun s1 k1 => codeK Tryz.prog (evC lf d) (gtA 80) lf (codeAt (bodyOf Tryz.prog 80) [true, false, false, false]) s1 k1) [0, 2] fu [(0, x0), (2, x2)] k
noncomputable def kcA_balerref01_Padded (lf d : Nat) : Ex → Fr → M Value := contAt Tryz.prog (evC lf d) (gtA 80) lf (bodyOf Tryz.prog 80) [true, false, false] (endK Tryz.prog (resOf Tryz.prog 80))
noncomputable def LA_balerref01_Padded (lf d : Nat) (rec : FuncId → Array Value → M Value) (k : Ex → Fr → M Value) : Nat → Value → Value → M Value
 | 0, _, _ => M.fail
 | fu + 1, x0, x2 =>
 optK (len2 Tryz.prog #[9] [x0]) fun v4n1 =>
 optK (q_rem Tryz.prog 3 v4n1 (Value.int .i64 8)) fun v5n2 =>
 optK (q_neq Tryz.prog 3 v5n2 (Value.int .i64 0)) fun v6n3 =>
 ifV v6n3 (
 optK (qS_add Tryz.prog 9 x0 (Value.string { data := #[48] })) fun v8n4 =>
 LA_balerref01_Padded lf d rec k fu v8n4 x2) (
 k (Ex.exit 0) [(0, x0), (2, x2), (6, v6n3)])
noncomputable def KA_balerref01_Padded (lf d : Nat) (rec : FuncId → Array Value → M Value) (dflt : Ex → Fr → M Value) : Ex → Fr → M Value := (kEx 0 (runCur [0, 2, 6] (fun y0 y2 y6 =>
 outK [y0]) (dflt (Ex.exit 0))) dflt)
noncomputable def F_balerref01_Padded (lf d : Nat) (rec : FuncId → Array Value → M Value) (a0 : Value) : M Value :=
 LA_balerref01_Padded lf d rec (KA_balerref01_Padded lf d rec (kcA_balerref01_Padded lf d)) lf a0 (Value.string { data := #[] })
theorem LQA_balerref01_Padded (lf d : Nat) (k : Ex → Fr → M Value) : ∀ fu : Nat, LA_balerref01_Padded lf d (evC lf d) k fu = lpA_balerref01_Padded lf d fu k
  | 0 => by funext x0 x2; kernel_rfl
  | fu + 1 => by
    have ih := LQA_balerref01_Padded lf d k fu
    funext x0 x2; simp only [LA_balerref01_Padded, ih, clash3_eq, insB_eq, qS_add_eq (P := Tryz.prog) nf9, q_neq_eq (P := Tryz.prog) nf3, q_rem_eq (P := Tryz.prog) nf3]; kernel_rfl
set_option maxRecDepth 20000 in
theorem KQA_balerref01_Padded (lf d : Nat) : KA_balerref01_Padded lf d (evC lf d) (kcA_balerref01_Padded lf d) = kcA_balerref01_Padded lf d := by
  unfold KA_balerref01_Padded
  refine Eq.trans (kEx_eq ?_) ?_
  · exact (runCur_eq _ _ _ (by intro y0 y2 y6; show _ = _; (try simp only [clash3_eq, insB_eq]); kernel_rfl))
  rfl
theorem fsh_balerref01_Padded (lf d : Nat) (a0 : Value) : inside (F_balerref01_Padded lf d (evC lf d) a0) = evC lf (d + 1) 80 #[a0] := by
  unfold F_balerref01_Padded; (try simp only [KQA_balerref01_Padded lf d, LQA_balerref01_Padded, clash3_eq, insB_eq]); kernel_rfl

/- balerref01_Field -/
noncomputable def lpA_balerref01_Field (lf d fu : Nat) (k : Ex → Fr → M Value) (x0 : Value) (x1 : Value) (x4 : Value) (x5 : Value) (x6 : Value) (x7 : Value) : M Value := loopK (fun s1 k1 => codeK Tryz.prog (evC lf d) (gtA 81) lf (codeAt (bodyOf Tryz.prog 81) [true, true, false, true, false, false]) s1 k1) [0, 1, 4, 5, 6, 7] fu [(0, x0), (1, x1), (4, x4), (5, x5), (6, x6), (7, x7)] k
noncomputable def kcA_balerref01_Field (lf d : Nat) : Ex → Fr → M Value := contAt Tryz.prog (evC lf d) (gtA 81) lf (bodyOf Tryz.prog 81) [true, true, false, true, false] (endK Tryz.prog (resOf Tryz.prog 81))
noncomputable def LA_balerref01_Field (lf d : Nat) (rec : FuncId → Array Value → M Value) (k : Ex → Fr → M Value) : Nat → Value → Value → Value → Value → Value → Value → M Value
 | 0, _, _, _, _, _, _ => M.fail
 | fu + 1, x0, x1, x4, x5, x6, x7 =>
 optK (q_lss Tryz.prog 3 x7 x6) fun v8n1 =>
 ifV v8n1 (
 optK (q_rem Tryz.prog 62 x0 (Value.int .u32 2)) fun v10n2 =>
 optK (q_rem Tryz.prog 62 x0 (Value.int .u32 2)) fun v12n3 =>
 optK (q_add Tryz.prog 62 v12n3 (Value.int .u32 1)) fun v13n4 =>
 slice3 Tryz.prog 9 (Value.string { data := #[48, 49] }) (some v10n2) (some v13n4) none fun v14n5 =>
 optK (qS_add Tryz.prog 9 v14n5 x5) fun v16n6 =>
 optK (q_quo Tryz.prog 62 x0 (Value.int .u32 2)) fun v18n7 =>
 optK (q_add Tryz.prog 3 x7 (Value.int .i64 1)) fun v19n8 =>
 LA_balerref01_Field lf d rec k fu v18n7 x1 x4 v16n6 x6 v19n8) (
 k (Ex.exit 0) [(0, x0), (1, x1), (4, x4), (5, x5), (6, x6), (7, x7), (8, v8n1)])
noncomputable def KA_balerref01_Field (lf d : Nat) (rec : FuncId → Array Value → M Value) (dflt : Ex → Fr → M Value) : Ex → Fr → M Value := (kEx 0 (runCur [0, 1, 4, 5, 6, 7, 8] (fun y0 y1 y4 y5 y6 y7 y8 =>
 outK [y5]) (dflt (Ex.exit 0))) dflt)
noncomputable def F_balerref01_Field (lf d : Nat) (rec : FuncId → Array Value → M Value) (a0 : Value) (a1 : Value) : M Value :=
 LA_balerref01_Field lf d rec (KA_balerref01_Field lf d rec (kcA_balerref01_Field lf d)) lf a0 a1 (Value.string { data := #[] }) (Value.string { data := #[] }) a1 (Value.int .i64 0)
theorem LQA_balerref01_Field (lf d : Nat) (k : Ex → Fr → M Value) : ∀ fu : Nat, LA_balerref01_Field lf d (evC lf d) k fu = lpA_balerref01_Field lf d fu k
  | 0 => by funext x0 x1 x4 x5 x6 x7; kernel_rfl
  | fu + 1 => by
    have ih := LQA_balerref01_Field lf d k fu
    funext x0 x1 x4 x5 x6 x7; simp only [LA_balerref01_Field, ih, clash3_eq, insB_eq, qS_add_eq (P := Tryz.prog) nf9, q_add_eq (P := Tryz.prog) nf3, q_add_eq (P := Tryz.prog) nf62, q_lss_eq (P := Tryz.prog) nf3, q_quo_eq (P := Tryz.prog) nf62, q_rem_eq (P := Tryz.prog) nf62, slice3_eq (P := Tryz.prog) Tryz.underlying9]; kernel_rfl
set_option maxRecDepth 20000 in
theorem KQA_balerref01_Field (lf d : Nat) : KA_balerref01_Field lf d (evC lf d) (kcA_balerref01_Field lf d) = kcA_balerref01_Field lf d := by
  unfold KA_balerref01_Field
  refine Eq.trans (kEx_eq ?_) ?_
  · exact (runCur_eq _ _ _ (by intro y0 y1 y4 y5 y6 y7 y8; show _ = _; (try simp only [clash3_eq, insB_eq]); kernel_rfl))
  rfl
theorem fsh_balerref01_Field (lf d : Nat) (a0 : Value) (a1 : Value) : inside (F_balerref01_Field lf d (evC lf d) a0 a1) = evC lf (d + 1) 81 #[a0, a1] := by
  unfold F_balerref01_Field; (try simp only [KQA_balerref01_Field lf d, LQA_balerref01_Field, clash3_eq, insB_eq]); kernel_rfl

/- balerref02_Stream -/
noncomputable def lpA_balerref02_Stream (lf d fu : Nat) (k : Ex → Fr → M Value) (x0 : Value) (x2 : Value) (x3 : Value) (x6 : Value) (x7 : Value) (x8 : Value) : M Value := loopK (fun s1 k1 => codeK Tryz.prog (evC lf d) (gtA 82) lf (codeAt (bodyOf Tryz.prog 82) [true, true, false, true, false, false]) s1 k1) [0, 2, 3, 6, 7, 8] fu [(0, x0), (2, x2), (3, x3), (6, x6), (7, x7), (8, x8)] k
noncomputable def kcA_balerref02_Stream (lf d : Nat) : Ex → Fr → M Value := contAt Tryz.prog (evC lf d) (gtA 82) lf (bodyOf Tryz.prog 82) [true, true, false, true, false] (endK Tryz.prog (resOf Tryz.prog 82))
noncomputable def LA_balerref02_Stream (lf d : Nat) (rec : FuncId → Array Value → M Value) (k : Ex → Fr → M Value) : Nat → Value → Value → Value → Value → Value → Value → M Value
 | 0, _, _, _, _, _, _ => M.fail
 | fu + 1, x0, x2, x3, x6, x7, x8 =>
 optK (q_lss Tryz.prog 3 x8 x7) fun v9n2 =>
 ifV v9n2 (
 optK (evIA3 Tryz.prog 75 1 x6 x8) fun v10n3 =>
 insB (evLoad3 Tryz.prog 62 v10n3) fun v11n4 =>
 (inside (rec 104 #[x3, v11n4])).bind fun v14n5 =>
 optK (q_add Tryz.prog 3 x8 (Value.int .i64 1)) fun v15n6 =>
 LA_balerref02_Stream lf d rec k fu x0 x2 v14n5 x6 x7 v15n6) (
 k (Ex.exit 0) [(0, x0), (2, x2), (3, x3), (6, x6), (7, x7), (8, x8), (9, v9n2)])
noncomputable def KA_balerref02_Stream (lf d : Nat) (rec : FuncId → Array Value → M Value) (dflt : Ex → Fr → M Value) : Ex → Fr → M Value := (kEx 0 (runCur [0, 2, 3, 6, 7, 8, 9] (fun y0 y2 y3 y6 y7 y8 y9 =>
 outK [y3]) (dflt (Ex.exit 0))) dflt)
noncomputable def F_balerref02_Stream (lf d : Nat) (rec : FuncId → Array Value → M Value) (a0 : Value) : M Value :=
 optK (len2 Tryz.prog #[75] [a0]) fun v7n1 =>
 LA_balerref02_Stream lf d rec (KA_balerref02_Stream lf d rec (kcA_balerref02_Stream lf d)) lf a0 (Value.int .u32 0) (Value.int .u32 0) a0 v7n1 (Value.int .i64 0)
theorem LQA_balerref02_Stream (lf d : Nat) (k : Ex → Fr → M Value) : ∀ fu : Nat, LA_balerref02_Stream lf d (evC lf d) k fu = lpA_balerref02_Stream lf d fu k
  | 0 => by funext x0 x2 x3 x6 x7 x8; kernel_rfl
  | fu + 1 => by
    have ih := LQA_balerref02_Stream lf d k fu
    funext x0 x2 x3 x6 x7 x8; simp only [LA_balerref02_Stream, ih, clash3_eq, evIA3_eq (P := Tryz.prog) Tryz.underlying75 gs62, evLoad3_eq (P := Tryz.prog) ga62, insB_eq, q_add_eq (P := Tryz.prog) nf3, q_lss_eq (P := Tryz.prog) nf3]; kernel_rfl
set_option maxRecDepth 20000 in
theorem KQA_balerref02_Stream (lf d : Nat) : KA_balerref02_Stream lf d (evC lf d) (kcA_balerref02_Stream lf d) = kcA_balerref02_Stream lf d := by
  unfold KA_balerref02_Stream
  refine Eq.trans (kEx_eq ?_) ?_
  · exact (runCur_eq _ _ _ (by intro y0 y2 y3 y6 y7 y8 y9; show _ = _; (try simp only [clash3_eq, insB_eq]); kernel_rfl))
  rfl
theorem fsh_balerref02_Stream (lf d : Nat) (a0 : Value) : inside (F_balerref02_Stream lf d (evC lf d) a0) = evC lf (d + 1) 82 #[a0] := by
  unfold F_balerref02_Stream; (try simp only [KQA_balerref02_Stream lf d, LQA_balerref02_Stream, clash3_eq, insB_eq]); kernel_rfl

/- unbwt_Inverter_Step -/
noncomputable def lpA_unbwt_Inverter_Step (lf d fu : Nat) (k : Ex → Fr → M Value) (x0 : Value) (x1 : Value) (x4 : Value) (x5 : Value) (x7 : Value) : M Value := loopK (fun s1 k1 => codeK Tryz.prog (evC lf d) (gtA 84) lf (codeAt (bodyOf Tryz.prog 84) [true, true, true, false, false, false]) s1 k1) [0, 1, 4, 5, 7] fu [(0, x0), (1, x1), (4, x4), (5, x5), (7, x7)] k
noncomputable def kcA_unbwt_Inverter_Step (lf d : Nat) : Ex → Fr → M Value := contAt Tryz.prog (evC lf d) (gtA 84) lf (bodyOf Tryz.prog 84) [true, true, true, false, false] (endK Tryz.prog (resOf Tryz.prog 84))
noncomputable def LA_unbwt_Inverter_Step (lf d : Nat) (rec : FuncId → Array Value → M Value) (k : Ex → Fr → M Value) : Nat → Value → Value → Value → Value → Value → M Value
 | 0, _, _, _, _, _ => M.fail
 | fu + 1, x0, x1, x4, x5, x7 =>
 (inside (rec 66 #[x0])).bind fun v13n5 =>
 optK (un3 Tryz.prog .not v13n5) fun v14n6 =>
 ifV v14n6 (
 optK (nil2 x0) fun v17n7 =>
 optK (evFA3 Tryz.prog 93 260 v17n7 5) fun v18n8 =>
 insB (evLoad3 Tryz.prog 3 v18n8) fun v19n9 =>
 optK (q_sub Tryz.prog 3 v19n9 x5) fun v21n10 =>
 optK (q_lss Tryz.prog 3 v21n10 x1) fun v23n11 =>
 ifV v23n11 (
 (inside (rec 106 #[x0])).bind fun v26n12 =>
 LA_unbwt_Inverter_Step lf d rec k fu x0 x1 x4 x5 x7) (
 k (Ex.exit 0) [(0, x0), (1, x1), (4, x4), (5, x5), (7, x7), (24, v23n11)])) (
 k (Ex.exit 0) [(0, x0), (1, x1), (4, x4), (5, x5), (7, x7), (24, (Value.bool false))])
noncomputable def KA_unbwt_Inverter_Step (lf d : Nat) (rec : FuncId → Array Value → M Value) (dflt : Ex → Fr → M Value) : Ex → Fr → M Value := (kEx 0 (runCur [0, 1, 4, 5, 7, 24] (fun y0 y1 y4 y5 y7 y24 =>
 optK (nil2 y0) fun v28n13 =>
 optK (evFA3 Tryz.prog 93 260 v28n13 5) fun v29n14 =>
 insB (evLoad3 Tryz.prog 3 v29n14) fun v30n15 =>
 optK (q_sub Tryz.prog 3 v30n15 y5) fun v32n16 =>
 outK [v32n16]) (dflt (Ex.exit 0))) dflt)
noncomputable def F_unbwt_Inverter_Step (lf d : Nat) (rec : FuncId → Array Value → M Value) (a0 : Value) (a1 : Value) : M Value :=
 optK (qP_eql Tryz.prog 65 a0 (Value.pointer none)) fun v7n1 =>
 ifV v7n1 (
 outK [(Value.int .i64 0)]) (
 optK (nil2 a0) fun v9n2 =>
 optK (evFA3 Tryz.prog 93 260 v9n2 5) fun v10n3 =>
 insB (evLoad3 Tryz.prog 3 v10n3) fun v11n4 =>
 LA_unbwt_Inverter_Step lf d rec (KA_unbwt_Inverter_Step lf d rec (kcA_unbwt_Inverter_Step lf d)) lf a0 a1 (Value.int .i64 0) v11n4 v7n1)
theorem LQA_unbwt_Inverter_Step (lf d : Nat) (k : Ex → Fr → M Value) : ∀ fu : Nat, LA_unbwt_Inverter_Step lf d (evC lf d) k fu = lpA_unbwt_Inverter_Step lf d fu k
  | 0 => by funext x0 x1 x4 x5 x7; kernel_rfl
  | fu + 1 => by
    have ih := LQA_unbwt_Inverter_Step lf d k fu
    funext x0 x1 x4 x5 x7; simp only [LA_unbwt_Inverter_Step, ih, clash3_eq, evFA3_eq (P := Tryz.prog) gf93f5, evLoad3_eq (P := Tryz.prog) ga3, insB_eq, q_lss_eq (P := Tryz.prog) nf3, q_sub_eq (P := Tryz.prog) nf3, un3_eq]; kernel_rfl
set_option maxRecDepth 20000 in
theorem KQA_unbwt_Inverter_Step (lf d : Nat) : KA_unbwt_Inverter_Step lf d (evC lf d) (kcA_unbwt_Inverter_Step lf d) = kcA_unbwt_Inverter_Step lf d := by
  unfold KA_unbwt_Inverter_Step
  refine Eq.trans (kEx_eq ?_) ?_
  · exact (runCur_eq _ _ _ (by intro y0 y1 y4 y5 y7 y24; show _ = _; (try simp only [clash3_eq, evFA3_eq (P := Tryz.prog) gf93f5, evLoad3_eq (P := Tryz.prog) ga3, insB_eq, q_sub_eq (P := Tryz.prog) nf3]); kernel_rfl))
  rfl
theorem fsh_unbwt_Inverter_Step (lf d : Nat) (a0 : Value) (a1 : Value) : inside (F_unbwt_Inverter_Step lf d (evC lf d) a0 a1) = evC lf (d + 1) 84 #[a0, a1] := by
  unfold F_unbwt_Inverter_Step; (try simp only [KQA_unbwt_Inverter_Step lf d, LQA_unbwt_Inverter_Step, clash3_eq, evFA3_eq (P := Tryz.prog) gf93f5, evLoad3_eq (P := Tryz.prog) ga3, insB_eq, qP_eql_eq (P := Tryz.prog) Tryz.underlying65]); kernel_rfl

/- unbwt_Inverter_Take -/
noncomputable def F_unbwt_Inverter_Take (lf d : Nat) (rec : FuncId → Array Value → M Value) (a0 : Value) : M Value :=
 optK (qP_eql Tryz.prog 65 a0 (Value.pointer none)) fun v5n1 =>
 ifV v5n1 (
 outK [(Value.string { data := #[] })]) (
 optK (nil2 a0) fun v7n2 =>
 optK (evFA3 Tryz.prog 93 259 v7n2 4) fun v8n3 =>
 insB (evLoad3 Tryz.prog 58 v8n3) fun v9n4 =>
 insB (evToStr3 v9n4) fun v10n5 =>
 optK (nil2 a0) fun v12n6 =>
 optK (evFA3 Tryz.prog 93 259 v12n6 4) fun v13n7 =>
 insB (evStore3 Tryz.prog 58 v13n7 (Value.slice none 0 0)) fun u8 =>
 outK [v10n5])
theorem fsh_unbwt_Inverter_Take (lf d : Nat) (a0 : Value) : inside (F_unbwt_Inverter_Take lf d (evC lf d) a0) = evC lf (d + 1) 85 #[a0] := by
  unfold F_unbwt_Inverter_Take; (try simp only [clash3_eq, evFA3_eq (P := Tryz.prog) gf93f4, evLoad3_eq (P := Tryz.prog) ga58, evStore3_eq (P := Tryz.prog) gs58, evToStr3_eq, insB_eq, qP_eql_eq (P := Tryz.prog) Tryz.underlying65]); kernel_rfl

/- feed_Unpacker_Put -/
noncomputable def F_feed_Unpacker_Put (lf d : Nat) (rec : FuncId → Array Value → M Value) (a0 : Value) (a1 : Value) : M Value :=
 optK (qP_eql Tryz.prog 66 a0 (Value.pointer none)) fun v14n1 =>
 ifV v14n1 (
 outK [(Value.string { data := #[] }), (Value.int .i64 7)]) (
 (inside (rec 107 #[a0])).bind fun v17n2 =>
 ifV v17n2 (
 optK (q_gtr Tryz.prog 5 a1 (Value.int .u8 251)) fun v19n3 =>
 ifV v19n3 (
 outK [(Value.string { data := #[] }), (Value.int .i64 25)]) (
 optK (nil2 a0) fun v21n4 =>
 optK (evFA3 Tryz.prog 147 0 v21n4 0) fun v22n5 =>
 optK (evFA3 Tryz.prog 106 0 v22n5 0) fun v23n6 =>
 insB (evLoad3 Tryz.prog 5 v23n6) fun v24n7 =>
 insB (evBS3 Tryz.prog 58 1 [(0, v24n7)]) fun v25n8 =>
 insB (evToStr3 v25n8) fun v26n9 =>
 conv3 Tryz.prog 5 3 .u8 .i64 a1 fun v28n10 =>
 (inside (rec 108 #[v26n9, v28n10])).bind fun v29n11 =>
 insB (evBuildZ Tryz.prog 106 [Value.int .u8 0, Value.int .i64 0] []) fun v31n12 =>
 optK (nil2 a0) fun v32n13 =>
 optK (evFA3 Tryz.prog 147 0 v32n13 0) fun v33n14 =>
 insB (evStoreA3 Tryz.prog 106 2 v33n14 v31n12) fun u15 =>
 outK [v29n11, (Value.int .i64 0)])) (
 optK (nil2 a0) fun v37n16 =>
 optK (evFA3 Tryz.prog 147 0 v37n16 0) fun v38n17 =>
 optK (evFA3 Tryz.prog 106 1 v38n17 1) fun v39n18 =>
 insB (evLoad3 Tryz.prog 3 v39n18) fun v40n19 =>
 optK (q_gtr Tryz.prog 3 v40n19 (Value.int .i64 0)) fun v41n20 =>
 ifV v41n20 (
 optK (nil2 a0) fun v44n21 =>
 optK (evFA3 Tryz.prog 147 0 v44n21 0) fun v45n22 =>
 optK (evFA3 Tryz.prog 106 0 v45n22 0) fun v46n23 =>
 insB (evLoad3 Tryz.prog 5 v46n23) fun v47n24 =>
 optK (q_eql Tryz.prog 5 v47n24 a1) fun v49n25 =>
 ifV v49n25 (
 optK (nil2 a0) fun v52n26 =>
 optK (evFA3 Tryz.prog 147 0 v52n26 0) fun v53n27 =>
 optK (evFA3 Tryz.prog 106 1 v53n27 1) fun v54n28 =>
 insB (evLoad3 Tryz.prog 3 v54n28) fun v55n29 =>
 optK (q_add Tryz.prog 3 v55n29 (Value.int .i64 1)) fun v56n30 =>
 optK (nil2 a0) fun v57n31 =>
 optK (evFA3 Tryz.prog 147 0 v57n31 0) fun v58n32 =>
 optK (evFA3 Tryz.prog 106 1 v58n32 1) fun v59n33 =>
 insB (evStore3 Tryz.prog 3 v59n33 v56n30) fun u34 =>
 insB (evBS3 Tryz.prog 58 1 [(0, a1)]) fun v61n35 =>
 insB (evToStr3 v61n35) fun v62n36 =>
 outK [v62n36, (Value.int .i64 0)]) (
 insB (evBuildZ Tryz.prog 106 [Value.int .u8 0, Value.int .i64 0] [(0, a1), (1, (Value.int .i64 1))]) fun v9n37 =>
 optK (nil2 a0) fun v10n38 =>
 optK (evFA3 Tryz.prog 147 0 v10n38 0) fun v11n39 =>
 insB (evStoreA3 Tryz.prog 106 2 v11n39 v9n37) fun u40 =>
 insB (evBS3 Tryz.prog 58 1 [(0, a1)]) fun v61n41 =>
 insB (evToStr3 v61n41) fun v62n42 =>
 outK [v62n42, (Value.int .i64 0)])) (
 insB (evBuildZ Tryz.prog 106 [Value.int .u8 0, Value.int .i64 0] [(0, a1), (1, (Value.int .i64 1))]) fun v9n43 =>
 optK (nil2 a0) fun v10n44 =>
 optK (evFA3 Tryz.prog 147 0 v10n44 0) fun v11n45 =>
 insB (evStoreA3 Tryz.prog 106 2 v11n45 v9n43) fun u46 =>
 insB (evBS3 Tryz.prog 58 1 [(0, a1)]) fun v61n47 =>
 insB (evToStr3 v61n47) fun v62n48 =>
 outK [v62n48, (Value.int .i64 0)])))
theorem fsh_feed_Unpacker_Put (lf d : Nat) (a0 : Value) (a1 : Value) : inside (F_feed_Unpacker_Put lf d (evC lf d) a0 a1) = evC lf (d + 1) 86 #[a0, a1] := by
  unfold F_feed_Unpacker_Put; (try simp only [bz106, clash3_eq, conv3_eq cw5x3, evBS3_eq, evFA3_eq (P := Tryz.prog) gf106f0, evFA3_eq (P := Tryz.prog) gf106f1, evFA3_eq (P := Tryz.prog) gf147f0, evLoad3_eq (P := Tryz.prog) ga3, evLoad3_eq (P := Tryz.prog) ga5, evStore3_eq (P := Tryz.prog) gs3, evStoreA3_eq (P := Tryz.prog) gs106, evToStr3_eq, insB_eq, qP_eql_eq (P := Tryz.prog) Tryz.underlying66, q_add_eq (P := Tryz.prog) nf3, q_eql_eq (P := Tryz.prog) nf5, q_gtr_eq (P := Tryz.prog) nf3, q_gtr_eq (P := Tryz.prog) nf5]); kernel_rfl

/- crc_Sum_Text -/
noncomputable def lpA_crc_Sum_Text (lf d fu : Nat) (k : Ex → Fr → M Value) (x0 : Value) (x1 : Value) (x6 : Value) (x7 : Value) : M Value := loopK (fun s1 k1 => codeK Tryz.prog (evC lf d) (gtA 87) lf (codeAt (bodyOf Tryz.prog 87) [true, false, false]) s1 k1) [0, 1, 6, 7] fu [(0, x0), (1, x1), (6, x6), (7, x7)] k
noncomputable def kcA_crc_Sum_Text (lf d : Nat) : Ex → Fr → M Value := contAt Tryz.prog (evC lf d) (gtA 87) lf (bodyOf Tryz.prog 87) [true, false] (endK Tryz.prog (resOf Tryz.prog 87))
noncomputable def LA_crc_Sum_Text (lf d : Nat) (rec : FuncId → Array Value → M Value) (k : Ex → Fr → M Value) : Nat → Value → Value → Value → Value → M Value
 | 0, _, _, _, _ => M.fail
 | fu + 1, x0, x1, x6, x7 =>
 optK (q_lss Tryz.prog 3 x7 x6) fun v8n2 =>
 ifV v8n2 (
 optK (index3 Tryz.prog 9 x1 x7) fun v13n3 =>
 (inside (rec 109 #[x0, v13n3])).bind fun v14n4 =>
 optK (q_add Tryz.prog 3 x7 (Value.int .i64 1)) fun v15n5 =>
 LA_crc_Sum_Text lf d rec k fu x0 x1 x6 v15n5) (
 k (Ex.exit 0) [(0, x0), (1, x1), (6, x6), (7, x7), (8, v8n2)])
noncomputable def KA_crc_Sum_Text (lf d : Nat) (rec : FuncId → Array Value → M Value) (dflt : Ex → Fr → M Value) : Ex → Fr → M Value := (kEx 0 (runCur [0, 1, 6, 7, 8] (fun y0 y1 y6 y7 y8 =>
 outK []) (dflt (Ex.exit 0))) dflt)
noncomputable def F_crc_Sum_Text (lf d : Nat) (rec : FuncId → Array Value → M Value) (a0 : Value) (a1 : Value) : M Value :=
 optK (len2 Tryz.prog #[9] [a1]) fun v6n1 =>
 LA_crc_Sum_Text lf d rec (KA_crc_Sum_Text lf d rec (kcA_crc_Sum_Text lf d)) lf a0 a1 v6n1 (Value.int .i64 0)
theorem LQA_crc_Sum_Text (lf d : Nat) (k : Ex → Fr → M Value) : ∀ fu : Nat, LA_crc_Sum_Text lf d (evC lf d) k fu = lpA_crc_Sum_Text lf d fu k
  | 0 => by funext x0 x1 x6 x7; kernel_rfl
  | fu + 1 => by
    have ih := LQA_crc_Sum_Text lf d k fu
    funext x0 x1 x6 x7; simp only [LA_crc_Sum_Text, ih, clash3_eq, index3_eq (P := Tryz.prog) Tryz.underlying9, insB_eq, q_add_eq (P := Tryz.prog) nf3, q_lss_eq (P := Tryz.prog) nf3]; kernel_rfl
set_option maxRecDepth 20000 in
theorem KQA_crc_Sum_Text (lf d : Nat) : KA_crc_Sum_Text lf d (evC lf d) (kcA_crc_Sum_Text lf d) = kcA_crc_Sum_Text lf d := by
  unfold KA_crc_Sum_Text
  refine Eq.trans (kEx_eq ?_) ?_
  · exact (runCur_eq _ _ _ (by intro y0 y1 y6 y7 y8; show _ = _; (try simp only [clash3_eq, insB_eq]); kernel_rfl))
  rfl
theorem fsh_crc_Sum_Text (lf d : Nat) (a0 : Value) (a1 : Value) : inside (F_crc_Sum_Text lf d (evC lf d) a0 a1) = evC lf (d + 1) 87 #[a0, a1] := by
  unfold F_crc_Sum_Text; (try simp only [KQA_crc_Sum_Text lf d, LQA_crc_Sum_Text, clash3_eq, insB_eq]); kernel_rfl

/- unpress_opening_end -/
noncomputable def F_unpress_opening_end (lf d : Nat) (rec : FuncId → Array Value → M Value) (a0 : Value) : M Value :=
 optK (nil2 a0) fun v5n1 =>
 optK (evFA3 Tryz.prog 69 3 v5n1 1) fun v6n2 =>
 insB (evLoad3 Tryz.prog 65 v6n2) fun v7n3 =>
 (inside (rec 66 #[v7n3])).bind fun v8n4 =>
 optK (un3 Tryz.prog .not v8n4) fun v9n5 =>
 ifV v9n5 (
 outK [(Value.int .i64 0)]) (
 optK (nil2 a0) fun v12n6 =>
 optK (evFA3 Tryz.prog 69 4 v12n6 2) fun v13n7 =>
 insB (evLoad3 Tryz.prog 66 v13n7) fun v14n8 =>
 (inside (rec 110 #[v14n8])).bind fun v15n9 =>
 optK (q_neq Tryz.prog 27 v15n9 (Value.int .i64 0)) fun v16n10 =>
 ifV v16n10 (
 outK [(Value.int .i64 25)]) (
 optK (nil2 a0) fun v19n11 =>
 optK (evFA3 Tryz.prog 69 5 v19n11 3) fun v20n12 =>
 (timed (
 insB (evLoad3 Tryz.prog 67 v20n12) fun v21n14 => M.ret v21n14)).bind fun vtn13 =>
 (timed (
 (inside (rec 111 #[vtn13.1])).bind fun v22n16 => M.ret v22n16)).bind fun vtn15 =>
 optK (nil2 a0) fun v24n17 =>
 optK (evFA3 Tryz.prog 69 0 v24n17 0) fun v25n18 =>
 optK (evFA3 Tryz.prog 64 2 v25n18 2) fun v26n19 =>
 (timed (
 insB (evLoad3 Tryz.prog 62 v26n19) fun v27n21 => M.ret v27n21)).bind fun vtn20 =>
 optK (q_neq Tryz.prog 62 vtn15.1 vtn20.1) fun v28n22 =>
 chkT ((!(clash3 vtn15.2 vtn20.2) && true) && true) (
 ifV v28n22 (
 outK [(Value.int .i64 21)]) (
 outK [(Value.int .i64 0)]))))
theorem fsh_unpress_opening_end (lf d : Nat) (a0 : Value) : inside (F_unpress_opening_end lf d (evC lf d) a0) = evC lf (d + 1) 88 #[a0] := by
  unfold F_unpress_opening_end; (try simp only [clash3_eq, evFA3_eq (P := Tryz.prog) gf64f2, evFA3_eq (P := Tryz.prog) gf69f0, evFA3_eq (P := Tryz.prog) gf69f1, evFA3_eq (P := Tryz.prog) gf69f2, evFA3_eq (P := Tryz.prog) gf69f3, evLoad3_eq (P := Tryz.prog) ga62, evLoad3_eq (P := Tryz.prog) ga65, evLoad3_eq (P := Tryz.prog) ga66, evLoad3_eq (P := Tryz.prog) ga67, insB_eq, q_neq_eq (P := Tryz.prog) nf27, q_neq_eq (P := Tryz.prog) nf62, un3_eq]); kernel_rfl

/- bits_Reader_end -/
noncomputable def F_bits_Reader_end (lf d : Nat) (rec : FuncId → Array Value → M Value) (a0 : Value) : M Value :=
 optK (nil2 a0) fun v4n1 =>
 optK (evFA3 Tryz.prog 89 1 v4n1 1) fun v5n2 =>
 insB (evLoad3 Tryz.prog 3 v5n2) fun v6n3 =>
 optK (nil2 a0) fun v8n4 =>
 optK (evFA3 Tryz.prog 89 0 v8n4 0) fun v9n5 =>
 insB (evLoad3 Tryz.prog 9 v9n5) fun v10n6 =>
 optK (len2 Tryz.prog #[9] [v10n6]) fun v11n7 =>
 optK (q_add Tryz.prog 3 v6n3 v11n7) fun v12n8 =>
 optK (q_mul Tryz.prog 3 (Value.int .i64 8) v12n8) fun v13n9 =>
 outK [v13n9]
theorem fsh_bits_Reader_end (lf d : Nat) (a0 : Value) : inside (F_bits_Reader_end lf d (evC lf d) a0) = evC lf (d + 1) 89 #[a0] := by
  unfold F_bits_Reader_end; (try simp only [clash3_eq, evFA3_eq (P := Tryz.prog) gf89f0, evFA3_eq (P := Tryz.prog) gf89f1, evLoad3_eq (P := Tryz.prog) ga3, evLoad3_eq (P := Tryz.prog) ga9, insB_eq, q_add_eq (P := Tryz.prog) nf3, q_mul_eq (P := Tryz.prog) nf3]); kernel_rfl

/- unstream_Reader_step -/
noncomputable def F_unstream_Reader_step (lf d : Nat) (rec : FuncId → Array Value → M Value) (a0 : Value) (a1 : Value) : M Value :=
 optK (nil2 a0) fun v7n1 =>
 optK (evFA3 Tryz.prog 87 1 v7n1 1) fun v8n2 =>
 insB (evLoad3 Tryz.prog 84 v8n2) fun v9n3 =>
 optK (q_eql Tryz.prog 84 v9n3 (Value.int .i64 0)) fun v11n4 =>
 ifV v11n4 (
 (inside (rec 112 #[a0, a1])).bind fun v14n5 =>
 outK [(Value.int .i64 0), v14n5]) (
 optK (q_eql Tryz.prog 84 v9n3 (Value.int .i64 1)) fun v16n6 =>
 ifV v16n6 (
 (inside (rec 113 #[a0, a1])).bind fun v19n7 =>
 outK [(Value.int .i64 0), v19n7]) (
 optK (q_eql Tryz.prog 84 v9n3 (Value.int .i64 2)) fun v21n8 =>
 ifV v21n8 (
 (inside (rec 114 #[a0, a1])).bind fun v24n9 =>
 optK (evExtract v24n9 0) fun v25n10 =>
 optK (evExtract v24n9 1) fun v26n11 =>
 outK [v25n10, v26n11]) (
 (inside (rec 115 #[a0, a1])).bind fun v29n12 =>
 optK (evExtract v29n12 0) fun v30n13 =>
 optK (evExtract v29n12 1) fun v31n14 =>
 outK [v30n13, v31n14])))
theorem fsh_unstream_Reader_step (lf d : Nat) (a0 : Value) (a1 : Value) : inside (F_unstream_Reader_step lf d (evC lf d) a0 a1) = evC lf (d + 1) 90 #[a0, a1] := by
  unfold F_unstream_Reader_step; (try simp only [clash3_eq, evFA3_eq (P := Tryz.prog) gf87f1, evLoad3_eq (P := Tryz.prog) ga84, insB_eq, q_eql_eq (P := Tryz.prog) nf84]); kernel_rfl

/- unbwt_New -/
noncomputable def F_unbwt_New (lf d : Nat) (rec : FuncId → Array Value → M Value) (a0 : Value) (a1 : Value) : M Value :=
 optK (qS_eql Tryz.prog 9 a0 (Value.string { data := #[] })) fun v8n1 =>
 ifV v8n1 (
 outK [(Value.pointer none), (Value.int .i64 1)]) (
 optK (len2 Tryz.prog #[9] [a0]) fun v11n2 =>
 optK (q_gtr Tryz.prog 3 v11n2 (Value.int .i64 900000)) fun v12n3 =>
 ifV v12n3 (
 outK [(Value.pointer none), (Value.int .i64 2)]) (
 optK (q_lss Tryz.prog 3 a1 (Value.int .i64 0)) fun v15n4 =>
 ifV v15n4 (
 outK [(Value.pointer none), (Value.int .i64 23)]) (
 optK (len2 Tryz.prog #[9] [a0]) fun v19n5 =>
 optK (q_geq Tryz.prog 3 a1 v19n5) fun v20n6 =>
 ifV v20n6 (
 outK [(Value.pointer none), (Value.int .i64 23)]) (
 optK (len2 Tryz.prog #[9] [a0]) fun v24n7 =>
 insB (evMake3 Tryz.prog 91 v24n7 v24n7) fun v25n8 =>
 insB (evBuildZ Tryz.prog 93 (appV [Value.string ⟨⟨[]⟩⟩] (appV (repV (Value.int .i64 0) 256) (appV [Value.slice none 0 0] (appV [Value.int .i64 0] (appV [Value.slice none 0 0] [Value.int .i64 0]))))) [(0, a0), (2, v25n8), (3, a1)]) fun v27n9 =>
 insB (evBox3 Tryz.prog 93 v27n9) fun v28n10 =>
 outK [v28n10, (Value.int .i64 0)]))))
theorem fsh_unbwt_New (lf d : Nat) (a0 : Value) (a1 : Value) : inside (F_unbwt_New lf d (evC lf d) a0 a1) = evC lf (d + 1) 91 #[a0, a1] := by
  unfold F_unbwt_New; (try simp only [bz93, clash3_eq, evBox3_eq, evMake3_eq, insB_eq, qS_eql_eq (P := Tryz.prog) nf9, q_geq_eq (P := Tryz.prog) nf3, q_gtr_eq (P := Tryz.prog) nf3, q_lss_eq (P := Tryz.prog) nf3]); kernel_rfl

/- feed_NewUnpacker -/
noncomputable def F_feed_NewUnpacker (lf d : Nat) (rec : FuncId → Array Value → M Value) : M Value :=
 insB (evBuildZ Tryz.prog 147 [Value.int .u8 0, Value.int .i64 0] []) fun v1n1 =>
 insB (evBox3 Tryz.prog 147 v1n1) fun v2n2 =>
 outK [v2n2]
theorem fsh_feed_NewUnpacker (lf d : Nat) : inside (F_feed_NewUnpacker lf d (evC lf d)) = evC lf (d + 1) 92 #[] := by
  unfold F_feed_NewUnpacker; (try simp only [bz147, clash3_eq, evBox3_eq, insB_eq]); kernel_rfl

/- crc_New -/
noncomputable def F_crc_New (lf d : Nat) (rec : FuncId → Array Value → M Value) : M Value :=
 (inside (rec 116 #[])).bind fun v1n1 =>
 insB (evBuildZ Tryz.prog 153 (appV (repV (Value.int .u32 0) 256) [Value.int .u32 0]) [(0, v1n1), (1, (Value.int .u32 4294967295))]) fun v2n2 =>
 insB (evBox3 Tryz.prog 153 v2n2) fun v3n3 =>
 outK [v3n3]
theorem fsh_crc_New (lf d : Nat) : inside (F_crc_New lf d (evC lf d)) = evC lf (d + 1) 93 #[] := by
  unfold F_crc_New; (try simp only [bz153, clash3_eq, evBox3_eq, insB_eq]); kernel_rfl

/- balerref03_row -/
noncomputable def lpA_balerref03_row (lf d fu : Nat) (k : Ex → Fr → M Value) (x0 : Value) (x2 : Value) (x3 : Value) : M Value := loopK (fun s1 k1 => codeK Tryz.prog (evC lf d) (gtA 94) lf (codeAt (bodyOf Tryz.prog 94) [true, true, false, false, false]) s1 k1) [0, 2, 3] fu [(0, x0), (2, x2), (3, x3)] k
noncomputable def kcA_balerref03_row (lf d : Nat) : Ex → Fr → M Value := contAt Tryz.prog (evC lf d) (gtA 94) lf (bodyOf Tryz.prog 94) [true, true, false, false] (endK Tryz.prog (resOf Tryz.prog 94))
noncomputable def LA_balerref03_row (lf d : Nat) (rec : FuncId → Array Value → M Value) (k : Ex → Fr → M Value) : Nat → Value → Value → Value → M Value
 | 0, _, _, _ => M.fail
 | fu + 1, x0, x2, x3 =>
 optK (len2 Tryz.prog #[9] [x0]) fun v6n1 =>
 optK (q_lss Tryz.prog 3 x3 v6n1) fun v7n2 =>
 ifV v7n2 (
 optK (q_lss Tryz.prog 3 x3 (Value.int .i64 255)) fun v10n3 =>
 ifV v10n3 (
 optK (index3 Tryz.prog 9 x0 x3) fun v15n4 =>
 optK (index3 Tryz.prog 9 x0 (Value.int .i64 0)) fun v17n5 =>
 optK (q_eql Tryz.prog 5 v15n4 v17n5) fun v18n6 =>
 ifV v18n6 (
 optK (q_add Tryz.prog 3 x3 (Value.int .i64 1)) fun v21n7 =>
 LA_balerref03_row lf d rec k fu x0 x2 v21n7) (
 k (Ex.exit 0) [(0, x0), (2, x2), (3, x3), (19, v18n6)])) (
 k (Ex.exit 0) [(0, x0), (2, x2), (3, x3), (19, (Value.bool false))])) (
 k (Ex.exit 0) [(0, x0), (2, x2), (3, x3), (19, (Value.bool false))])
noncomputable def KA_balerref03_row (lf d : Nat) (rec : FuncId → Array Value → M Value) (dflt : Ex → Fr → M Value) : Ex → Fr → M Value := (kEx 0 (runCur [0, 2, 3, 19] (fun y0 y2 y3 y19 =>
 outK [y3]) (dflt (Ex.exit 0))) dflt)
noncomputable def F_balerref03_row (lf d : Nat) (rec : FuncId → Array Value → M Value) (a0 : Value) : M Value :=
 LA_balerref03_row lf d rec (KA_balerref03_row lf d rec (kcA_balerref03_row lf d)) lf a0 (Value.int .i64 0) (Value.int .i64 0)
theorem LQA_balerref03_row (lf d : Nat) (k : Ex → Fr → M Value) : ∀ fu : Nat, LA_balerref03_row lf d (evC lf d) k fu = lpA_balerref03_row lf d fu k
  | 0 => by funext x0 x2 x3; kernel_rfl
  | fu + 1 => by
    have ih := LQA_balerref03_row lf d k fu
    funext x0 x2 x3; simp only [LA_balerref03_row, ih, clash3_eq, index3_eq (P := Tryz.prog) Tryz.underlying9, insB_eq, q_add_eq (P := Tryz.prog) nf3, q_eql_eq (P := Tryz.prog) nf5, q_lss_eq (P := Tryz.prog) nf3]; kernel_rfl
set_option maxRecDepth 20000 in
theorem KQA_balerref03_row (lf d : Nat) : KA_balerref03_row lf d (evC lf d) (kcA_balerref03_row lf d) = kcA_balerref03_row lf d := by
  unfold KA_balerref03_row
  refine Eq.trans (kEx_eq ?_) ?_
  · exact (runCur_eq _ _ _ (by intro y0 y2 y3 y19; show _ = _; (try simp only [clash3_eq, insB_eq]); kernel_rfl))
  rfl
theorem fsh_balerref03_row (lf d : Nat) (a0 : Value) : inside (F_balerref03_row lf d (evC lf d) a0) = evC lf (d + 1) 94 #[a0] := by
  unfold F_balerref03_row; (try simp only [KQA_balerref03_row lf d, LQA_balerref03_row, clash3_eq, insB_eq]); kernel_rfl

/- balerref17_From -/
noncomputable def lpA_balerref17_From (lf d fu : Nat) (k : Ex → Fr → M Value) (x0 : Value) (x1 : Value) (x4 : Value) (x5 : Value) (x10 : Value) (x11 : Value) (x12 : Value) : M Value := loopK (fun s1 k1 => codeK Tryz.prog (evC lf d) (gtA 95) lf (codeAt (bodyOf Tryz.prog 95) [true, true, false, true, false, false]) s1 k1) [0, 1, 4, 5, 10, 11, 12] fu [(0, x0), (1, x1), (4, x4), (5, x5), (10, x10), (11, x11), (12, x12)] k
noncomputable def kcA_balerref17_From (lf d : Nat) : Ex → Fr → M Value := contAt Tryz.prog (evC lf d) (gtA 95) lf (bodyOf Tryz.prog 95) [true, true, false, true, false] (endK Tryz.prog (resOf Tryz.prog 95))
noncomputable def LA_balerref17_From (lf d : Nat) (rec : FuncId → Array Value → M Value) (k : Ex → Fr → M Value) : Nat → Value → Value → Value → Value → Value → Value → Value → M Value
 | 0, _, _, _, _, _, _, _ => M.fail
 | fu + 1, x0, x1, x4, x5, x10, x11, x12 =>
 optK (q_lss Tryz.prog 3 x12 x11) fun v13n6 =>
 ifV v13n6 (
 optK (evIA3 Tryz.prog 91 1 x10 x12) fun v15n7 =>
 insB (evLoad3 Tryz.prog 3 v15n7) fun v16n8 =>
 (inside (rec 117 #[x0, v16n8])).bind fun v19n9 =>
 optK (evFA3 Tryz.prog 109 0 x5 0) fun v20n10 =>
 insB (evLoad3 Tryz.prog 9 v20n10) fun v21n11 =>
 optK (len2 Tryz.prog #[9] [v19n9]) fun v24n12 =>
 optK (q_sub Tryz.prog 3 v24n12 (Value.int .i64 1)) fun v25n13 =>
 slice3 Tryz.prog 9 v19n9 (some v25n13) none none fun v26n14 =>
 optK (qS_add Tryz.prog 9 v21n11 v26n14) fun v27n15 =>
 optK (evFA3 Tryz.prog 109 0 x5 0) fun v28n16 =>
 insB (evStore3 Tryz.prog 9 v28n16 v27n15) fun u17 =>
 optK (q_eql Tryz.prog 3 v16n8 (Value.int .i64 0)) fun v30n18 =>
 ifV v30n18 (
 optK (evFA3 Tryz.prog 109 1 x5 1) fun v32n19 =>
 insB (evStore3 Tryz.prog 3 v32n19 x12) fun u20 =>
 optK (q_add Tryz.prog 3 x12 (Value.int .i64 1)) fun v33n21 =>
 LA_balerref17_From lf d rec k fu x0 x1 x4 x5 x10 x11 v33n21) (
 optK (q_add Tryz.prog 3 x12 (Value.int .i64 1)) fun v33n22 =>
 LA_balerref17_From lf d rec k fu x0 x1 x4 x5 x10 x11 v33n22)) (
 k (Ex.exit 0) [(0, x0), (1, x1), (4, x4), (5, x5), (10, x10), (11, x11), (12, x12), (13, v13n6)])
noncomputable def KA_balerref17_From (lf d : Nat) (rec : FuncId → Array Value → M Value) (dflt : Ex → Fr → M Value) : Ex → Fr → M Value := (kEx 0 (runCur [0, 1, 4, 5, 10, 11, 12, 13] (fun y0 y1 y4 y5 y10 y11 y12 y13 =>
 insB (evLoadA3 Tryz.prog 109 2 y5) fun v34n23 =>
 insB (evStoreA3 Tryz.prog 109 2 y4 v34n23) fun u24 =>
 (evLoad Tryz.prog 109 y4).bind fun vrn25 =>
 outK [vrn25]) (dflt (Ex.exit 0))) dflt)
noncomputable def F_balerref17_From (lf d : Nat) (rec : FuncId → Array Value → M Value) (a0 : Value) (a1 : Value) : M Value :=
 insB (evAllocZ 109 [Value.string ⟨⟨[]⟩⟩, Value.int .i64 0]) fun v4n1 =>
 insB (evBuildZ Tryz.prog 109 [Value.string ⟨⟨[]⟩⟩, Value.int .i64 0] []) fun v9n2 =>
 insB (evAllocZ 109 [Value.string ⟨⟨[]⟩⟩, Value.int .i64 0]) fun v5n3 =>
 insB (evStoreA3 Tryz.prog 109 2 v5n3 v9n2) fun u4 =>
 optK (len2 Tryz.prog #[91] [a1]) fun v11n5 =>
 LA_balerref17_From lf d rec (KA_balerref17_From lf d rec (kcA_balerref17_From lf d)) lf a0 a1 v4n1 v5n3 a1 v11n5 (Value.int .i64 0)
theorem LQA_balerref17_From (lf d : Nat) (k : Ex → Fr → M Value) : ∀ fu : Nat, LA_balerref17_From lf d (evC lf d) k fu = lpA_balerref17_From lf d fu k
  | 0 => by funext x0 x1 x4 x5 x10 x11 x12; kernel_rfl
  | fu + 1 => by
    have ih := LQA_balerref17_From lf d k fu
    funext x0 x1 x4 x5 x10 x11 x12; simp only [LA_balerref17_From, ih, clash3_eq, evFA3_eq (P := Tryz.prog) gf109f0, evFA3_eq (P := Tryz.prog) gf109f1, evIA3_eq (P := Tryz.prog) Tryz.underlying91 gs3, evLoad3_eq (P := Tryz.prog) ga3, evLoad3_eq (P := Tryz.prog) ga9, evStore3_eq (P := Tryz.prog) gs3, evStore3_eq (P := Tryz.prog) gs9, insB_eq, qS_add_eq (P := Tryz.prog) nf9, q_add_eq (P := Tryz.prog) nf3, q_eql_eq (P := Tryz.prog) nf3, q_lss_eq (P := Tryz.prog) nf3, q_sub_eq (P := Tryz.prog) nf3, slice3_eq (P := Tryz.prog) Tryz.underlying9]; kernel_rfl
set_option maxRecDepth 20000 in
theorem KQA_balerref17_From (lf d : Nat) : KA_balerref17_From lf d (evC lf d) (kcA_balerref17_From lf d) = kcA_balerref17_From lf d := by
  unfold KA_balerref17_From
  refine Eq.trans (kEx_eq ?_) ?_
  · exact (runCur_eq _ _ _ (by intro y0 y1 y4 y5 y10 y11 y12 y13; show _ = _; (try simp only [clash3_eq, evLoadA3_eq (P := Tryz.prog) ga109 gs109, evStoreA3_eq (P := Tryz.prog) gs109, insB_eq]); kernel_rfl))
  rfl
theorem fsh_balerref17_From (lf d : Nat) (a0 : Value) (a1 : Value) : inside (F_balerref17_From lf d (evC lf d) a0 a1) = evC lf (d + 1) 95 #[a0, a1] := by
  unfold F_balerref17_From; (try simp only [KQA_balerref17_From lf d, LQA_balerref17_From, az109, bz109, clash3_eq, evStoreA3_eq (P := Tryz.prog) gs109, insB_eq]); kernel_rfl

/- balerref15_Sorted -/
noncomputable def lpA_balerref15_Sorted (lf d fu : Nat) (k : Ex → Fr → M Value) (x0 : Value) (x2 : Value) (x3 : Value) (x10 : Value) (x11 : Value) : M Value := loopK (fun s1 k1 => codeK Tryz.prog (evC lf d) (gtA 96) lf (codeAt (bodyOf Tryz.prog 96) [true, true, false, true, false, false]) s1 k1) [0, 2, 3, 10, 11] fu [(0, x0), (2, x2), (3, x3), (10, x10), (11, x11)] k
noncomputable def kcA_balerref15_Sorted (lf d : Nat) : Ex → Fr → M Value := contAt Tryz.prog (evC lf d) (gtA 96) lf (bodyOf Tryz.prog 96) [true, true, false, true, false] (endK Tryz.prog (resOf Tryz.prog 96))
noncomputable def lpB_balerref15_Sorted (lf d fu : Nat) (k : Ex → Fr → M Value) (x0 : Value) (x2 : Value) (x3 : Value) (x4 : Value) (x5 : Value) (x6 : Value) (x10 : Value) (x11 : Value) (x12 : Value) (x14 : Value) (x15 : Value) (x16 : Value) : M Value := loopK (fun s1 k1 => codeK Tryz.prog (evC lf d) (gtA 96) lf (codeAt (bodyOf Tryz.prog 96) [true, true, false, true, false, false, true, true, false, false, true, true, true, false, true, false, false]) s1 k1) [0, 2, 3, 4, 5, 6, 10, 11, 12, 14, 15, 16] fu [(0, x0), (2, x2), (3, x3), (4, x4), (5, x5), (6, x6), (10, x10), (11, x11), (12, x12), (14, x14), (15, x15), (16, x16)] k
noncomputable def kcB_balerref15_Sorted (lf d fu : Nat) (k : Ex → Fr → M Value) : Ex → Fr → M Value := contAt Tryz.prog (evC lf d) (gtA 96) lf (codeAt (bodyOf Tryz.prog 96) [true, true, false, true, false, false]) [true, true, false, false, true, true, true, false, true, false] (againK (fun s1 => loopK (fun s1 k1 => codeK Tryz.prog (evC lf d) (gtA 96) lf (codeAt (bodyOf Tryz.prog 96) [true, true, false, true, false, false]) s1 k1) [0, 2, 3, 10, 11] fu (s1.keep [0, 2, 3, 10, 11]) k) k)
noncomputable def KA_balerref15_Sorted (lf d : Nat) (rec : FuncId → Array Value → M Value) (dflt : Ex → Fr → M Value) : Ex → Fr → M Value := (kEx 0 (runCur [0, 2, 3, 10, 11, 12] (fun y0 y2 y3 y10 y11 y12 =>
 outK [y3]) (dflt (Ex.exit 0))) dflt)
noncomputable def LB_balerref15_Sorted (lf d : Nat) (rec : FuncId → Array Value → M Value) (k : Ex → Fr → M Value) : Nat → Value → Value → Value → Value → Value → Value → Value → Value → Value → Value → Value → Value → M Value
 | 0, _, _, _, _, _, _, _, _, _, _, _, _ => M.fail
 | fu + 1, x0, x2, x3, x4, x5, x6, x10, x11, x12, x14, x15, x16 =>
 optK (q_lss Tryz.prog 3 x16 x15) fun v17n4 =>
 ifV v17n4 (
 optK (evIA3 Tryz.prog 91 1 x14 x16) fun v18n5 =>
 insB (evLoad3 Tryz.prog 3 v18n5) fun v19n6 =>
 optK (un3 Tryz.prog .not x6) fun v21n7 =>
 ifV v21n7 (
 (inside (rec 118 #[x0, x4, v19n6])).bind fun v26n8 =>
 ifV v26n8 (
 insB (evBS3 Tryz.prog 91 1 [(0, x4)]) fun v30n9 =>
 insB (evAppend3 Tryz.prog 91 x5 v30n9) fun v31n10 =>
 insB (evBS3 Tryz.prog 91 1 [(0, v19n6)]) fun v34n11 =>
 insB (evAppend3 Tryz.prog 91 v31n10 v34n11) fun v35n12 =>
 optK (q_add Tryz.prog 3 x16 (Value.int .i64 1)) fun v36n13 =>
 LB_balerref15_Sorted lf d rec k fu x0 x2 x3 x4 v35n12 (Value.bool true) x10 x11 x12 x14 x15 v36n13) (
 insB (evBS3 Tryz.prog 91 1 [(0, v19n6)]) fun v34n14 =>
 insB (evAppend3 Tryz.prog 91 x5 v34n14) fun v35n15 =>
 optK (q_add Tryz.prog 3 x16 (Value.int .i64 1)) fun v36n16 =>
 LB_balerref15_Sorted lf d rec k fu x0 x2 x3 x4 v35n15 x6 x10 x11 x12 x14 x15 v36n16)) (
 insB (evBS3 Tryz.prog 91 1 [(0, v19n6)]) fun v34n17 =>
 insB (evAppend3 Tryz.prog 91 x5 v34n17) fun v35n18 =>
 optK (q_add Tryz.prog 3 x16 (Value.int .i64 1)) fun v36n19 =>
 LB_balerref15_Sorted lf d rec k fu x0 x2 x3 x4 v35n18 x6 x10 x11 x12 x14 x15 v36n19)) (
 k (Ex.exit 2) [(0, x0), (2, x2), (3, x3), (4, x4), (5, x5), (6, x6), (10, x10), (11, x11), (12, x12), (14, x14), (15, x15), (16, x16), (17, v17n4)])
noncomputable def KB_balerref15_Sorted (lf d : Nat) (rec : FuncId → Array Value → M Value) (fu : Nat) (k : Ex → Fr → M Value) (again : Value → Value → Value → Value → Value → M Value) (dflt : Ex → Fr → M Value) : Ex → Fr → M Value := (kEx 2 (runCur [0, 2, 3, 4, 5, 6, 10, 11, 12, 14, 15, 16, 17] (fun y0 y2 y3 y4 y5 y6 y10 y11 y12 y14 y15 y16 y17 =>
 optK (un3 Tryz.prog .not y6) fun v38n20 =>
 ifV v38n20 (
 insB (evBS3 Tryz.prog 91 1 [(0, y4)]) fun v41n21 =>
 insB (evAppend3 Tryz.prog 91 y5 v41n21) fun v42n22 =>
 optK (q_add Tryz.prog 3 y11 (Value.int .i64 1)) fun v44n23 =>
 again y0 y2 v42n22 y10 v44n23) (
 optK (q_add Tryz.prog 3 y11 (Value.int .i64 1)) fun v44n24 =>
 again y0 y2 y5 y10 v44n24)) (dflt (Ex.exit 2))) dflt)
noncomputable def LA_balerref15_Sorted (lf d : Nat) (rec : FuncId → Array Value → M Value) (k : Ex → Fr → M Value) : Nat → Value → Value → Value → Value → Value → M Value
 | 0, _, _, _, _, _ => M.fail
 | fu + 1, x0, x2, x3, x10, x11 =>
 optK (q_lss Tryz.prog 3 x11 x10) fun v12n2 =>
 ifV v12n2 (
 optK (len2 Tryz.prog #[91] [x3]) fun v15n3 =>
 LB_balerref15_Sorted lf d rec (KB_balerref15_Sorted lf d rec fu k (LA_balerref15_Sorted lf d rec k fu) (kcB_balerref15_Sorted lf d fu k)) lf x0 x2 x3 x11 (Value.slice none 0 0) (Value.bool false) x10 x11 v12n2 x3 v15n3 (Value.int .i64 0)) (
 k (Ex.exit 0) [(0, x0), (2, x2), (3, x3), (10, x10), (11, x11), (12, v12n2)])
noncomputable def F_balerref15_Sorted (lf d : Nat) (rec : FuncId → Array Value → M Value) (a0 : Value) : M Value :=
 optK (len2 Tryz.prog #[9] [a0]) fun v10n1 =>
 LA_balerref15_Sorted lf d rec (KA_balerref15_Sorted lf d rec (kcA_balerref15_Sorted lf d)) lf a0 (Value.slice none 0 0) (Value.slice none 0 0) v10n1 (Value.int .i64 0)
set_option maxRecDepth 20000 in
theorem KQA_balerref15_Sorted (lf d : Nat) : KA_balerref15_Sorted lf d (evC lf d) (kcA_balerref15_Sorted lf d) = kcA_balerref15_Sorted lf d := by
  unfold KA_balerref15_Sorted
  refine Eq.trans (kEx_eq ?_) ?_
  · exact (runCur_eq _ _ _ (by intro y0 y2 y3 y10 y11 y12; show _ = _; (try simp only [clash3_eq, insB_eq]); kernel_rfl))
  rfl
theorem LQB_balerref15_Sorted (lf d : Nat) (k : Ex → Fr → M Value) : ∀ fu : Nat, LB_balerref15_Sorted lf d (evC lf d) k fu = lpB_balerref15_Sorted lf d fu k
  | 0 => by funext x0 x2 x3 x4 x5 x6 x10 x11 x12 x14 x15 x16; kernel_rfl
  | fu + 1 => by
    have ih := LQB_balerref15_Sorted lf d k fu
    funext x0 x2 x3 x4 x5 x6 x10 x11 x12 x14 x15 x16; simp only [LB_balerref15_Sorted, ih, clash3_eq, evAppend3_eq, evBS3_eq, evIA3_eq (P := Tryz.prog) Tryz.underlying91 gs3, evLoad3_eq (P := Tryz.prog) ga3, insB_eq, q_add_eq (P := Tryz.prog) nf3, q_lss_eq (P := Tryz.prog) nf3, un3_eq]; kernel_rfl
set_option maxRecDepth 20000 in
theorem KQB_balerref15_Sorted (lf d fu : Nat) (k : Ex → Fr → M Value) (again : Value → Value → Value → Value → Value → M Value) (ha : again = lpA_balerref15_Sorted lf d fu k) : KB_balerref15_Sorted lf d (evC lf d) fu k again (kcB_balerref15_Sorted lf d fu k) = kcB_balerref15_Sorted lf d fu k := by
  subst ha
  unfold KB_balerref15_Sorted
  refine Eq.trans (kEx_eq ?_) ?_
  · exact (runCur_eq _ _ _ (by intro y0 y2 y3 y4 y5 y6 y10 y11 y12 y14 y15 y16 y17; show _ = _; (try simp only [clash3_eq, evAppend3_eq, evBS3_eq, insB_eq, q_add_eq (P := Tryz.prog) nf3, un3_eq]); kernel_rfl))
  rfl
theorem LQA_balerref15_Sorted (lf d : Nat) (k : Ex → Fr → M Value) : ∀ fu : Nat, LA_balerref15_Sorted lf d (evC lf d) k fu = lpA_balerref15_Sorted lf d fu k
  | 0 => by funext x0 x2 x3 x10 x11; kernel_rfl
  | fu + 1 => by
    have ih := LQA_balerref15_Sorted lf d k fu
    funext x0 x2 x3 x10 x11; simp only [LA_balerref15_Sorted, ih, KQB_balerref15_Sorted lf d fu k _ rfl, LQB_balerref15_Sorted, clash3_eq, insB_eq, q_lss_eq (P := Tryz.prog) nf3]; kernel_rfl
theorem fsh_balerref15_Sorted (lf d : Nat) (a0 : Value) : inside (F_balerref15_Sorted lf d (evC lf d) a0) = evC lf (d + 1) 96 #[a0] := by
  unfold F_balerref15_Sorted; (try simp only [KQA_balerref15_Sorted lf d, LQA_balerref15_Sorted, clash3_eq, insB_eq]); kernel_rfl

/- balerref05_Symbols -/
noncomputable def lpA_balerref05_Symbols (lf d fu : Nat) (k : Ex → Fr → M Value) (x0 : Value) (x2 : Value) (x3 : Value) (x5 : Value) : M Value := loopK (fun s1 k1 => codeK Tryz.prog (evC lf d) (gtA 97) lf (codeAt (bodyOf Tryz.prog 97) [true, true, false, true, false, false]) s1 k1) [0, 2, 3, 5] fu [(0, x0), (2, x2), (3, x3), (5, x5)] k
noncomputable def kcA_balerref05_Symbols (lf d : Nat) : Ex → Fr → M Value := contAt Tryz.prog (evC lf d) (gtA 97) lf (bodyOf Tryz.prog 97) [true, true, false, true, false] (endK Tryz.prog (resOf Tryz.prog 97))
noncomputable def LA_balerref05_Symbols (lf d : Nat) (rec : FuncId → Array Value → M Value) (k : Ex → Fr → M Value) : Nat → Value → Value → Value → Value → M Value
 | 0, _, _, _, _ => M.fail
 | fu + 1, x0, x2, x3, x5 =>
 optK (q_lss Tryz.prog 3 x5 (Value.int .i64 256)) fun v6n1 =>
 ifV v6n1 (
 (inside (rec 119 #[x0, x5])).bind fun v10n2 =>
 ifV v10n2 (
 conv3 Tryz.prog 3 5 .i64 .u8 x5 fun v13n3 =>
 insB (evBS3 Tryz.prog 58 1 [(0, v13n3)]) fun v14n4 =>
 insB (evToStr3 v14n4) fun v15n5 =>
 optK (qS_add Tryz.prog 9 x3 v15n5) fun v16n6 =>
 optK (q_add Tryz.prog 3 x5 (Value.int .i64 1)) fun v17n7 =>
 LA_balerref05_Symbols lf d rec k fu x0 x2 v16n6 v17n7) (
 optK (q_add Tryz.prog 3 x5 (Value.int .i64 1)) fun v17n8 =>
 LA_balerref05_Symbols lf d rec k fu x0 x2 x3 v17n8)) (
 k (Ex.exit 0) [(0, x0), (2, x2), (3, x3), (5, x5), (6, v6n1)])
noncomputable def KA_balerref05_Symbols (lf d : Nat) (rec : FuncId → Array Value → M Value) (dflt : Ex → Fr → M Value) : Ex → Fr → M Value := (kEx 0 (runCur [0, 2, 3, 5, 6] (fun y0 y2 y3 y5 y6 =>
 outK [y3]) (dflt (Ex.exit 0))) dflt)
noncomputable def F_balerref05_Symbols (lf d : Nat) (rec : FuncId → Array Value → M Value) (a0 : Value) : M Value :=
 LA_balerref05_Symbols lf d rec (KA_balerref05_Symbols lf d rec (kcA_balerref05_Symbols lf d)) lf a0 (Value.string { data := #[] }) (Value.string { data := #[] }) (Value.int .i64 0)
theorem LQA_balerref05_Symbols (lf d : Nat) (k : Ex → Fr → M Value) : ∀ fu : Nat, LA_balerref05_Symbols lf d (evC lf d) k fu = lpA_balerref05_Symbols lf d fu k
  | 0 => by funext x0 x2 x3 x5; kernel_rfl
  | fu + 1 => by
    have ih := LQA_balerref05_Symbols lf d k fu
    funext x0 x2 x3 x5; simp only [LA_balerref05_Symbols, ih, clash3_eq, conv3_eq cw3x5, evBS3_eq, evToStr3_eq, insB_eq, qS_add_eq (P := Tryz.prog) nf9, q_add_eq (P := Tryz.prog) nf3, q_lss_eq (P := Tryz.prog) nf3]; kernel_rfl
set_option maxRecDepth 20000 in
theorem KQA_balerref05_Symbols (lf d : Nat) : KA_balerref05_Symbols lf d (evC lf d) (kcA_balerref05_Symbols lf d) = kcA_balerref05_Symbols lf d := by
  unfold KA_balerref05_Symbols
  refine Eq.trans (kEx_eq ?_) ?_
  · exact (runCur_eq _ _ _ (by intro y0 y2 y3 y5 y6; show _ = _; (try simp only [clash3_eq, insB_eq]); kernel_rfl))
  rfl
theorem fsh_balerref05_Symbols (lf d : Nat) (a0 : Value) : inside (F_balerref05_Symbols lf d (evC lf d) a0) = evC lf (d + 1) 97 #[a0] := by
  unfold F_balerref05_Symbols; (try simp only [KQA_balerref05_Symbols lf d, LQA_balerref05_Symbols, clash3_eq, insB_eq]); kernel_rfl

/- balerref06_Encode -/
noncomputable def lpA_balerref06_Encode (lf d fu : Nat) (k : Ex → Fr → M Value) (x0 : Value) (x1 : Value) (x4 : Value) (x5 : Value) (x6 : Value) (x7 : Value) (x8 : Value) (x12 : Value) : M Value := loopK (fun s1 k1 => codeK Tryz.prog (evC lf d) (gtA 98) lf (codeAt (bodyOf Tryz.prog 98) [true, true, true, true, false, true, false, false]) s1 k1) [0, 1, 4, 5, 6, 7, 8, 12] fu [(0, x0), (1, x1), (4, x4), (5, x5), (6, x6), (7, x7), (8, x8), (12, x12)] k
noncomputable def kcA_balerref06_Encode (lf d : Nat) : Ex → Fr → M Value := contAt Tryz.prog (evC lf d) (gtA 98) lf (bodyOf Tryz.prog 98) [true, true, true, true, false, true, false] (endK Tryz.prog (resOf Tryz.prog 98))
noncomputable def LA_balerref06_Encode (lf d : Nat) (rec : FuncId → Array Value → M Value) (k : Ex → Fr → M Value) : Nat → Value → Value → Value → Value → Value → Value → Value → Value → M Value
 | 0, _, _, _, _, _, _, _, _ => M.fail
 | fu + 1, x0, x1, x4, x5, x6, x7, x8, x12 =>
 optK (len2 Tryz.prog #[9] [x0]) fun v16n3 =>
 optK (q_lss Tryz.prog 3 x8 v16n3) fun v17n4 =>
 ifV v17n4 (
 optK (index3 Tryz.prog 9 x0 x8) fun v23n5 =>
 (inside (rec 121 #[x7, v23n5])).bind fun v24n6 =>
 optK (q_lss Tryz.prog 3 v24n6 (Value.int .i64 0)) fun v26n7 =>
 ifV v26n7 (
 k Ex.ret [(0, x0), (1, x1), (4, (Value.slice none 0 0)), (5, (Value.int .i64 6)), (6, x6), (7, x7), (8, x8), (9, v24n6), (12, x12), (17, v17n4), (26, v26n7)]) (
 insB (evBS3 Tryz.prog 91 1 [(0, v24n6)]) fun v29n8 =>
 insB (evAppend3 Tryz.prog 91 x6 v29n8) fun v30n9 =>
 (inside (rec 122 #[x7, v24n6])).bind fun v33n10 =>
 optK (q_add Tryz.prog 3 x8 (Value.int .i64 1)) fun v19n11 =>
 LA_balerref06_Encode lf d rec k fu x0 x1 x4 x5 v30n9 v33n10 v19n11 x12)) (
 k (Ex.exit 0) [(0, x0), (1, x1), (4, x4), (5, x5), (6, x6), (7, x7), (8, x8), (12, x12), (17, v17n4)])
noncomputable def KA_balerref06_Encode (lf d : Nat) (rec : FuncId → Array Value → M Value) (dflt : Ex → Fr → M Value) : Ex → Fr → M Value := (kEx 0 (runCur [0, 1, 4, 5, 6, 7, 8, 12, 17] (fun y0 y1 y4 y5 y6 y7 y8 y12 y17 =>
 outK [y6, (Value.int .i64 0)]) (dflt (Ex.exit 0))) (kRt (runCur [0, 1, 4, 5, 6, 7, 8, 9, 12, 17, 26] (fun y0 y1 y4 y5 y6 y7 y8 y9 y12 y17 y26 =>
 outK [y4, y5]) (dflt Ex.ret)) dflt))
noncomputable def F_balerref06_Encode (lf d : Nat) (rec : FuncId → Array Value → M Value) (a0 : Value) (a1 : Value) : M Value :=
 (inside (rec 120 #[a1])).bind fun v11n1 =>
 optK (un3 Tryz.prog .not v11n1) fun v12n2 =>
 ifV v12n2 (
 outK [(Value.slice none 0 0), (Value.int .i64 1)]) (
 LA_balerref06_Encode lf d rec (KA_balerref06_Encode lf d rec (kcA_balerref06_Encode lf d)) lf a0 a1 (Value.slice none 0 0) (Value.int .i64 0) (Value.slice none 0 0) a1 (Value.int .i64 0) v12n2)
theorem LQA_balerref06_Encode (lf d : Nat) (k : Ex → Fr → M Value) : ∀ fu : Nat, LA_balerref06_Encode lf d (evC lf d) k fu = lpA_balerref06_Encode lf d fu k
  | 0 => by funext x0 x1 x4 x5 x6 x7 x8 x12; kernel_rfl
  | fu + 1 => by
    have ih := LQA_balerref06_Encode lf d k fu
    funext x0 x1 x4 x5 x6 x7 x8 x12; simp only [LA_balerref06_Encode, ih, clash3_eq, evAppend3_eq, evBS3_eq, index3_eq (P := Tryz.prog) Tryz.underlying9, insB_eq, q_add_eq (P := Tryz.prog) nf3, q_lss_eq (P := Tryz.prog) nf3]; kernel_rfl
set_option maxRecDepth 20000 in
theorem KQA_balerref06_Encode (lf d : Nat) : KA_balerref06_Encode lf d (evC lf d) (kcA_balerref06_Encode lf d) = kcA_balerref06_Encode lf d := by
  unfold KA_balerref06_Encode
  refine Eq.trans (kEx_eq ?_) ?_
  · exact (runCur_eq _ _ _ (by intro y0 y1 y4 y5 y6 y7 y8 y12 y17; show _ = _; (try simp only [clash3_eq, insB_eq]); kernel_rfl))
  refine Eq.trans (kRt_eq ?_) ?_
  · exact (runCur_eq _ _ _ (by intro y0 y1 y4 y5 y6 y7 y8 y9 y12 y17 y26; show _ = _; (try simp only [clash3_eq, insB_eq]); kernel_rfl))
  rfl
theorem fsh_balerref06_Encode (lf d : Nat) (a0 : Value) (a1 : Value) : inside (F_balerref06_Encode lf d (evC lf d) a0 a1) = evC lf (d + 1) 98 #[a0, a1] := by
  unfold F_balerref06_Encode; (try simp only [KQA_balerref06_Encode lf d, LQA_balerref06_Encode, clash3_eq, insB_eq, un3_eq]); kernel_rfl

/- balerref07_Encode -/
noncomputable def lpA_balerref07_Encode (lf d fu : Nat) (k : Ex → Fr → M Value) (x0 : Value) (x1 : Value) (x4 : Value) (x5 : Value) (x6 : Value) (x7 : Value) (x15 : Value) (x16 : Value) (x17 : Value) (x18 : Value) : M Value := loopK (fun s1 k1 => codeK Tryz.prog (evC lf d) (gtA 99) lf (codeAt (bodyOf Tryz.prog 99) [true, true, true, true, false, true, false, false]) s1 k1) [0, 1, 4, 5, 6, 7, 15, 16, 17, 18] fu [(0, x0), (1, x1), (4, x4), (5, x5), (6, x6), (7, x7), (15, x15), (16, x16), (17, x17), (18, x18)] k
noncomputable def kcA_balerref07_Encode (lf d : Nat) : Ex → Fr → M Value := contAt Tryz.prog (evC lf d) (gtA 99) lf (bodyOf Tryz.prog 99) [true, true, true, true, false, true, false] (endK Tryz.prog (resOf Tryz.prog 99))
noncomputable def LA_balerref07_Encode (lf d : Nat) (rec : FuncId → Array Value → M Value) (k : Ex → Fr → M Value) : Nat → Value → Value → Value → Value → Value → Value → Value → Value → Value → Value → M Value
 | 0, _, _, _, _, _, _, _, _, _, _ => M.fail
 | fu + 1, x0, x1, x4, x5, x6, x7, x15, x16, x17, x18 =>
 optK (q_lss Tryz.prog 3 x18 x17) fun v19n4 =>
 ifV v19n4 (
 optK (evIA3 Tryz.prog 91 1 x16 x18) fun v20n5 =>
 insB (evLoad3 Tryz.prog 3 v20n5) fun v21n6 =>
 optK (q_lss Tryz.prog 3 v21n6 (Value.int .i64 0)) fun v23n7 =>
 ifV v23n7 (
 k Ex.ret [(0, x0), (1, x1), (4, (Value.slice none 0 0)), (5, (Value.int .i64 1)), (6, x6), (7, x7), (9, v21n6), (15, x15), (16, x16), (17, x17), (18, x18), (19, v19n4), (28, (Value.bool true))]) (
 optK (q_geq Tryz.prog 3 v21n6 x1) fun v27n8 =>
 ifV v27n8 (
 k Ex.ret [(0, x0), (1, x1), (4, (Value.slice none 0 0)), (5, (Value.int .i64 1)), (6, x6), (7, x7), (9, v21n6), (15, x15), (16, x16), (17, x17), (18, x18), (19, v19n4), (28, v27n8)]) (
 optK (q_eql Tryz.prog 3 v21n6 (Value.int .i64 0)) fun v30n9 =>
 ifV v30n9 (
 optK (q_add Tryz.prog 3 x7 (Value.int .i64 1)) fun v32n10 =>
 optK (q_add Tryz.prog 3 x18 (Value.int .i64 1)) fun v42n11 =>
 LA_balerref07_Encode lf d rec k fu x0 x1 x4 x5 x6 v32n10 x15 x16 x17 v42n11) (
 (inside (rec 123 #[x7])).bind fun v35n12 =>
 insB (evAppend3 Tryz.prog 91 x6 v35n12) fun v36n13 =>
 optK (q_add Tryz.prog 3 v21n6 (Value.int .i64 1)) fun v39n14 =>
 insB (evBS3 Tryz.prog 91 1 [(0, v39n14)]) fun v40n15 =>
 insB (evAppend3 Tryz.prog 91 v36n13 v40n15) fun v41n16 =>
 optK (q_add Tryz.prog 3 x18 (Value.int .i64 1)) fun v42n17 =>
 LA_balerref07_Encode lf d rec k fu x0 x1 x4 x5 v41n16 (Value.int .i64 0) x15 x16 x17 v42n17)))) (
 k (Ex.exit 0) [(0, x0), (1, x1), (4, x4), (5, x5), (6, x6), (7, x7), (15, x15), (16, x16), (17, x17), (18, x18), (19, v19n4)])
noncomputable def KA_balerref07_Encode (lf d : Nat) (rec : FuncId → Array Value → M Value) (dflt : Ex → Fr → M Value) : Ex → Fr → M Value := (kEx 0 (runCur [0, 1, 4, 5, 6, 7, 15, 16, 17, 18, 19] (fun y0 y1 y4 y5 y6 y7 y15 y16 y17 y18 y19 =>
 (inside (rec 123 #[y7])).bind fun v45n18 =>
 insB (evAppend3 Tryz.prog 91 y6 v45n18) fun v46n19 =>
 optK (q_add Tryz.prog 3 y1 (Value.int .i64 1)) fun v49n20 =>
 insB (evBS3 Tryz.prog 91 1 [(0, v49n20)]) fun v50n21 =>
 insB (evAppend3 Tryz.prog 91 v46n19 v50n21) fun v51n22 =>
 outK [v51n22, (Value.int .i64 0)]) (dflt (Ex.exit 0))) (kRt (runCur [0, 1, 4, 5, 6, 7, 9, 15, 16, 17, 18, 19, 28] (fun y0 y1 y4 y5 y6 y7 y9 y15 y16 y17 y18 y19 y28 =>
 outK [y4, y5]) (dflt Ex.ret)) dflt))
noncomputable def F_balerref07_Encode (lf d : Nat) (rec : FuncId → Array Value → M Value) (a0 : Value) (a1 : Value) : M Value :=
 optK (q_lss Tryz.prog 3 a1 (Value.int .i64 1)) fun v11n1 =>
 ifV v11n1 (
 outK [(Value.slice none 0 0), (Value.int .i64 1)]) (
 optK (q_gtr Tryz.prog 3 a1 (Value.int .i64 256)) fun v14n2 =>
 ifV v14n2 (
 outK [(Value.slice none 0 0), (Value.int .i64 1)]) (
 optK (len2 Tryz.prog #[91] [a0]) fun v17n3 =>
 LA_balerref07_Encode lf d rec (KA_balerref07_Encode lf d rec (kcA_balerref07_Encode lf d)) lf a0 a1 (Value.slice none 0 0) (Value.int .i64 0) (Value.slice none 0 0) (Value.int .i64 0) v14n2 a0 v17n3 (Value.int .i64 0)))
theorem LQA_balerref07_Encode (lf d : Nat) (k : Ex → Fr → M Value) : ∀ fu : Nat, LA_balerref07_Encode lf d (evC lf d) k fu = lpA_balerref07_Encode lf d fu k
  | 0 => by funext x0 x1 x4 x5 x6 x7 x15 x16 x17 x18; kernel_rfl
  | fu + 1 => by
    have ih := LQA_balerref07_Encode lf d k fu
    funext x0 x1 x4 x5 x6 x7 x15 x16 x17 x18; simp only [LA_balerref07_Encode, ih, clash3_eq, evAppend3_eq, evBS3_eq, evIA3_eq (P := Tryz.prog) Tryz.underlying91 gs3, evLoad3_eq (P := Tryz.prog) ga3, insB_eq, q_add_eq (P := Tryz.prog) nf3, q_eql_eq (P := Tryz.prog) nf3, q_geq_eq (P := Tryz.prog) nf3, q_lss_eq (P := Tryz.prog) nf3]; kernel_rfl
set_option maxRecDepth 20000 in
theorem KQA_balerref07_Encode (lf d : Nat) : KA_balerref07_Encode lf d (evC lf d) (kcA_balerref07_Encode lf d) = kcA_balerref07_Encode lf d := by
  unfold KA_balerref07_Encode
  refine Eq.trans (kEx_eq ?_) ?_
  · exact (runCur_eq _ _ _ (by intro y0 y1 y4 y5 y6 y7 y15 y16 y17 y18 y19; show _ = _; (try simp only [clash3_eq, evAppend3_eq, evBS3_eq, insB_eq, q_add_eq (P := Tryz.prog) nf3]); kernel_rfl))
  refine Eq.trans (kRt_eq ?_) ?_
  · exact (runCur_eq _ _ _ (by intro y0 y1 y4 y5 y6 y7 y9 y15 y16 y17 y18 y19 y28; show _ = _; (try simp only [clash3_eq, evAppend3_eq, evBS3_eq, insB_eq, q_add_eq (P := Tryz.prog) nf3]); kernel_rfl))
  rfl
theorem fsh_balerref07_Encode (lf d : Nat) (a0 : Value) (a1 : Value) : inside (F_balerref07_Encode lf d (evC lf d) a0 a1) = evC lf (d + 1) 99 #[a0, a1] := by
  unfold F_balerref07_Encode; (try simp only [KQA_balerref07_Encode lf d, LQA_balerref07_Encode, clash3_eq, insB_eq, q_gtr_eq (P := Tryz.prog) nf3, q_lss_eq (P := Tryz.prog) nf3]); kernel_rfl

/- balerref05_Bits -/
noncomputable def lpA_balerref05_Bits (lf d fu : Nat) (k : Ex → Fr → M Value) (x0 : Value) (x2 : Value) (x3 : Value) (x4 : Value) (x9 : Value) : M Value := loopK (fun s1 k1 => codeK Tryz.prog (evC lf d) (gtA 100) lf (codeAt (bodyOf Tryz.prog 100) [true, true, true, false, true, false, false]) s1 k1) [0, 2, 3, 4, 9] fu [(0, x0), (2, x2), (3, x3), (4, x4), (9, x9)] k
noncomputable def kcA_balerref05_Bits (lf d : Nat) : Ex → Fr → M Value := contAt Tryz.prog (evC lf d) (gtA 100) lf (bodyOf Tryz.prog 100) [true, true, true, false, true, false] (endK Tryz.prog (resOf Tryz.prog 100))
noncomputable def lpB_balerref05_Bits (lf d fu : Nat) (k : Ex → Fr → M Value) (x0 : Value) (x2 : Value) (x3 : Value) (x4 : Value) (x5 : Value) (x6 : Value) (x7 : Value) (x9 : Value) (x10 : Value) (x12 : Value) : M Value := loopK (fun s1 k1 => codeK Tryz.prog (evC lf d) (gtA 100) lf (codeAt (bodyOf Tryz.prog 100) [true, true, true, false, true, false, false, true, true, false, false, true, true, true, false, true, false, false]) s1 k1) [0, 2, 3, 4, 5, 6, 7, 9, 10, 12] fu [(0, x0), (2, x2), (3, x3), (4, x4), (5, x5), (6, x6), (7, x7), (9, x9), (10, x10), (12, x12)] k
noncomputable def kcB_balerref05_Bits (lf d fu : Nat) (k : Ex → Fr → M Value) : Ex → Fr → M Value := contAt Tryz.prog (evC lf d) (gtA 100) lf (codeAt (bodyOf Tryz.prog 100) [true, true, true, false, true, false, false]) [true, true, false, false, true, true, true, false, true, false] (againK (fun s1 => loopK (fun s1 k1 => codeK Tryz.prog (evC lf d) (gtA 100) lf (codeAt (bodyOf Tryz.prog 100) [true, true, true, false, true, false, false]) s1 k1) [0, 2, 3, 4, 9] fu (s1.keep [0, 2, 3, 4, 9]) k) k)
noncomputable def KA_balerref05_Bits (lf d : Nat) (rec : FuncId → Array Value → M Value) (dflt : Ex → Fr → M Value) : Ex → Fr → M Value := (kEx 0 (runCur [0, 2, 3, 4, 9, 10] (fun y0 y2 y3 y4 y9 y10 =>
 optK (qS_add Tryz.prog 9 y3 y4) fun v37n2 =>
 outK [v37n2]) (dflt (Ex.exit 0))) dflt)
noncomputable def LB_balerref05_Bits (lf d : Nat) (rec : FuncId → Array Value → M Value) (k : Ex → Fr → M Value) : Nat → Value → Value → Value → Value → Value → Value → Value → Value → Value → Value → M Value
 | 0, _, _, _, _, _, _, _, _, _, _ => M.fail
 | fu + 1, x0, x2, x3, x4, x5, x6, x7, x9, x10, x12 =>
 optK (q_lss Tryz.prog 3 x12 (Value.int .i64 16)) fun v13n3 =>
 ifV v13n3 (
 optK (q_mul Tryz.prog 3 (Value.int .i64 16) x5) fun v17n4 =>
 optK (q_add Tryz.prog 3 v17n4 x12) fun v19n5 =>
 (inside (rec 119 #[x0, v19n5])).bind fun v20n6 =>
 ifV v20n6 (
 optK (qS_add Tryz.prog 9 x6 (Value.string { data := #[49] })) fun v22n7 =>
 optK (q_add Tryz.prog 3 x12 (Value.int .i64 1)) fun v25n8 =>
 LB_balerref05_Bits lf d rec k fu x0 x2 x3 x4 x5 v22n7 (Value.bool true) x9 x10 v25n8) (
 optK (qS_add Tryz.prog 9 x6 (Value.string { data := #[48] })) fun v24n9 =>
 optK (q_add Tryz.prog 3 x12 (Value.int .i64 1)) fun v25n10 =>
 LB_balerref05_Bits lf d rec k fu x0 x2 x3 x4 x5 v24n9 x7 x9 x10 v25n10)) (
 k (Ex.exit 2) [(0, x0), (2, x2), (3, x3), (4, x4), (5, x5), (6, x6), (7, x7), (9, x9), (10, x10), (12, x12), (13, v13n3)])
noncomputable def KB_balerref05_Bits (lf d : Nat) (rec : FuncId → Array Value → M Value) (fu : Nat) (k : Ex → Fr → M Value) (again : Value → Value → Value → Value → Value → M Value) (dflt : Ex → Fr → M Value) : Ex → Fr → M Value := (kEx 2 (runCur [0, 2, 3, 4, 5, 6, 7, 9, 10, 12, 13] (fun y0 y2 y3 y4 y5 y6 y7 y9 y10 y12 y13 =>
 ifV y7 (
 optK (qS_add Tryz.prog 9 y3 (Value.string { data := #[49] })) fun v28n11 =>
 optK (qS_add Tryz.prog 9 y4 y6) fun v31n12 =>
 optK (q_add Tryz.prog 3 y9 (Value.int .i64 1)) fun v34n13 =>
 again y0 y2 v28n11 v31n12 v34n13) (
 optK (qS_add Tryz.prog 9 y3 (Value.string { data := #[48] })) fun v33n14 =>
 optK (q_add Tryz.prog 3 y9 (Value.int .i64 1)) fun v34n15 =>
 again y0 y2 v33n14 y4 v34n15)) (dflt (Ex.exit 2))) dflt)
noncomputable def LA_balerref05_Bits (lf d : Nat) (rec : FuncId → Array Value → M Value) (k : Ex → Fr → M Value) : Nat → Value → Value → Value → Value → Value → M Value
 | 0, _, _, _, _, _ => M.fail
 | fu + 1, x0, x2, x3, x4, x9 =>
 optK (q_lss Tryz.prog 3 x9 (Value.int .i64 16)) fun v10n1 =>
 ifV v10n1 (
 LB_balerref05_Bits lf d rec (KB_balerref05_Bits lf d rec fu k (LA_balerref05_Bits lf d rec k fu) (kcB_balerref05_Bits lf d fu k)) lf x0 x2 x3 x4 x9 (Value.string { data := #[] }) (Value.bool false) x9 v10n1 (Value.int .i64 0)) (
 k (Ex.exit 0) [(0, x0), (2, x2), (3, x3), (4, x4), (9, x9), (10, v10n1)])
noncomputable def F_balerref05_Bits (lf d : Nat) (rec : FuncId → Array Value → M Value) (a0 : Value) : M Value :=
 LA_balerref05_Bits lf d rec (KA_balerref05_Bits lf d rec (kcA_balerref05_Bits lf d)) lf a0 (Value.string { data := #[] }) (Value.string { data := #[] }) (Value.string { data := #[] }) (Value.int .i64 0)
set_option maxRecDepth 20000 in
theorem KQA_balerref05_Bits (lf d : Nat) : KA_balerref05_Bits lf d (evC lf d) (kcA_balerref05_Bits lf d) = kcA_balerref05_Bits lf d := by
  unfold KA_balerref05_Bits
  refine Eq.trans (kEx_eq ?_) ?_
  · exact (runCur_eq _ _ _ (by intro y0 y2 y3 y4 y9 y10; show _ = _; (try simp only [clash3_eq, insB_eq, qS_add_eq (P := Tryz.prog) nf9]); kernel_rfl))
  rfl
theorem LQB_balerref05_Bits (lf d : Nat) (k : Ex → Fr → M Value) : ∀ fu : Nat, LB_balerref05_Bits lf d (evC lf d) k fu = lpB_balerref05_Bits lf d fu k
  | 0 => by funext x0 x2 x3 x4 x5 x6 x7 x9 x10 x12; kernel_rfl
  | fu + 1 => by
    have ih := LQB_balerref05_Bits lf d k fu
    funext x0 x2 x3 x4 x5 x6 x7 x9 x10 x12; simp only [LB_balerref05_Bits, ih, clash3_eq, insB_eq, qS_add_eq (P := Tryz.prog) nf9, q_add_eq (P := Tryz.prog) nf3, q_lss_eq (P := Tryz.prog) nf3, q_mul_eq (P := Tryz.prog) nf3]; kernel_rfl
set_option maxRecDepth 20000 in
theorem KQB_balerref05_Bits (lf d fu : Nat) (k : Ex → Fr → M Value) (again : Value → Value → Value → Value → Value → M Value) (ha : again = lpA_balerref05_Bits lf d fu k) : KB_balerref05_Bits lf d (evC lf d) fu k again (kcB_balerref05_Bits lf d fu k) = kcB_balerref05_Bits lf d fu k := by
  subst ha
  unfold KB_balerref05_Bits
  refine Eq.trans (kEx_eq ?_) ?_
  · exact (runCur_eq _ _ _ (by intro y0 y2 y3 y4 y5 y6 y7 y9 y10 y12 y13; show _ = _; (try simp only [clash3_eq, insB_eq, qS_add_eq (P := Tryz.prog) nf9, q_add_eq (P := Tryz.prog) nf3]); kernel_rfl))
  rfl
theorem LQA_balerref05_Bits (lf d : Nat) (k : Ex → Fr → M Value) : ∀ fu : Nat, LA_balerref05_Bits lf d (evC lf d) k fu = lpA_balerref05_Bits lf d fu k
  | 0 => by funext x0 x2 x3 x4 x9; kernel_rfl
  | fu + 1 => by
    have ih := LQA_balerref05_Bits lf d k fu
    funext x0 x2 x3 x4 x9; simp only [LA_balerref05_Bits, ih, KQB_balerref05_Bits lf d fu k _ rfl, LQB_balerref05_Bits, clash3_eq, insB_eq, q_lss_eq (P := Tryz.prog) nf3]; kernel_rfl
theorem fsh_balerref05_Bits (lf d : Nat) (a0 : Value) : inside (F_balerref05_Bits lf d (evC lf d) a0) = evC lf (d + 1) 100 #[a0] := by
  unfold F_balerref05_Bits; (try simp only [KQA_balerref05_Bits lf d, LQA_balerref05_Bits, clash3_eq, insB_eq]); kernel_rfl

/- balerref14_Bits -/
noncomputable def lpA_balerref14_Bits (lf d fu : Nat) (k : Ex → Fr → M Value) (x0 : Value) (x1 : Value) (x4 : Value) (x5 : Value) (x6 : Value) (x7 : Value) (x22 : Value) (x23 : Value) (x24 : Value) : M Value := loopK (fun s1 k1 => codeK Tryz.prog (evC lf d) (gtA 101) lf (codeAt (bodyOf Tryz.prog 101) [true, true, true, true, false, true, false, false]) s1 k1) [0, 1, 4, 5, 6, 7, 22, 23, 24] fu [(0, x0), (1, x1), (4, x4), (5, x5), (6, x6), (7, x7), (22, x22), (23, x23), (24, x24)] k
noncomputable def kcA_balerref14_Bits (lf d : Nat) : Ex → Fr → M Value := contAt Tryz.prog (evC lf d) (gtA 101) lf (bodyOf Tryz.prog 101) [true, true, true, true, false, true, false] (endK Tryz.prog (resOf Tryz.prog 101))
noncomputable def lpB_balerref14_Bits (lf d fu : Nat) (k : Ex → Fr → M Value) (x0 : Value) (x1 : Value) (x4 : Value) (x5 : Value) (x6 : Value) (x7 : Value) (x22 : Value) (x23 : Value) (x24 : Value) (x25 : Value) (x38 : Value) (x39 : Value) (x40 : Value) : M Value := loopK (fun s1 k1 => codeK Tryz.prog (evC lf d) (gtA 101) lf (codeAt (bodyOf Tryz.prog 101) [true, true, true, true, true, false, true, false, false]) s1 k1) [0, 1, 4, 5, 6, 7, 22, 23, 24, 25, 38, 39, 40] fu [(0, x0), (1, x1), (4, x4), (5, x5), (6, x6), (7, x7), (22, x22), (23, x23), (24, x24), (25, x25), (38, x38), (39, x39), (40, x40)] k
noncomputable def kcB_balerref14_Bits (lf d : Nat) : Ex → Fr → M Value := contAt Tryz.prog (evC lf d) (gtA 101) lf (bodyOf Tryz.prog 101) [true, true, true, true, true, false, true, false] (endK Tryz.prog (resOf Tryz.prog 101))
noncomputable def LA_balerref14_Bits (lf d : Nat) (rec : FuncId → Array Value → M Value) (k : Ex → Fr → M Value) : Nat → Value → Value → Value → Value → Value → Value → Value → Value → Value → M Value
 | 0, _, _, _, _, _, _, _, _, _ => M.fail
 | fu + 1, x0, x1, x4, x5, x6, x7, x22, x23, x24 =>
 optK (q_lss Tryz.prog 3 x24 x23) fun v25n13 =>
 ifV v25n13 (
 optK (evIA3 Tryz.prog 158 1 x22 x24) fun v26n14 =>
 insB (evLoad3 Tryz.prog 91 v26n14) fun v27n15 =>
 (inside (rec 126 #[v27n15])).bind fun v30n16 =>
 optK (qS_add Tryz.prog 9 x6 v30n16) fun v31n17 =>
 (inside (rec 127 #[v27n15])).bind fun v34n18 =>
 insB (evBS3 Tryz.prog 162 1 [(0, v34n18)]) fun v35n19 =>
 insB (evAppend3 Tryz.prog 162 x7 v35n19) fun v36n20 =>
 optK (q_add Tryz.prog 3 x24 (Value.int .i64 1)) fun v37n21 =>
 LA_balerref14_Bits lf d rec k fu x0 x1 x4 x5 v31n17 v36n20 x22 x23 v37n21) (
 k (Ex.exit 0) [(0, x0), (1, x1), (4, x4), (5, x5), (6, x6), (7, x7), (22, x22), (23, x23), (24, x24), (25, v25n13)])
noncomputable def LB_balerref14_Bits (lf d : Nat) (rec : FuncId → Array Value → M Value) (k : Ex → Fr → M Value) : Nat → Value → Value → Value → Value → Value → Value → Value → Value → Value → Value → Value → Value → Value → M Value
 | 0, _, _, _, _, _, _, _, _, _, _, _, _, _ => M.fail
 | fu + 1, x0, x1, x4, x5, x6, x7, x22, x23, x24, x25, x38, x39, x40 =>
 optK (q_lss Tryz.prog 3 x40 x39) fun v41n23 =>
 ifV v41n23 (
 optK (evIA3 Tryz.prog 91 1 x38 x40) fun v43n24 =>
 insB (evLoad3 Tryz.prog 3 v43n24) fun v44n25 =>
 optK (evFA3 Tryz.prog 160 1 x5 1) fun v47n26 =>
 insB (evLoad3 Tryz.prog 91 v47n26) fun v48n27 =>
 optK (q_quo Tryz.prog 3 x40 (Value.int .i64 50)) fun v50n28 =>
 optK (evIA3 Tryz.prog 91 1 v48n27 v50n28) fun v51n29 =>
 insB (evLoad3 Tryz.prog 3 v51n29) fun v52n30 =>
 optK (evIA3 Tryz.prog 162 1 x7 v52n30) fun v53n31 =>
 insB (evLoad3 Tryz.prog 24 v53n31) fun v54n32 =>
 optK (evIA3 Tryz.prog 24 1 v54n32 v44n25) fun v56n33 =>
 insB (evLoad3 Tryz.prog 9 v56n33) fun v57n34 =>
 optK (qS_add Tryz.prog 9 x6 v57n34) fun v58n35 =>
 optK (q_add Tryz.prog 3 x40 (Value.int .i64 1)) fun v59n36 =>
 LB_balerref14_Bits lf d rec k fu x0 x1 x4 x5 v58n35 x7 x22 x23 x24 x25 x38 x39 v59n36) (
 k (Ex.exit 2) [(0, x0), (1, x1), (4, x4), (5, x5), (6, x6), (7, x7), (22, x22), (23, x23), (24, x24), (25, x25), (38, x38), (39, x39), (40, x40), (41, v41n23)])
noncomputable def KB_balerref14_Bits (lf d : Nat) (rec : FuncId → Array Value → M Value) (dflt : Ex → Fr → M Value) : Ex → Fr → M Value := (kEx 2 (runCur [0, 1, 4, 5, 6, 7, 22, 23, 24, 25, 38, 39, 40, 41] (fun y0 y1 y4 y5 y6 y7 y22 y23 y24 y25 y38 y39 y40 y41 =>
 outK [y6]) (dflt (Ex.exit 2))) dflt)
noncomputable def KA_balerref14_Bits (lf d : Nat) (rec : FuncId → Array Value → M Value) (dflt : Ex → Fr → M Value) : Ex → Fr → M Value := (kEx 0 (runCur [0, 1, 4, 5, 6, 7, 22, 23, 24, 25] (fun y0 y1 y4 y5 y6 y7 y22 y23 y24 y25 =>
 optK (len2 Tryz.prog #[91] [y0]) fun v39n22 =>
 LB_balerref14_Bits lf d rec (KB_balerref14_Bits lf d rec (kcB_balerref14_Bits lf d)) lf y0 y1 y4 y5 y6 y7 y22 y23 y24 y25 y0 v39n22 (Value.int .i64 0)) (dflt (Ex.exit 0))) dflt)
noncomputable def F_balerref14_Bits (lf d : Nat) (rec : FuncId → Array Value → M Value) (a0 : Value) (a1 : Value) : M Value :=
 (inside (rec 124 #[a0, a1])).bind fun v14n1 =>
 insB (evAllocZ 160 [Value.slice none 0 0, Value.slice none 0 0]) fun v5n2 =>
 insB (evStoreA3 Tryz.prog 160 2 v5n2 v14n1) fun u3 =>
 optK (evFA3 Tryz.prog 160 1 v5n2 1) fun v15n4 =>
 insB (evLoad3 Tryz.prog 91 v15n4) fun v16n5 =>
 optK (evFA3 Tryz.prog 160 0 v5n2 0) fun v17n6 =>
 insB (evLoad3 Tryz.prog 158 v17n6) fun v18n7 =>
 optK (len2 Tryz.prog #[158] [v18n7]) fun v19n8 =>
 (inside (rec 125 #[v16n5, v19n8])).bind fun v20n9 =>
 optK (evFA3 Tryz.prog 160 0 v5n2 0) fun v21n10 =>
 insB (evLoad3 Tryz.prog 158 v21n10) fun v22n11 =>
 optK (len2 Tryz.prog #[158] [v22n11]) fun v23n12 =>
 LA_balerref14_Bits lf d rec (KA_balerref14_Bits lf d rec (kcA_balerref14_Bits lf d)) lf a0 a1 (Value.string { data := #[] }) v5n2 v20n9 (Value.slice none 0 0) v22n11 v23n12 (Value.int .i64 0)
theorem LQA_balerref14_Bits (lf d : Nat) (k : Ex → Fr → M Value) : ∀ fu : Nat, LA_balerref14_Bits lf d (evC lf d) k fu = lpA_balerref14_Bits lf d fu k
  | 0 => by funext x0 x1 x4 x5 x6 x7 x22 x23 x24; kernel_rfl
  | fu + 1 => by
    have ih := LQA_balerref14_Bits lf d k fu
    funext x0 x1 x4 x5 x6 x7 x22 x23 x24; simp only [LA_balerref14_Bits, ih, clash3_eq, evAppend3_eq, evBS3_eq, evIA3_eq (P := Tryz.prog) Tryz.underlying158 gs91, evLoad3_eq (P := Tryz.prog) ga91, insB_eq, qS_add_eq (P := Tryz.prog) nf9, q_add_eq (P := Tryz.prog) nf3, q_lss_eq (P := Tryz.prog) nf3]; kernel_rfl
theorem LQB_balerref14_Bits (lf d : Nat) (k : Ex → Fr → M Value) : ∀ fu : Nat, LB_balerref14_Bits lf d (evC lf d) k fu = lpB_balerref14_Bits lf d fu k
  | 0 => by funext x0 x1 x4 x5 x6 x7 x22 x23 x24 x25 x38 x39 x40; kernel_rfl
  | fu + 1 => by
    have ih := LQB_balerref14_Bits lf d k fu
    funext x0 x1 x4 x5 x6 x7 x22 x23 x24 x25 x38 x39 x40; simp only [LB_balerref14_Bits, ih, clash3_eq, evFA3_eq (P := Tryz.prog) gf160f1, evIA3_eq (P := Tryz.prog) Tryz.underlying162 gs24, evIA3_eq (P := Tryz.prog) Tryz.underlying24 gs9, evIA3_eq (P := Tryz.prog) Tryz.underlying91 gs3, evLoad3_eq (P := Tryz.prog) ga24, evLoad3_eq (P := Tryz.prog) ga3, evLoad3_eq (P := Tryz.prog) ga9, evLoad3_eq (P := Tryz.prog) ga91, insB_eq, qS_add_eq (P := Tryz.prog) nf9, q_add_eq (P := Tryz.prog) nf3, q_lss_eq (P := Tryz.prog) nf3, q_quo_eq (P := Tryz.prog) nf3]; kernel_rfl
set_option maxRecDepth 20000 in
theorem KQB_balerref14_Bits (lf d : Nat) : KB_balerref14_Bits lf d (evC lf d) (kcB_balerref14_Bits lf d) = kcB_balerref14_Bits lf d := by
  unfold KB_balerref14_Bits
  refine Eq.trans (kEx_eq ?_) ?_
  · exact (runCur_eq _ _ _ (by intro y0 y1 y4 y5 y6 y7 y22 y23 y24 y25 y38 y39 y40 y41; show _ = _; (try simp only [clash3_eq, insB_eq]); kernel_rfl))
  rfl
set_option maxRecDepth 20000 in
theorem KQA_balerref14_Bits (lf d : Nat) : KA_balerref14_Bits lf d (evC lf d) (kcA_balerref14_Bits lf d) = kcA_balerref14_Bits lf d := by
  unfold KA_balerref14_Bits
  refine Eq.trans (kEx_eq ?_) ?_
  · exact (runCur_eq _ _ _ (by intro y0 y1 y4 y5 y6 y7 y22 y23 y24 y25; show _ = _; (try simp only [KQB_balerref14_Bits lf d, LQB_balerref14_Bits, clash3_eq, insB_eq]); kernel_rfl))
  rfl
theorem fsh_balerref14_Bits (lf d : Nat) (a0 : Value) (a1 : Value) : inside (F_balerref14_Bits lf d (evC lf d) a0 a1) = evC lf (d + 1) 101 #[a0, a1] := by
  unfold F_balerref14_Bits; (try simp only [KQA_balerref14_Bits lf d, LQA_balerref14_Bits, az160, clash3_eq, evFA3_eq (P := Tryz.prog) gf160f0, evFA3_eq (P := Tryz.prog) gf160f1, evLoad3_eq (P := Tryz.prog) ga158, evLoad3_eq (P := Tryz.prog) ga91, evStoreA3_eq (P := Tryz.prog) gs160, insB_eq]); kernel_rfl

/- balerref02_Step -/
noncomputable def F_balerref02_Step (lf d : Nat) (rec : FuncId → Array Value → M Value) (a0 : Value) (a1 : Value) : M Value :=
 conv3 Tryz.prog 5 62 .u8 .u32 a1 fun v7n1 =>
 optK (q_mul Tryz.prog 62 v7n1 (Value.int .u32 16777216)) fun v8n2 =>
 optK (q_xor Tryz.prog 62 a0 v8n2) fun v9n3 =>
 (inside (rec 128 #[v9n3])).bind fun v10n4 =>
 outK [v10n4]
theorem fsh_balerref02_Step (lf d : Nat) (a0 : Value) (a1 : Value) : inside (F_balerref02_Step lf d (evC lf d) a0 a1) = evC lf (d + 1) 102 #[a0, a1] := by
  unfold F_balerref02_Step; (try simp only [clash3_eq, conv3_eq cw5x62, insB_eq, q_mul_eq (P := Tryz.prog) nf62, q_xor_eq (P := Tryz.prog) nf62]); kernel_rfl

/- balerref01_Number -/
noncomputable def lpA_balerref01_Number (lf d fu : Nat) (k : Ex → Fr → M Value) (x0 : Value) (x2 : Value) (x3 : Value) (x4 : Value) : M Value := loopK (fun s1 k1 => codeK Tryz.prog (evC lf d) (gtA 103) lf (codeAt (bodyOf Tryz.prog 103) [true, true, false, true, false, false]) s1 k1) [0, 2, 3, 4] fu [(0, x0), (2, x2), (3, x3), (4, x4)] k
noncomputable def kcA_balerref01_Number (lf d : Nat) : Ex → Fr → M Value := contAt Tryz.prog (evC lf d) (gtA 103) lf (bodyOf Tryz.prog 103) [true, true, false, true, false] (endK Tryz.prog (resOf Tryz.prog 103))
noncomputable def LA_balerref01_Number (lf d : Nat) (rec : FuncId → Array Value → M Value) (k : Ex → Fr → M Value) : Nat → Value → Value → Value → Value → M Value
 | 0, _, _, _, _ => M.fail
 | fu + 1, x0, x2, x3, x4 =>
 optK (len2 Tryz.prog #[9] [x0]) fun v7n1 =>
 optK (q_lss Tryz.prog 3 x4 v7n1) fun v8n2 =>
 ifV v8n2 (
 optK (q_mul Tryz.prog 62 (Value.int .u32 2) x3) fun v12n3 =>
 optK (index3 Tryz.prog 9 x0 x4) fun v15n4 =>
 optK (q_sub Tryz.prog 5 v15n4 (Value.int .u8 48)) fun v16n5 =>
 conv3 Tryz.prog 5 62 .u8 .u32 v16n5 fun v17n6 =>
 optK (q_add Tryz.prog 62 v12n3 v17n6) fun v18n7 =>
 optK (q_add Tryz.prog 3 x4 (Value.int .i64 1)) fun v10n8 =>
 LA_balerref01_Number lf d rec k fu x0 x2 v18n7 v10n8) (
 k (Ex.exit 0) [(0, x0), (2, x2), (3, x3), (4, x4), (8, v8n2)])
noncomputable def KA_balerref01_Number (lf d : Nat) (rec : FuncId → Array Value → M Value) (dflt : Ex → Fr → M Value) : Ex → Fr → M Value := (kEx 0 (runCur [0, 2, 3, 4, 8] (fun y0 y2 y3 y4 y8 =>
 outK [y3]) (dflt (Ex.exit 0))) dflt)
noncomputable def F_balerref01_Number (lf d : Nat) (rec : FuncId → Array Value → M Value) (a0 : Value) : M Value :=
 LA_balerref01_Number lf d rec (KA_balerref01_Number lf d rec (kcA_balerref01_Number lf d)) lf a0 (Value.int .u32 0) (Value.int .u32 0) (Value.int .i64 0)
theorem LQA_balerref01_Number (lf d : Nat) (k : Ex → Fr → M Value) : ∀ fu : Nat, LA_balerref01_Number lf d (evC lf d) k fu = lpA_balerref01_Number lf d fu k
  | 0 => by funext x0 x2 x3 x4; kernel_rfl
  | fu + 1 => by
    have ih := LQA_balerref01_Number lf d k fu
    funext x0 x2 x3 x4; simp only [LA_balerref01_Number, ih, clash3_eq, conv3_eq cw5x62, index3_eq (P := Tryz.prog) Tryz.underlying9, insB_eq, q_add_eq (P := Tryz.prog) nf3, q_add_eq (P := Tryz.prog) nf62, q_lss_eq (P := Tryz.prog) nf3, q_mul_eq (P := Tryz.prog) nf62, q_sub_eq (P := Tryz.prog) nf5]; kernel_rfl
set_option maxRecDepth 20000 in
theorem KQA_balerref01_Number (lf d : Nat) : KA_balerref01_Number lf d (evC lf d) (kcA_balerref01_Number lf d) = kcA_balerref01_Number lf d := by
  unfold KA_balerref01_Number
  refine Eq.trans (kEx_eq ?_) ?_
  · exact (runCur_eq _ _ _ (by intro y0 y2 y3 y4 y8; show _ = _; (try simp only [clash3_eq, insB_eq]); kernel_rfl))
  rfl
theorem fsh_balerref01_Number (lf d : Nat) (a0 : Value) : inside (F_balerref01_Number lf d (evC lf d) a0) = evC lf (d + 1) 103 #[a0] := by
  unfold F_balerref01_Number; (try simp only [KQA_balerref01_Number lf d, LQA_balerref01_Number, clash3_eq, insB_eq]); kernel_rfl

/- balerref02_Combine -/
noncomputable def F_balerref02_Combine (lf d : Nat) (rec : FuncId → Array Value → M Value) (a0 : Value) (a1 : Value) : M Value :=
 optK (q_mul Tryz.prog 62 a0 (Value.int .u32 2)) fun v7n1 =>
 optK (q_geq Tryz.prog 62 a0 (Value.int .u32 2147483648)) fun v9n2 =>
 ifV v9n2 (
 optK (q_add Tryz.prog 62 v7n1 (Value.int .u32 1)) fun v11n3 =>
 optK (q_xor Tryz.prog 62 v11n3 a1) fun v14n4 =>
 outK [v14n4]) (
 optK (q_xor Tryz.prog 62 v7n1 a1) fun v14n5 =>
 outK [v14n5])
theorem fsh_balerref02_Combine (lf d : Nat) (a0 : Value) (a1 : Value) : inside (F_balerref02_Combine lf d (evC lf d) a0 a1) = evC lf (d + 1) 104 #[a0, a1] := by
  unfold F_balerref02_Combine; (try simp only [clash3_eq, insB_eq, q_add_eq (P := Tryz.prog) nf62, q_geq_eq (P := Tryz.prog) nf62, q_mul_eq (P := Tryz.prog) nf62, q_xor_eq (P := Tryz.prog) nf62]); kernel_rfl

/- picks_Reader_Picks -/
noncomputable def F_picks_Reader_Picks (lf d : Nat) (rec : FuncId → Array Value → M Value) (a0 : Value) : M Value :=
 optK (qP_eql Tryz.prog 139 a0 (Value.pointer none)) fun v4n1 =>
 ifV v4n1 (
 outK [(Value.slice none 0 0)]) (
 optK (nil2 a0) fun v6n2 =>
 optK (evFA3 Tryz.prog 170 8 v6n2 3) fun v7n3 =>
 insB (evLoad3 Tryz.prog 91 v7n3) fun v8n4 =>
 (inside (rec 129 #[v8n4])).bind fun v9n5 =>
 outK [v9n5])
theorem fsh_picks_Reader_Picks (lf d : Nat) (a0 : Value) : inside (F_picks_Reader_Picks lf d (evC lf d) a0) = evC lf (d + 1) 105 #[a0] := by
  unfold F_picks_Reader_Picks; (try simp only [clash3_eq, evFA3_eq (P := Tryz.prog) gf170f3, evLoad3_eq (P := Tryz.prog) ga91, insB_eq, qP_eql_eq (P := Tryz.prog) Tryz.underlying139]); kernel_rfl

/- unbwt_Inverter_step -/
noncomputable def F_unbwt_Inverter_step (lf d : Nat) (rec : FuncId → Array Value → M Value) (a0 : Value) : M Value :=
 optK (nil2 a0) fun v6n1 =>
 optK (evFA3 Tryz.prog 93 0 v6n1 0) fun v7n2 =>
 insB (evLoad3 Tryz.prog 9 v7n2) fun v8n3 =>
 optK (len2 Tryz.prog #[9] [v8n3]) fun v9n4 =>
 optK (nil2 a0) fun v11n5 =>
 optK (evFA3 Tryz.prog 93 260 v11n5 5) fun v12n6 =>
 insB (evLoad3 Tryz.prog 3 v12n6) fun v13n7 =>
 optK (q_rem Tryz.prog 3 v13n7 v9n4) fun v15n8 =>
 optK (nil2 a0) fun v17n9 =>
 optK (evFA3 Tryz.prog 93 260 v17n9 5) fun v18n10 =>
 insB (evLoad3 Tryz.prog 3 v18n10) fun v19n11 =>
 optK (q_quo Tryz.prog 3 v19n11 v9n4) fun v21n12 =>
 optK (q_eql Tryz.prog 3 v21n12 (Value.int .i64 0)) fun v54n13 =>
 ifV v54n13 (
 optK (nil2 a0) fun v57n14 =>
 optK (evFA3 Tryz.prog 93 0 v57n14 0) fun v58n15 =>
 insB (evLoad3 Tryz.prog 9 v58n15) fun v59n16 =>
 optK (index3 Tryz.prog 9 v59n16 v15n8) fun v61n17 =>
 optK (nil2 a0) fun v62n18 =>
 optK (evFA3 Tryz.prog 93 1 v62n18 1) fun v63n19 =>
 optK (evIAP3 Tryz.prog 90 256 1 v63n19 v61n17) fun v64n20 =>
 insB (evLoad3 Tryz.prog 3 v64n20) fun v65n21 =>
 optK (q_add Tryz.prog 3 v65n21 (Value.int .i64 1)) fun v66n22 =>
 optK (nil2 a0) fun v67n23 =>
 optK (evFA3 Tryz.prog 93 1 v67n23 1) fun v68n24 =>
 optK (evIAP3 Tryz.prog 90 256 1 v68n24 v61n17) fun v69n25 =>
 insB (evStore3 Tryz.prog 3 v69n25 v66n22) fun u26 =>
 optK (q_sub Tryz.prog 3 v9n4 (Value.int .i64 1)) fun v72n27 =>
 optK (q_eql Tryz.prog 3 v15n8 v72n27) fun v73n28 =>
 ifV v73n28 (
 (inside (rec 130 #[a0])).bind fun v75n29 =>
 optK (nil2 a0) fun v107n30 =>
 optK (evFA3 Tryz.prog 93 260 v107n30 5) fun v108n31 =>
 insB (evLoad3 Tryz.prog 3 v108n31) fun v109n32 =>
 optK (q_add Tryz.prog 3 v109n32 (Value.int .i64 1)) fun v110n33 =>
 optK (nil2 a0) fun v111n34 =>
 optK (evFA3 Tryz.prog 93 260 v111n34 5) fun v112n35 =>
 insB (evStore3 Tryz.prog 3 v112n35 v110n33) fun u36 =>
 outK []) (
 optK (nil2 a0) fun v107n37 =>
 optK (evFA3 Tryz.prog 93 260 v107n37 5) fun v108n38 =>
 insB (evLoad3 Tryz.prog 3 v108n38) fun v109n39 =>
 optK (q_add Tryz.prog 3 v109n39 (Value.int .i64 1)) fun v110n40 =>
 optK (nil2 a0) fun v111n41 =>
 optK (evFA3 Tryz.prog 93 260 v111n41 5) fun v112n42 =>
 insB (evStore3 Tryz.prog 3 v112n42 v110n40) fun u43 =>
 outK [])) (
 optK (q_eql Tryz.prog 3 v21n12 (Value.int .i64 1)) fun v77n44 =>
 ifV v77n44 (
 optK (nil2 a0) fun v79n45 =>
 optK (evFA3 Tryz.prog 93 0 v79n45 0) fun v80n46 =>
 insB (evLoad3 Tryz.prog 9 v80n46) fun v81n47 =>
 optK (index3 Tryz.prog 9 v81n47 v15n8) fun v83n48 =>
 optK (nil2 a0) fun v85n49 =>
 optK (evFA3 Tryz.prog 93 257 v85n49 2) fun v86n50 =>
 insB (evLoad3 Tryz.prog 91 v86n50) fun v87n51 =>
 optK (nil2 a0) fun v90n52 =>
 optK (evFA3 Tryz.prog 93 1 v90n52 1) fun v91n53 =>
 optK (evIAP3 Tryz.prog 90 256 1 v91n53 v83n48) fun v92n54 =>
 insB (evLoad3 Tryz.prog 3 v92n54) fun v93n55 =>
 optK (evIA3 Tryz.prog 91 1 v87n51 v93n55) fun v95n56 =>
 insB (evStore3 Tryz.prog 3 v95n56 v15n8) fun u57 =>
 optK (nil2 a0) fun v98n58 =>
 optK (evFA3 Tryz.prog 93 1 v98n58 1) fun v99n59 =>
 optK (evIAP3 Tryz.prog 90 256 1 v99n59 v83n48) fun v100n60 =>
 insB (evLoad3 Tryz.prog 3 v100n60) fun v101n61 =>
 optK (q_add Tryz.prog 3 v101n61 (Value.int .i64 1)) fun v102n62 =>
 optK (nil2 a0) fun v103n63 =>
 optK (evFA3 Tryz.prog 93 1 v103n63 1) fun v104n64 =>
 optK (evIAP3 Tryz.prog 90 256 1 v104n64 v83n48) fun v105n65 =>
 insB (evStore3 Tryz.prog 3 v105n65 v102n62) fun u66 =>
 optK (nil2 a0) fun v107n67 =>
 optK (evFA3 Tryz.prog 93 260 v107n67 5) fun v108n68 =>
 insB (evLoad3 Tryz.prog 3 v108n68) fun v109n69 =>
 optK (q_add Tryz.prog 3 v109n69 (Value.int .i64 1)) fun v110n70 =>
 optK (nil2 a0) fun v111n71 =>
 optK (evFA3 Tryz.prog 93 260 v111n71 5) fun v112n72 =>
 insB (evStore3 Tryz.prog 3 v112n72 v110n70) fun u73 =>
 outK []) (
 optK (nil2 a0) fun v24n74 =>
 optK (evFA3 Tryz.prog 93 257 v24n74 2) fun v25n75 =>
 insB (evLoad3 Tryz.prog 91 v25n75) fun v26n76 =>
 optK (nil2 a0) fun v28n77 =>
 optK (evFA3 Tryz.prog 93 258 v28n77 3) fun v29n78 =>
 insB (evLoad3 Tryz.prog 3 v29n78) fun v30n79 =>
 optK (evIA3 Tryz.prog 91 1 v26n76 v30n79) fun v31n80 =>
 insB (evLoad3 Tryz.prog 3 v31n80) fun v32n81 =>
 optK (nil2 a0) fun v33n82 =>
 optK (evFA3 Tryz.prog 93 258 v33n82 3) fun v34n83 =>
 insB (evStore3 Tryz.prog 3 v34n83 v32n81) fun u84 =>
 optK (nil2 a0) fun v37n85 =>
 optK (evFA3 Tryz.prog 93 259 v37n85 4) fun v38n86 =>
 insB (evLoad3 Tryz.prog 58 v38n86) fun v39n87 =>
 optK (nil2 a0) fun v41n88 =>
 optK (evFA3 Tryz.prog 93 0 v41n88 0) fun v42n89 =>
 insB (evLoad3 Tryz.prog 9 v42n89) fun v43n90 =>
 optK (nil2 a0) fun v45n91 =>
 optK (evFA3 Tryz.prog 93 258 v45n91 3) fun v46n92 =>
 insB (evLoad3 Tryz.prog 3 v46n92) fun v47n93 =>
 optK (index3 Tryz.prog 9 v43n90 v47n93) fun v48n94 =>
 insB (evBS3 Tryz.prog 58 1 [(0, v48n94)]) fun v49n95 =>
 insB (evAppend3 Tryz.prog 58 v39n87 v49n95) fun v50n96 =>
 optK (nil2 a0) fun v51n97 =>
 optK (evFA3 Tryz.prog 93 259 v51n97 4) fun v52n98 =>
 insB (evStore3 Tryz.prog 58 v52n98 v50n96) fun u99 =>
 optK (nil2 a0) fun v107n100 =>
 optK (evFA3 Tryz.prog 93 260 v107n100 5) fun v108n101 =>
 insB (evLoad3 Tryz.prog 3 v108n101) fun v109n102 =>
 optK (q_add Tryz.prog 3 v109n102 (Value.int .i64 1)) fun v110n103 =>
 optK (nil2 a0) fun v111n104 =>
 optK (evFA3 Tryz.prog 93 260 v111n104 5) fun v112n105 =>
 insB (evStore3 Tryz.prog 3 v112n105 v110n103) fun u106 =>
 outK []))
theorem fsh_unbwt_Inverter_step (lf d : Nat) (a0 : Value) : inside (F_unbwt_Inverter_step lf d (evC lf d) a0) = evC lf (d + 1) 106 #[a0] := by
  unfold F_unbwt_Inverter_step; (try simp only [clash3_eq, evAppend3_eq, evBS3_eq, evFA3_eq (P := Tryz.prog) gf93f0, evFA3_eq (P := Tryz.prog) gf93f1, evFA3_eq (P := Tryz.prog) gf93f2, evFA3_eq (P := Tryz.prog) gf93f3, evFA3_eq (P := Tryz.prog) gf93f4, evFA3_eq (P := Tryz.prog) gf93f5, evIA3_eq (P := Tryz.prog) Tryz.underlying91 gs3, evIAP3_eq (P := Tryz.prog) Tryz.underlying90 gs3, evLoad3_eq (P := Tryz.prog) ga3, evLoad3_eq (P := Tryz.prog) ga58, evLoad3_eq (P := Tryz.prog) ga9, evLoad3_eq (P := Tryz.prog) ga91, evStore3_eq (P := Tryz.prog) gs3, evStore3_eq (P := Tryz.prog) gs58, index3_eq (P := Tryz.prog) Tryz.underlying9, insB_eq, q_add_eq (P := Tryz.prog) nf3, q_eql_eq (P := Tryz.prog) nf3, q_quo_eq (P := Tryz.prog) nf3, q_rem_eq (P := Tryz.prog) nf3, q_sub_eq (P := Tryz.prog) nf3]); kernel_rfl

/- feed_Unpacker_Wants -/
noncomputable def F_feed_Unpacker_Wants (lf d : Nat) (rec : FuncId → Array Value → M Value) (a0 : Value) : M Value :=
 optK (qP_neq Tryz.prog 66 a0 (Value.pointer none)) fun v4n1 =>
 ifV v4n1 (
 optK (nil2 a0) fun v7n2 =>
 optK (evFA3 Tryz.prog 147 0 v7n2 0) fun v8n3 =>
 optK (evFA3 Tryz.prog 106 1 v8n3 1) fun v9n4 =>
 insB (evLoad3 Tryz.prog 3 v9n4) fun v10n5 =>
 optK (q_eql Tryz.prog 3 v10n5 (Value.int .i64 4)) fun v11n6 =>
 outK [v11n6]) (
 outK [(Value.bool false)])
theorem fsh_feed_Unpacker_Wants (lf d : Nat) (a0 : Value) : inside (F_feed_Unpacker_Wants lf d (evC lf d) a0) = evC lf (d + 1) 107 #[a0] := by
  unfold F_feed_Unpacker_Wants; (try simp only [clash3_eq, evFA3_eq (P := Tryz.prog) gf106f1, evFA3_eq (P := Tryz.prog) gf147f0, evLoad3_eq (P := Tryz.prog) ga3, insB_eq, qP_neq_eq (P := Tryz.prog) Tryz.underlying66, q_eql_eq (P := Tryz.prog) nf3]); kernel_rfl

/- crc_Sum_Put -/
noncomputable def F_crc_Sum_Put (lf d : Nat) (rec : FuncId → Array Value → M Value) (a0 : Value) (a1 : Value) : M Value :=
 optK (qP_neq Tryz.prog 67 a0 (Value.pointer none)) fun v5n1 =>
 ifV v5n1 (
 optK (nil2 a0) fun v8n2 =>
 optK (evFA3 Tryz.prog 153 0 v8n2 0) fun v9n3 =>
 optK (nil2 a0) fun v11n4 =>
 optK (evFA3 Tryz.prog 153 256 v11n4 1) fun v12n5 =>
 insB (evLoad3 Tryz.prog 62 v12n5) fun v13n6 =>
 (inside (rec 137 #[v9n3, v13n6, a1])).bind fun v15n7 =>
 optK (nil2 a0) fun v16n8 =>
 optK (evFA3 Tryz.prog 153 256 v16n8 1) fun v17n9 =>
 insB (evStore3 Tryz.prog 62 v17n9 v15n7) fun u10 =>
 outK []) (
 outK [])
theorem fsh_crc_Sum_Put (lf d : Nat) (a0 : Value) (a1 : Value) : inside (F_crc_Sum_Put lf d (evC lf d) a0 a1) = evC lf (d + 1) 109 #[a0, a1] := by
  unfold F_crc_Sum_Put; (try simp only [clash3_eq, evFA3_eq (P := Tryz.prog) gf153f0, evFA3_eq (P := Tryz.prog) gf153f1, evLoad3_eq (P := Tryz.prog) ga62, evStore3_eq (P := Tryz.prog) gs62, insB_eq, qP_neq_eq (P := Tryz.prog) Tryz.underlying67]); kernel_rfl

/- feed_Unpacker_End -/
noncomputable def F_feed_Unpacker_End (lf d : Nat) (rec : FuncId → Array Value → M Value) (a0 : Value) : M Value :=
 optK (qP_eql Tryz.prog 66 a0 (Value.pointer none)) fun v5n1 =>
 ifV v5n1 (
 outK [(Value.int .i64 7)]) (
 (inside (rec 107 #[a0])).bind fun v8n2 =>
 ifV v8n2 (
 outK [(Value.int .i64 24)]) (
 insB (evBuildZ Tryz.prog 106 [Value.int .u8 0, Value.int .i64 0] []) fun v10n3 =>
 optK (nil2 a0) fun v11n4 =>
 optK (evFA3 Tryz.prog 147 0 v11n4 0) fun v12n5 =>
 insB (evStoreA3 Tryz.prog 106 2 v12n5 v10n3) fun u6 =>
 outK [(Value.int .i64 0)]))
theorem fsh_feed_Unpacker_End (lf d : Nat) (a0 : Value) : inside (F_feed_Unpacker_End lf d (evC lf d) a0) = evC lf (d + 1) 110 #[a0] := by
  unfold F_feed_Unpacker_End; (try simp only [bz106, clash3_eq, evFA3_eq (P := Tryz.prog) gf147f0, evStoreA3_eq (P := Tryz.prog) gs106, insB_eq, qP_eql_eq (P := Tryz.prog) Tryz.underlying66]); kernel_rfl

/- crc_Sum_Value -/
noncomputable def F_crc_Sum_Value (lf d : Nat) (rec : FuncId → Array Value → M Value) (a0 : Value) : M Value :=
 optK (qP_eql Tryz.prog 67 a0 (Value.pointer none)) fun v4n1 =>
 ifV v4n1 (
 outK [(Value.int .u32 0)]) (
 optK (nil2 a0) fun v6n2 =>
 optK (evFA3 Tryz.prog 153 256 v6n2 1) fun v7n3 =>
 insB (evLoad3 Tryz.prog 62 v7n3) fun v8n4 =>
 optK (un3 Tryz.prog .xor v8n4) fun v9n5 =>
 outK [v9n5])
theorem fsh_crc_Sum_Value (lf d : Nat) (a0 : Value) : inside (F_crc_Sum_Value lf d (evC lf d) a0) = evC lf (d + 1) 111 #[a0] := by
  unfold F_crc_Sum_Value; (try simp only [clash3_eq, evFA3_eq (P := Tryz.prog) gf153f1, evLoad3_eq (P := Tryz.prog) ga62, insB_eq, qP_eql_eq (P := Tryz.prog) Tryz.underlying67, un3_eq]); kernel_rfl

/- unstream_Reader_letter -/
noncomputable def F_unstream_Reader_letter (lf d : Nat) (rec : FuncId → Array Value → M Value) (a0 : Value) (a1 : Value) : M Value :=
 (inside (rec 138 #[a1, (Value.int .i64 8)])).bind fun v9n1 =>
 optK (evExtract v9n1 0) fun v10n2 =>
 optK (evExtract v9n1 1) fun v11n3 =>
 optK (q_neq Tryz.prog 27 v11n3 (Value.int .i64 0)) fun v14n4 =>
 ifV v14n4 (
 outK [v11n3]) (
 optK (nil2 a0) fun v18n5 =>
 optK (evFA3 Tryz.prog 87 2 v18n5 2) fun v19n6 =>
 insB (evLoad3 Tryz.prog 3 v19n6) fun v20n7 =>
 optK (q_lss Tryz.prog 3 v20n7 (Value.int .i64 3)) fun v21n8 =>
 ifV v21n8 (
 optK (nil2 a0) fun v24n9 =>
 optK (evFA3 Tryz.prog 87 2 v24n9 2) fun v25n10 =>
 insB (evLoad3 Tryz.prog 3 v25n10) fun v26n11 =>
 optK (index3 Tryz.prog 9 (Value.string { data := #[66, 90, 104] }) v26n11) fun v27n12 =>
 conv3 Tryz.prog 5 62 .u8 .u32 v27n12 fun v28n13 =>
 optK (q_neq Tryz.prog 62 v10n2 v28n13) fun v29n14 =>
 ifV v29n14 (
 outK [(Value.int .i64 20)]) (
 optK (nil2 a0) fun v31n15 =>
 optK (evFA3 Tryz.prog 87 2 v31n15 2) fun v32n16 =>
 insB (evLoad3 Tryz.prog 3 v32n16) fun v33n17 =>
 optK (q_add Tryz.prog 3 v33n17 (Value.int .i64 1)) fun v34n18 =>
 optK (nil2 a0) fun v35n19 =>
 optK (evFA3 Tryz.prog 87 2 v35n19 2) fun v36n20 =>
 insB (evStore3 Tryz.prog 3 v36n20 v34n18) fun u21 =>
 outK [(Value.int .i64 0)])) (
 optK (q_lss Tryz.prog 62 v10n2 (Value.int .u32 49)) fun v39n22 =>
 ifV v39n22 (
 outK [(Value.int .i64 20)]) (
 optK (q_gtr Tryz.prog 62 v10n2 (Value.int .u32 57)) fun v42n23 =>
 ifV v42n23 (
 outK [(Value.int .i64 20)]) (
 optK (q_sub Tryz.prog 62 v10n2 (Value.int .u32 48)) fun v46n24 =>
 conv3 Tryz.prog 62 3 .u32 .i64 v46n24 fun v47n25 =>
 optK (nil2 a0) fun v48n26 =>
 optK (evFA3 Tryz.prog 87 3 v48n26 3) fun v49n27 =>
 insB (evStore3 Tryz.prog 3 v49n27 v47n25) fun u28 =>
 optK (nil2 a0) fun v51n29 =>
 optK (evFA3 Tryz.prog 87 2 v51n29 2) fun v52n30 =>
 insB (evStore3 Tryz.prog 3 v52n30 (Value.int .i64 0)) fun u31 =>
 optK (nil2 a0) fun v54n32 =>
 optK (evFA3 Tryz.prog 87 8 v54n32 6) fun v55n33 =>
 insB (evStore3 Tryz.prog 62 v55n33 (Value.int .u32 0)) fun u34 =>
 optK (nil2 a0) fun v57n35 =>
 optK (evFA3 Tryz.prog 87 1 v57n35 1) fun v58n36 =>
 insB (evStore3 Tryz.prog 84 v58n36 (Value.int .i64 1)) fun u37 =>
 outK [(Value.int .i64 0)]))))
theorem fsh_unstream_Reader_letter (lf d : Nat) (a0 : Value) (a1 : Value) : inside (F_unstream_Reader_letter lf d (evC lf d) a0 a1) = evC lf (d + 1) 112 #[a0, a1] := by
  unfold F_unstream_Reader_letter; (try simp only [clash3_eq, conv3_eq cw5x62, conv3_eq cw62x3, evFA3_eq (P := Tryz.prog) gf87f1, evFA3_eq (P := Tryz.prog) gf87f2, evFA3_eq (P := Tryz.prog) gf87f3, evFA3_eq (P := Tryz.prog) gf87f6, evLoad3_eq (P := Tryz.prog) ga3, evStore3_eq (P := Tryz.prog) gs3, evStore3_eq (P := Tryz.prog) gs62, evStore3_eq (P := Tryz.prog) gs84, index3_eq (P := Tryz.prog) Tryz.underlying9, insB_eq, q_add_eq (P := Tryz.prog) nf3, q_gtr_eq (P := Tryz.prog) nf62, q_lss_eq (P := Tryz.prog) nf3, q_lss_eq (P := Tryz.prog) nf62, q_neq_eq (P := Tryz.prog) nf27, q_neq_eq (P := Tryz.prog) nf62, q_sub_eq (P := Tryz.prog) nf62]); kernel_rfl

/- unstream_Reader_magic -/
noncomputable def F_unstream_Reader_magic (lf d : Nat) (rec : FuncId → Array Value → M Value) (a0 : Value) (a1 : Value) : M Value :=
 (inside (rec 68 #[a1])).bind fun v12n1 =>
 optK (q_lss Tryz.prog 3 v12n1 (Value.int .i64 48)) fun v13n2 =>
 ifV v13n2 (
 outK [(Value.int .i64 3)]) (
 (inside (rec 138 #[a1, (Value.int .i64 24)])).bind fun v16n3 =>
 optK (evExtract v16n3 0) fun v17n4 =>
 optK (evExtract v16n3 1) fun v18n5 =>
 (inside (rec 138 #[a1, (Value.int .i64 24)])).bind fun v21n6 =>
 optK (evExtract v21n6 0) fun v22n7 =>
 optK (evExtract v21n6 1) fun v23n8 =>
 conv3 Tryz.prog 62 187 .u32 .u64 v17n4 fun v25n9 =>
 optK (q_shl Tryz.prog 187 v25n9 (Value.int .u64 24)) fun v26n10 =>
 conv3 Tryz.prog 62 187 .u32 .u64 v22n7 fun v28n11 =>
 optK (q_or Tryz.prog 187 v26n10 v28n11) fun v29n12 =>
 optK (q_eql Tryz.prog 187 v29n12 (Value.int .u64 54156738319193)) fun v31n13 =>
 ifV v31n13 (
 optK (nil2 a0) fun v34n14 =>
 optK (evFA3 Tryz.prog 87 3 v34n14 3) fun v35n15 =>
 insB (evLoad3 Tryz.prog 3 v35n15) fun v36n16 =>
 optK (nil2 a0) fun v38n17 =>
 optK (evFA3 Tryz.prog 87 0 v38n17 0) fun v39n18 =>
 insB (evLoad3 Tryz.prog 3 v39n18) fun v40n19 =>
 optK (q_mul Tryz.prog 3 v36n16 v40n19) fun v41n20 =>
 (inside (rec 139 #[v41n20])).bind fun v42n21 =>
 optK (evExtract v42n21 0) fun v43n22 =>
 optK (evExtract v42n21 1) fun v44n23 =>
 optK (nil2 a0) fun v47n24 =>
 optK (evFA3 Tryz.prog 87 4 v47n24 4) fun v48n25 =>
 insB (evStore3 Tryz.prog 85 v48n25 v43n22) fun u26 =>
 optK (nil2 a0) fun v50n27 =>
 optK (evFA3 Tryz.prog 87 1 v50n27 1) fun v51n28 =>
 insB (evStore3 Tryz.prog 84 v51n28 (Value.int .i64 2)) fun u29 =>
 outK [v44n23]) (
 optK (q_eql Tryz.prog 187 v29n12 (Value.int .u64 25779555029136)) fun v54n30 =>
 ifV v54n30 (
 optK (nil2 a0) fun v56n31 =>
 optK (evFA3 Tryz.prog 87 1 v56n31 1) fun v57n32 =>
 insB (evStore3 Tryz.prog 84 v57n32 (Value.int .i64 3)) fun u33 =>
 outK [(Value.int .i64 0)]) (
 outK [(Value.int .i64 20)])))
theorem fsh_unstream_Reader_magic (lf d : Nat) (a0 : Value) (a1 : Value) : inside (F_unstream_Reader_magic lf d (evC lf d) a0 a1) = evC lf (d + 1) 113 #[a0, a1] := by
  unfold F_unstream_Reader_magic; (try simp only [clash3_eq, conv3_eq cw62x187, evFA3_eq (P := Tryz.prog) gf87f0, evFA3_eq (P := Tryz.prog) gf87f1, evFA3_eq (P := Tryz.prog) gf87f3, evFA3_eq (P := Tryz.prog) gf87f4, evLoad3_eq (P := Tryz.prog) ga3, evStore3_eq (P := Tryz.prog) gs84, evStore3_eq (P := Tryz.prog) gs85, insB_eq, q_eql_eq (P := Tryz.prog) nf187, q_lss_eq (P := Tryz.prog) nf3, q_mul_eq (P := Tryz.prog) nf3, q_or_eq (P := Tryz.prog) nf187, q_shl_eq (P := Tryz.prog) nf187]); kernel_rfl

/- unstream_Reader_body -/
noncomputable def F_unstream_Reader_body (lf d : Nat) (rec : FuncId → Array Value → M Value) (a0 : Value) (a1 : Value) : M Value :=
 optK (nil2 a0) fun v8n1 =>
 optK (evFA3 Tryz.prog 87 4 v8n1 4) fun v9n2 =>
 insB (evLoad3 Tryz.prog 85 v9n2) fun v10n3 =>
 (inside (rec 140 #[v10n3, a1])).bind fun v12n4 =>
 optK (q_neq Tryz.prog 27 v12n4 (Value.int .i64 0)) fun v14n5 =>
 ifV v14n5 (
 outK [(Value.int .i64 0), v12n4]) (
 optK (nil2 a0) fun v17n6 =>
 optK (evFA3 Tryz.prog 87 4 v17n6 4) fun v18n7 =>
 insB (evLoad3 Tryz.prog 85 v18n7) fun v19n8 =>
 (inside (rec 141 #[v19n8])).bind fun v20n9 =>
 optK (un3 Tryz.prog .not v20n9) fun v21n10 =>
 ifV v21n10 (
 outK [(Value.int .i64 0), v12n4]) (
 optK (nil2 a0) fun v26n11 =>
 optK (evFA3 Tryz.prog 87 4 v26n11 4) fun v27n12 =>
 insB (evLoad3 Tryz.prog 85 v27n12) fun v28n13 =>
 (inside (rec 142 #[v28n13])).bind fun v29n14 =>
 optK (nil2 a0) fun v30n15 =>
 optK (evFA3 Tryz.prog 87 5 v30n15 5) fun v31n16 =>
 insB (evStoreA3 Tryz.prog 64 3 v31n16 v29n14) fun u17 =>
 optK (nil2 a0) fun v33n18 =>
 optK (evFA3 Tryz.prog 87 4 v33n18 4) fun v34n19 =>
 insB (evStore3 Tryz.prog 85 v34n19 (Value.pointer none)) fun u20 =>
 optK (nil2 a0) fun v37n21 =>
 optK (evFA3 Tryz.prog 87 8 v37n21 6) fun v38n22 =>
 insB (evLoad3 Tryz.prog 62 v38n22) fun v39n23 =>
 optK (nil2 a0) fun v41n24 =>
 optK (evFA3 Tryz.prog 87 5 v41n24 5) fun v42n25 =>
 optK (evFA3 Tryz.prog 64 2 v42n25 2) fun v43n26 =>
 insB (evLoad3 Tryz.prog 62 v43n26) fun v44n27 =>
 (inside (rec 143 #[v39n23, v44n27])).bind fun v45n28 =>
 optK (nil2 a0) fun v46n29 =>
 optK (evFA3 Tryz.prog 87 8 v46n29 6) fun v47n30 =>
 insB (evStore3 Tryz.prog 62 v47n30 v45n28) fun u31 =>
 optK (nil2 a0) fun v49n32 =>
 optK (evFA3 Tryz.prog 87 1 v49n32 1) fun v50n33 =>
 insB (evStore3 Tryz.prog 84 v50n33 (Value.int .i64 1)) fun u34 =>
 outK [(Value.int .i64 1), (Value.int .i64 0)]))
theorem fsh_unstream_Reader_body (lf d : Nat) (a0 : Value) (a1 : Value) : inside (F_unstream_Reader_body lf d (evC lf d) a0 a1) = evC lf (d + 1) 114 #[a0, a1] := by
  unfold F_unstream_Reader_body; (try simp only [clash3_eq, evFA3_eq (P := Tryz.prog) gf64f2, evFA3_eq (P := Tryz.prog) gf87f1, evFA3_eq (P := Tryz.prog) gf87f4, evFA3_eq (P := Tryz.prog) gf87f5, evFA3_eq (P := Tryz.prog) gf87f6, evLoad3_eq (P := Tryz.prog) ga62, evLoad3_eq (P := Tryz.prog) ga85, evStore3_eq (P := Tryz.prog) gs62, evStore3_eq (P := Tryz.prog) gs84, evStore3_eq (P := Tryz.prog) gs85, evStoreA3_eq (P := Tryz.prog) gs64, insB_eq, q_neq_eq (P := Tryz.prog) nf27, un3_eq]); kernel_rfl

/- unstream_Reader_sum -/
noncomputable def F_unstream_Reader_sum (lf d : Nat) (rec : FuncId → Array Value → M Value) (a0 : Value) (a1 : Value) : M Value :=
 (inside (rec 138 #[a1, (Value.int .i64 32)])).bind fun v10n1 =>
 optK (evExtract v10n1 0) fun v11n2 =>
 optK (evExtract v10n1 1) fun v12n3 =>
 optK (q_neq Tryz.prog 27 v12n3 (Value.int .i64 0)) fun v15n4 =>
 ifV v15n4 (
 outK [(Value.int .i64 0), v12n3]) (
 optK (nil2 a0) fun v20n5 =>
 optK (evFA3 Tryz.prog 87 8 v20n5 6) fun v21n6 =>
 insB (evLoad3 Tryz.prog 62 v21n6) fun v22n7 =>
 optK (q_neq Tryz.prog 62 v11n2 v22n7) fun v23n8 =>
 ifV v23n8 (
 outK [(Value.int .i64 0), (Value.int .i64 21)]) (
 (inside (rec 144 #[a1])).bind fun v25n9 =>
 optK (nil2 a0) fun v27n10 =>
 optK (evFA3 Tryz.prog 87 1 v27n10 1) fun v28n11 =>
 insB (evStore3 Tryz.prog 84 v28n11 (Value.int .i64 0)) fun u12 =>
 optK (nil2 a0) fun v30n13 =>
 optK (evFA3 Tryz.prog 87 9 v30n13 7) fun v31n14 =>
 insB (evStore3 Tryz.prog 4 v31n14 (Value.bool true)) fun u15 =>
 outK [(Value.int .i64 2), (Value.int .i64 0)]))
theorem fsh_unstream_Reader_sum (lf d : Nat) (a0 : Value) (a1 : Value) : inside (F_unstream_Reader_sum lf d (evC lf d) a0 a1) = evC lf (d + 1) 115 #[a0, a1] := by
  unfold F_unstream_Reader_sum; (try simp only [clash3_eq, evFA3_eq (P := Tryz.prog) gf87f1, evFA3_eq (P := Tryz.prog) gf87f6, evFA3_eq (P := Tryz.prog) gf87f7, evLoad3_eq (P := Tryz.prog) ga62, evStore3_eq (P := Tryz.prog) gs4, evStore3_eq (P := Tryz.prog) gs84, insB_eq, q_neq_eq (P := Tryz.prog) nf27, q_neq_eq (P := Tryz.prog) nf62]); kernel_rfl

/- crc_Table -/
noncomputable def lpA_crc_Table (lf d fu : Nat) (k : Ex → Fr → M Value) (x0 : Value) (x1 : Value) (x5 : Value) : M Value := loopK (fun s1 k1 => codeK Tryz.prog (evC lf d) (gtA 116) lf (codeAt (bodyOf Tryz.prog 116) [true, true, false, true, false, false]) s1 k1) [0, 1, 5] fu [(0, x0), (1, x1), (5, x5)] k
noncomputable def kcA_crc_Table (lf d : Nat) : Ex → Fr → M Value := contAt Tryz.prog (evC lf d) (gtA 116) lf (bodyOf Tryz.prog 116) [true, true, false, true, false] (endK Tryz.prog (resOf Tryz.prog 116))
noncomputable def lpB_crc_Table (lf d fu : Nat) (k : Ex → Fr → M Value) (x0 : Value) (x1 : Value) (x2 : Value) (x3 : Value) (x5 : Value) (x6 : Value) (x11 : Value) : M Value := loopK (fun s1 k1 => codeK Tryz.prog (evC lf d) (gtA 116) lf (codeAt (bodyOf Tryz.prog 116) [true, true, false, true, false, false, true, true, false, false, true, true, false, true, false, false]) s1 k1) [0, 1, 2, 3, 5, 6, 11] fu [(0, x0), (1, x1), (2, x2), (3, x3), (5, x5), (6, x6), (11, x11)] k
noncomputable def kcB_crc_Table (lf d fu : Nat) (k : Ex → Fr → M Value) : Ex → Fr → M Value := contAt Tryz.prog (evC lf d) (gtA 116) lf (codeAt (bodyOf Tryz.prog 116) [true, true, false, true, false, false]) [true, true, false, false, true, true, false, true, false] (againK (fun s1 => loopK (fun s1 k1 => codeK Tryz.prog (evC lf d) (gtA 116) lf (codeAt (bodyOf Tryz.prog 116) [true, true, false, true, false, false]) s1 k1) [0, 1, 5] fu (s1.keep [0, 1, 5]) k) k)
noncomputable def KA_crc_Table (lf d : Nat) (rec : FuncId → Array Value → M Value) (dflt : Ex → Fr → M Value) : Ex → Fr → M Value := (kEx 0 (runCur [0, 1, 5, 6] (fun y0 y1 y5 y6 =>
 insB (evLoadA3 Tryz.prog 150 256 y1) fun v25n6 =>
 insB (evStoreA3 Tryz.prog 150 256 y0 v25n6) fun u7 =>
 (evLoad Tryz.prog 150 y0).bind fun vrn8 =>
 outK [vrn8]) (dflt (Ex.exit 0))) dflt)
noncomputable def LB_crc_Table (lf d : Nat) (rec : FuncId → Array Value → M Value) (k : Ex → Fr → M Value) : Nat → Value → Value → Value → Value → Value → Value → Value → M Value
 | 0, _, _, _, _, _, _, _ => M.fail
 | fu + 1, x0, x1, x2, x3, x5, x6, x11 =>
 optK (q_lss Tryz.prog 3 x11 (Value.int .i64 8)) fun v12n9 =>
 ifV v12n9 (
 optK (q_shr Tryz.prog 62 x3 (Value.int .u64 31)) fun v14n10 =>
 optK (q_shl Tryz.prog 62 x3 (Value.int .u64 1)) fun v16n11 =>
 optK (q_mul Tryz.prog 62 v14n10 (Value.int .u32 79764919)) fun v18n12 =>
 optK (q_xor Tryz.prog 62 v16n11 v18n12) fun v19n13 =>
 optK (q_add Tryz.prog 3 x11 (Value.int .i64 1)) fun v20n14 =>
 LB_crc_Table lf d rec k fu x0 x1 x2 v19n13 x5 x6 v20n14) (
 k (Ex.exit 2) [(0, x0), (1, x1), (2, x2), (3, x3), (5, x5), (6, x6), (11, x11), (12, v12n9)])
noncomputable def KB_crc_Table (lf d : Nat) (rec : FuncId → Array Value → M Value) (fu : Nat) (k : Ex → Fr → M Value) (again : Value → Value → Value → M Value) (dflt : Ex → Fr → M Value) : Ex → Fr → M Value := (kEx 2 (runCur [0, 1, 2, 3, 5, 6, 11, 12] (fun y0 y1 y2 y3 y5 y6 y11 y12 =>
 optK (evIAP3 Tryz.prog 150 256 1 y1 y2) fun v23n15 =>
 insB (evStore3 Tryz.prog 62 v23n15 y3) fun u16 =>
 optK (q_add Tryz.prog 3 y5 (Value.int .i64 1)) fun v24n17 =>
 again y0 y1 v24n17) (dflt (Ex.exit 2))) dflt)
noncomputable def LA_crc_Table (lf d : Nat) (rec : FuncId → Array Value → M Value) (k : Ex → Fr → M Value) : Nat → Value → Value → Value → M Value
 | 0, _, _, _ => M.fail
 | fu + 1, x0, x1, x5 =>
 optK (q_lss Tryz.prog 3 x5 (Value.int .i64 256)) fun v6n3 =>
 ifV v6n3 (
 conv3 Tryz.prog 3 62 .i64 .u32 x5 fun v9n4 =>
 optK (q_shl Tryz.prog 62 v9n4 (Value.int .u64 24)) fun v10n5 =>
 LB_crc_Table lf d rec (KB_crc_Table lf d rec fu k (LA_crc_Table lf d rec k fu) (kcB_crc_Table lf d fu k)) lf x0 x1 x5 v10n5 x5 v6n3 (Value.int .i64 0)) (
 k (Ex.exit 0) [(0, x0), (1, x1), (5, x5), (6, v6n3)])
noncomputable def F_crc_Table (lf d : Nat) (rec : FuncId → Array Value → M Value) : M Value :=
 insB (evAllocZ 150 (repV (Value.int .u32 0) 256)) fun v0n1 =>
 insB (evAllocZ 150 (repV (Value.int .u32 0) 256)) fun v1n2 =>
 LA_crc_Table lf d rec (KA_crc_Table lf d rec (kcA_crc_Table lf d)) lf v0n1 v1n2 (Value.int .i64 0)
set_option maxRecDepth 20000 in
theorem KQA_crc_Table (lf d : Nat) : KA_crc_Table lf d (evC lf d) (kcA_crc_Table lf d) = kcA_crc_Table lf d := by
  unfold KA_crc_Table
  refine Eq.trans (kEx_eq ?_) ?_
  · exact (runCur_eq _ _ _ (by intro y0 y1 y5 y6; show _ = _; (try simp only [clash3_eq, evLoadA3_eq (P := Tryz.prog) ga150 gs150, evStoreA3_eq (P := Tryz.prog) gs150, insB_eq]); kernel_rfl))
  rfl
theorem LQB_crc_Table (lf d : Nat) (k : Ex → Fr → M Value) : ∀ fu : Nat, LB_crc_Table lf d (evC lf d) k fu = lpB_crc_Table lf d fu k
  | 0 => by funext x0 x1 x2 x3 x5 x6 x11; kernel_rfl
  | fu + 1 => by
    have ih := LQB_crc_Table lf d k fu
    funext x0 x1 x2 x3 x5 x6 x11; simp only [LB_crc_Table, ih, clash3_eq, insB_eq, q_add_eq (P := Tryz.prog) nf3, q_lss_eq (P := Tryz.prog) nf3, q_mul_eq (P := Tryz.prog) nf62, q_shl_eq (P := Tryz.prog) nf62, q_shr_eq (P := Tryz.prog) nf62, q_xor_eq (P := Tryz.prog) nf62]; kernel_rfl
set_option maxRecDepth 20000 in
theorem KQB_crc_Table (lf d fu : Nat) (k : Ex → Fr → M Value) (again : Value → Value → Value → M Value) (ha : again = lpA_crc_Table lf d fu k) : KB_crc_Table lf d (evC lf d) fu k again (kcB_crc_Table lf d fu k) = kcB_crc_Table lf d fu k := by
  subst ha
  unfold KB_crc_Table
  refine Eq.trans (kEx_eq ?_) ?_
  · exact (runCur_eq _ _ _ (by intro y0 y1 y2 y3 y5 y6 y11 y12; show _ = _; (try simp only [clash3_eq, evIAP3_eq (P := Tryz.prog) Tryz.underlying150 gs62, evStore3_eq (P := Tryz.prog) gs62, insB_eq, q_add_eq (P := Tryz.prog) nf3]); kernel_rfl))
  rfl
theorem LQA_crc_Table (lf d : Nat) (k : Ex → Fr → M Value) : ∀ fu : Nat, LA_crc_Table lf d (evC lf d) k fu = lpA_crc_Table lf d fu k
  | 0 => by funext x0 x1 x5; kernel_rfl
  | fu + 1 => by
    have ih := LQA_crc_Table lf d k fu
    funext x0 x1 x5; simp only [LA_crc_Table, ih, KQB_crc_Table lf d fu k _ rfl, LQB_crc_Table, clash3_eq, conv3_eq cw3x62, insB_eq, q_lss_eq (P := Tryz.prog) nf3, q_shl_eq (P := Tryz.prog) nf62]; kernel_rfl
theorem fsh_crc_Table (lf d : Nat) : inside (F_crc_Table lf d (evC lf d)) = evC lf (d + 1) 116 #[] := by
  unfold F_crc_Table; (try simp only [KQA_crc_Table lf d, LQA_crc_Table, az150, clash3_eq, insB_eq]); kernel_rfl

/- balerref15_Rotation -/
noncomputable def F_balerref15_Rotation (lf d : Nat) (rec : FuncId → Array Value → M Value) (a0 : Value) (a1 : Value) : M Value :=
 slice3 Tryz.prog 9 a0 (some a1) none none fun v7n1 =>
 slice3 Tryz.prog 9 a0 none (some a1) none fun v10n2 =>
 optK (qS_add Tryz.prog 9 v7n1 v10n2) fun v11n3 =>
 outK [v11n3]
theorem fsh_balerref15_Rotation (lf d : Nat) (a0 : Value) (a1 : Value) : inside (F_balerref15_Rotation lf d (evC lf d) a0 a1) = evC lf (d + 1) 117 #[a0, a1] := by
  unfold F_balerref15_Rotation; (try simp only [clash3_eq, insB_eq, qS_add_eq (P := Tryz.prog) nf9, slice3_eq (P := Tryz.prog) Tryz.underlying9]); kernel_rfl

/- balerref15_Ahead -/
noncomputable def F_balerref15_Ahead (lf d : Nat) (rec : FuncId → Array Value → M Value) (a0 : Value) (a1 : Value) (a2 : Value) : M Value :=
 (inside (rec 117 #[a0, a1])).bind fun v11n1 =>
 (inside (rec 117 #[a0, a2])).bind fun v14n2 =>
 optK (bin2 Tryz.prog .lss 9 v11n1 v14n2) fun v17n3 =>
 ifV v17n3 (
 outK [(Value.bool true)]) (
 optK (qS_eql Tryz.prog 9 v11n1 v14n2) fun v21n4 =>
 ifV v21n4 (
 optK (q_lss Tryz.prog 3 a1 a2) fun v25n5 =>
 outK [v25n5]) (
 outK [(Value.bool false)]))
theorem fsh_balerref15_Ahead (lf d : Nat) (a0 : Value) (a1 : Value) (a2 : Value) : inside (F_balerref15_Ahead lf d (evC lf d) a0 a1 a2) = evC lf (d + 1) 118 #[a0, a1, a2] := by
  unfold F_balerref15_Ahead; (try simp only [clash3_eq, insB_eq, qS_eql_eq (P := Tryz.prog) nf9, q_lss_eq (P := Tryz.prog) nf3]); kernel_rfl

/- balerref05_There -/
noncomputable def lpA_balerref05_There (lf d fu : Nat) (k : Ex → Fr → M Value) (x0 : Value) (x1 : Value) (x4 : Value) (x5 : Value) : M Value := loopK (fun s1 k1 => codeK Tryz.prog (evC lf d) (gtA 119) lf (codeAt (bodyOf Tryz.prog 119) [true, false, true, false, false]) s1 k1) [0, 1, 4, 5] fu [(0, x0), (1, x1), (4, x4), (5, x5)] k
noncomputable def kcA_balerref05_There (lf d : Nat) : Ex → Fr → M Value := contAt Tryz.prog (evC lf d) (gtA 119) lf (bodyOf Tryz.prog 119) [true, false, true, false] (endK Tryz.prog (resOf Tryz.prog 119))
noncomputable def LA_balerref05_There (lf d : Nat) (rec : FuncId → Array Value → M Value) (k : Ex → Fr → M Value) : Nat → Value → Value → Value → Value → M Value
 | 0, _, _, _, _ => M.fail
 | fu + 1, x0, x1, x4, x5 =>
 optK (len2 Tryz.prog #[9] [x0]) fun v8n1 =>
 optK (q_lss Tryz.prog 3 x5 v8n1) fun v9n2 =>
 ifV v9n2 (
 optK (index3 Tryz.prog 9 x0 x5) fun v14n3 =>
 conv3 Tryz.prog 5 3 .u8 .i64 v14n3 fun v15n4 =>
 optK (q_eql Tryz.prog 3 v15n4 x1) fun v17n5 =>
 ifV v17n5 (
 k Ex.ret [(0, x0), (1, x1), (4, (Value.bool true)), (5, x5), (9, v9n2), (17, v17n5)]) (
 optK (q_add Tryz.prog 3 x5 (Value.int .i64 1)) fun v11n6 =>
 LA_balerref05_There lf d rec k fu x0 x1 x4 v11n6)) (
 k (Ex.exit 0) [(0, x0), (1, x1), (4, x4), (5, x5), (9, v9n2)])
noncomputable def KA_balerref05_There (lf d : Nat) (rec : FuncId → Array Value → M Value) (dflt : Ex → Fr → M Value) : Ex → Fr → M Value := (kEx 0 (runCur [0, 1, 4, 5, 9] (fun y0 y1 y4 y5 y9 =>
 outK [(Value.bool false)]) (dflt (Ex.exit 0))) (kRt (runCur [0, 1, 4, 5, 9, 17] (fun y0 y1 y4 y5 y9 y17 =>
 outK [y4]) (dflt Ex.ret)) dflt))
noncomputable def F_balerref05_There (lf d : Nat) (rec : FuncId → Array Value → M Value) (a0 : Value) (a1 : Value) : M Value :=
 LA_balerref05_There lf d rec (KA_balerref05_There lf d rec (kcA_balerref05_There lf d)) lf a0 a1 (Value.bool false) (Value.int .i64 0)
theorem LQA_balerref05_There (lf d : Nat) (k : Ex → Fr → M Value) : ∀ fu : Nat, LA_balerref05_There lf d (evC lf d) k fu = lpA_balerref05_There lf d fu k
  | 0 => by funext x0 x1 x4 x5; kernel_rfl
  | fu + 1 => by
    have ih := LQA_balerref05_There lf d k fu
    funext x0 x1 x4 x5; simp only [LA_balerref05_There, ih, clash3_eq, conv3_eq cw5x3, index3_eq (P := Tryz.prog) Tryz.underlying9, insB_eq, q_add_eq (P := Tryz.prog) nf3, q_eql_eq (P := Tryz.prog) nf3, q_lss_eq (P := Tryz.prog) nf3]; kernel_rfl
set_option maxRecDepth 20000 in
theorem KQA_balerref05_There (lf d : Nat) : KA_balerref05_There lf d (evC lf d) (kcA_balerref05_There lf d) = kcA_balerref05_There lf d := by
  unfold KA_balerref05_There
  refine Eq.trans (kEx_eq ?_) ?_
  · exact (runCur_eq _ _ _ (by intro y0 y1 y4 y5 y9; show _ = _; (try simp only [clash3_eq, insB_eq]); kernel_rfl))
  refine Eq.trans (kRt_eq ?_) ?_
  · exact (runCur_eq _ _ _ (by intro y0 y1 y4 y5 y9 y17; show _ = _; (try simp only [clash3_eq, insB_eq]); kernel_rfl))
  rfl
theorem fsh_balerref05_There (lf d : Nat) (a0 : Value) (a1 : Value) : inside (F_balerref05_There lf d (evC lf d) a0 a1) = evC lf (d + 1) 119 #[a0, a1] := by
  unfold F_balerref05_There; (try simp only [KQA_balerref05_There lf d, LQA_balerref05_There, clash3_eq, insB_eq]); kernel_rfl

/- balerref05_Is -/
noncomputable def F_balerref05_Is (lf d : Nat) (rec : FuncId → Array Value → M Value) (a0 : Value) : M Value :=
 optK (len2 Tryz.prog #[9] [a0]) fun v4n1 =>
 optK (q_gtr Tryz.prog 3 v4n1 (Value.int .i64 0)) fun v5n2 =>
 ifV v5n2 (
 (inside (rec 97 #[a0])).bind fun v8n3 =>
 optK (qS_eql Tryz.prog 9 v8n3 a0) fun v10n4 =>
 outK [v10n4]) (
 outK [(Value.bool false)])
theorem fsh_balerref05_Is (lf d : Nat) (a0 : Value) : inside (F_balerref05_Is lf d (evC lf d) a0) = evC lf (d + 1) 120 #[a0] := by
  unfold F_balerref05_Is; (try simp only [clash3_eq, insB_eq, qS_eql_eq (P := Tryz.prog) nf9, q_gtr_eq (P := Tryz.prog) nf3]); kernel_rfl

/- balerref06_Place -/
noncomputable def lpA_balerref06_Place (lf d fu : Nat) (k : Ex → Fr → M Value) (x0 : Value) (x1 : Value) (x4 : Value) (x5 : Value) : M Value := loopK (fun s1 k1 => codeK Tryz.prog (evC lf d) (gtA 121) lf (codeAt (bodyOf Tryz.prog 121) [true, false, true, false, false]) s1 k1) [0, 1, 4, 5] fu [(0, x0), (1, x1), (4, x4), (5, x5)] k
noncomputable def kcA_balerref06_Place (lf d : Nat) : Ex → Fr → M Value := contAt Tryz.prog (evC lf d) (gtA 121) lf (bodyOf Tryz.prog 121) [true, false, true, false] (endK Tryz.prog (resOf Tryz.prog 121))
noncomputable def LA_balerref06_Place (lf d : Nat) (rec : FuncId → Array Value → M Value) (k : Ex → Fr → M Value) : Nat → Value → Value → Value → Value → M Value
 | 0, _, _, _, _ => M.fail
 | fu + 1, x0, x1, x4, x5 =>
 optK (len2 Tryz.prog #[9] [x0]) fun v8n1 =>
 optK (q_lss Tryz.prog 3 x5 v8n1) fun v9n2 =>
 ifV v9n2 (
 optK (index3 Tryz.prog 9 x0 x5) fun v14n3 =>
 optK (q_eql Tryz.prog 5 v14n3 x1) fun v16n4 =>
 ifV v16n4 (
 k Ex.ret [(0, x0), (1, x1), (4, x5), (5, x5), (9, v9n2), (16, v16n4)]) (
 optK (q_add Tryz.prog 3 x5 (Value.int .i64 1)) fun v11n5 =>
 LA_balerref06_Place lf d rec k fu x0 x1 x4 v11n5)) (
 k (Ex.exit 0) [(0, x0), (1, x1), (4, x4), (5, x5), (9, v9n2)])
noncomputable def KA_balerref06_Place (lf d : Nat) (rec : FuncId → Array Value → M Value) (dflt : Ex → Fr → M Value) : Ex → Fr → M Value := (kEx 0 (runCur [0, 1, 4, 5, 9] (fun y0 y1 y4 y5 y9 =>
 outK [(Value.int .i64 (-1))]) (dflt (Ex.exit 0))) (kRt (runCur [0, 1, 4, 5, 9, 16] (fun y0 y1 y4 y5 y9 y16 =>
 outK [y4]) (dflt Ex.ret)) dflt))
noncomputable def F_balerref06_Place (lf d : Nat) (rec : FuncId → Array Value → M Value) (a0 : Value) (a1 : Value) : M Value :=
 LA_balerref06_Place lf d rec (KA_balerref06_Place lf d rec (kcA_balerref06_Place lf d)) lf a0 a1 (Value.int .i64 0) (Value.int .i64 0)
theorem LQA_balerref06_Place (lf d : Nat) (k : Ex → Fr → M Value) : ∀ fu : Nat, LA_balerref06_Place lf d (evC lf d) k fu = lpA_balerref06_Place lf d fu k
  | 0 => by funext x0 x1 x4 x5; kernel_rfl
  | fu + 1 => by
    have ih := LQA_balerref06_Place lf d k fu
    funext x0 x1 x4 x5; simp only [LA_balerref06_Place, ih, clash3_eq, index3_eq (P := Tryz.prog) Tryz.underlying9, insB_eq, q_add_eq (P := Tryz.prog) nf3, q_eql_eq (P := Tryz.prog) nf5, q_lss_eq (P := Tryz.prog) nf3]; kernel_rfl
set_option maxRecDepth 20000 in
theorem KQA_balerref06_Place (lf d : Nat) : KA_balerref06_Place lf d (evC lf d) (kcA_balerref06_Place lf d) = kcA_balerref06_Place lf d := by
  unfold KA_balerref06_Place
  refine Eq.trans (kEx_eq ?_) ?_
  · exact (runCur_eq _ _ _ (by intro y0 y1 y4 y5 y9; show _ = _; (try simp only [clash3_eq, insB_eq]); kernel_rfl))
  refine Eq.trans (kRt_eq ?_) ?_
  · exact (runCur_eq _ _ _ (by intro y0 y1 y4 y5 y9 y16; show _ = _; (try simp only [clash3_eq, insB_eq]); kernel_rfl))
  rfl
theorem fsh_balerref06_Place (lf d : Nat) (a0 : Value) (a1 : Value) : inside (F_balerref06_Place lf d (evC lf d) a0 a1) = evC lf (d + 1) 121 #[a0, a1] := by
  unfold F_balerref06_Place; (try simp only [KQA_balerref06_Place lf d, LQA_balerref06_Place, clash3_eq, insB_eq]); kernel_rfl

/- balerref06_Touch -/
noncomputable def F_balerref06_Touch (lf d : Nat) (rec : FuncId → Array Value → M Value) (a0 : Value) (a1 : Value) : M Value :=
 optK (q_add Tryz.prog 3 a1 (Value.int .i64 1)) fun v8n1 =>
 slice3 Tryz.prog 9 a0 (some a1) (some v8n1) none fun v9n2 =>
 slice3 Tryz.prog 9 a0 none (some a1) none fun v12n3 =>
 optK (qS_add Tryz.prog 9 v9n2 v12n3) fun v13n4 =>
 optK (q_add Tryz.prog 3 a1 (Value.int .i64 1)) fun v16n5 =>
 slice3 Tryz.prog 9 a0 (some v16n5) none none fun v17n6 =>
 optK (qS_add Tryz.prog 9 v13n4 v17n6) fun v18n7 =>
 outK [v18n7]
theorem fsh_balerref06_Touch (lf d : Nat) (a0 : Value) (a1 : Value) : inside (F_balerref06_Touch lf d (evC lf d) a0 a1) = evC lf (d + 1) 122 #[a0, a1] := by
  unfold F_balerref06_Touch; (try simp only [clash3_eq, insB_eq, qS_add_eq (P := Tryz.prog) nf9, q_add_eq (P := Tryz.prog) nf3, slice3_eq (P := Tryz.prog) Tryz.underlying9]); kernel_rfl

/- balerref07_Row -/
noncomputable def F_balerref07_Row (lf d : Nat) (rec : FuncId → Array Value → M Value) (a0 : Value) : M Value :=
 optK (q_eql Tryz.prog 3 a0 (Value.int .i64 0)) fun v5n1 =>
 ifV v5n1 (
 outK [(Value.slice none 0 0)]) (
 optK (q_rem Tryz.prog 3 a0 (Value.int .i64 2)) fun v7n2 =>
 optK (q_eql Tryz.prog 3 v7n2 (Value.int .i64 1)) fun v8n3 =>
 ifV v8n3 (
 insB (evBS3 Tryz.prog 91 1 [(0, (Value.int .i64 0))]) fun v10n4 =>
 insB (evAppend3 Tryz.prog 91 (Value.slice none 0 0) v10n4) fun v11n5 =>
 optK (q_sub Tryz.prog 3 a0 (Value.int .i64 1)) fun v14n6 =>
 optK (q_quo Tryz.prog 3 v14n6 (Value.int .i64 2)) fun v15n7 =>
 (inside (rec 123 #[v15n7])).bind fun v16n8 =>
 insB (evAppend3 Tryz.prog 91 v11n5 v16n8) fun v17n9 =>
 outK [v17n9]) (
 insB (evBS3 Tryz.prog 91 1 [(0, (Value.int .i64 1))]) fun v20n10 =>
 insB (evAppend3 Tryz.prog 91 (Value.slice none 0 0) v20n10) fun v21n11 =>
 optK (q_sub Tryz.prog 3 a0 (Value.int .i64 2)) fun v24n12 =>
 optK (q_quo Tryz.prog 3 v24n12 (Value.int .i64 2)) fun v25n13 =>
 (inside (rec 123 #[v25n13])).bind fun v26n14 =>
 insB (evAppend3 Tryz.prog 91 v21n11 v26n14) fun v27n15 =>
 outK [v27n15]))
theorem fsh_balerref07_Row (lf d : Nat) (a0 : Value) : inside (F_balerref07_Row lf d (evC lf d) a0) = evC lf (d + 1) 123 #[a0] := by
  unfold F_balerref07_Row; (try simp only [clash3_eq, evAppend3_eq, evBS3_eq, insB_eq, q_eql_eq (P := Tryz.prog) nf3, q_quo_eq (P := Tryz.prog) nf3, q_rem_eq (P := Tryz.prog) nf3, q_sub_eq (P := Tryz.prog) nf3]); kernel_rfl

end Go.Proofs.YthhhkplbjcknkaaGreat.Fa

/- The functions of the closed test of layer 23 as text that the kernel runs. -/
import Derived.Test.YthhhkplbjcknkaaGreatDoorFc
namespace Go.Proofs.YthhhkplbjcknkaaGreatDoor.Fa
set_option linter.unusedVariables false
set_option linter.unusedSimpArgs false
open Go Go.RowKit Ev
noncomputable abbrev PP : Program := Tryz.prog
abbrev RT := FuncId → Array Value → M Value
abbrev KT := Ex → Fr → M Value
def gtAL : List (List Nat) := [[], [], [], [], [], [], [], [], [], [], [], [], [0, 1, 2, 6, 7, 8, 9, 11, 12, 14, 15, 17, 25, 35, 36, 37, 38, 54, 55, 56, 57], [], [], [], [], [], [], [0, 1, 2, 3, 8, 9, 18], [0, 2, 10], [0, 2, 4], [], [], [0, 1, 2, 3, 4, 5, 6, 7, 8], [0, 1, 2, 6, 7, 8, 9, 10, 12, 26], [0, 1, 4, 5, 13], [], [0, 2, 3, 12], [0, 2, 10], [0, 1, 4, 5, 13, 22], [0, 1, 4, 5, 6, 12], [], [0, 2], [], [], [], [], [], [], [], [], [], [], [], [], [], [0, 1, 4, 5, 18], [0, 1, 2, 6, 8, 9, 12, 27, 28, 29, 30], [0, 1, 2, 4, 5, 8], [0, 2, 3, 4, 5, 6, 7, 8, 9, 18, 30, 51, 52, 53, 54, 60], [0, 1, 2, 6, 7, 8, 9, 11, 20], [], [0], [0, 1, 4, 5, 6, 7, 8, 11, 12, 14, 23, 35, 36, 37, 38], [], [0, 11], [0, 2, 3, 5], [], [], [], [], [0, 1], [0, 1, 4], [0, 1, 2, 3, 8, 9, 10, 12, 15, 16, 19, 61], [0, 1, 2, 6, 7, 8, 11, 16, 17, 18], [], [], [0, 1, 2, 6, 7, 8, 10, 18, 19, 20, 21], [0, 1, 4, 5, 19], [0, 2], [0, 2, 3, 9], [0, 2, 3, 4, 5, 11, 15, 16], [], [], [0, 2, 4], [0, 2], [0, 19], [0, 1, 4, 5, 27, 34, 55, 64], [0, 2], [0, 1, 2, 3, 4], [], [], [], [], [], [], [0, 1, 4, 5, 7, 8, 9, 16], [0, 1, 4, 5, 6, 7, 8, 9, 10, 11, 18, 27, 40, 41], [0, 1, 3, 4, 17], [0, 2, 3, 4, 5, 6, 11, 12, 13, 14], [0, 2], [0, 1, 4, 6, 13, 14, 15, 16, 21, 28], [0, 1, 2], [0, 2, 3, 4], [0, 2, 4], [0, 1, 4, 5, 6, 7, 10], [0, 1, 4, 5, 6, 8, 12, 14, 15, 16, 17], [0, 2, 3, 4, 7], [0, 1, 3, 4, 5, 6, 7, 8, 9, 11, 12, 19, 21, 22, 23, 24, 36, 54], [0, 1, 4, 29], [], [0, 2, 3, 4, 5, 7, 14], [0, 2], [0, 1, 4, 5, 11, 29, 52], [0, 2, 3, 6], [0, 2, 3, 4, 6, 7, 8], [0, 1, 4, 5, 6, 7, 8, 9, 10, 11, 18, 24, 25, 26, 37], [0, 1, 4, 5, 6, 7, 9, 12, 13, 14, 15, 16, 19, 27], [0, 1, 4, 5, 6, 7, 8, 10, 11, 14, 20, 21, 22, 26, 36, 37, 38, 41], [0, 1, 4], [], [], [0, 2], [0, 1, 4, 5, 6, 8, 9, 12, 13, 14, 15, 27, 39, 40, 41, 55], [0, 1, 4, 5], [0, 1, 2], [0, 2], [0, 2], [0], [0], [0, 2, 4], [], [0, 2, 3, 4, 5, 6, 7, 8, 9, 11, 23, 32, 44], [0, 2, 3, 23], [0, 2, 3, 25], [], [], [], [], [0, 1, 4, 5, 6, 8, 14, 17, 18, 19, 20, 29], [0, 2, 4], [0, 2, 3, 4, 5, 9, 10, 11], [0, 1, 4, 5, 6, 7, 8, 9, 10, 11, 12, 18, 19, 20, 29, 30, 31, 32, 42, 43, 44, 48], [0, 1, 2, 6, 7, 8, 9, 10, 12, 13, 14, 16, 18, 20, 21, 27, 28, 29, 37, 38, 39, 40, 70, 71, 72, 73], [0, 2], [0, 1, 4], [0, 1, 3], [0, 1, 4, 5, 12], [0, 2], [0, 2], [0, 2, 3, 4, 6, 14, 15, 16, 17, 18], [0, 1, 4], [1, 2], [0, 1, 4, 5, 14], [0, 1, 4, 5, 6, 8, 11, 12, 13, 14, 15, 25], [], [0, 2, 3, 4, 5, 6, 10, 26, 27, 28], [0, 1, 4, 5, 7, 26], [0, 2], [0, 2, 5], [0, 2, 3, 17], [0, 1, 2, 3, 4, 5, 6, 7, 8, 11], [0, 2, 3, 6], [0, 1, 4, 5, 6, 8, 16], [0, 2], [0, 2, 3, 4, 6, 9], [0, 2, 3, 5, 6, 7, 20], [0, 2, 3, 4, 5, 7, 8, 9], [0, 2, 3, 4, 8], [0, 2, 3, 4, 7], [0, 1, 2, 3, 4, 6, 7, 8, 11, 21], [0, 2], [0, 1, 2, 3, 4, 6], [0, 2, 3, 4, 8], [0, 2, 3, 6], [0, 2, 6], [0, 1, 4, 5, 6, 7, 8], [0, 2, 3, 5, 6, 7, 8, 9], [0, 1, 2, 3, 4, 5, 6, 11, 12], [0, 2, 4], [0, 1, 2, 4, 6, 7, 8, 9, 22], [0, 2, 3, 4, 10], [0, 1, 4, 5, 6, 7, 9, 23, 28], [], [0, 1, 4, 5, 6, 14], [], [], [0, 2, 3, 5, 6, 7, 8, 12], [0, 1, 4, 5, 6, 7, 8, 9, 11, 12, 13, 14, 26], [0, 1, 4, 5, 6, 7, 22, 27, 28, 29], [0, 2, 3, 4, 5, 6, 7, 20, 24, 25, 26, 27, 41], [0, 1, 4, 5, 7, 8, 9, 16], [0, 1, 2, 4, 5, 6], [0, 1, 2, 6], [0, 2], [0, 1, 4], [0, 6, 33, 42], [0, 1, 4, 6], [0, 1, 4], [0, 1, 4, 5], [0, 2, 3, 19], [0, 1, 4, 5, 6, 7, 8, 10, 11, 12, 13, 30], [0, 2, 3, 4, 5, 6, 8, 10, 11, 12, 14, 15, 16, 17, 27, 38], [0, 2, 3, 4, 5, 6, 10], [0, 1, 4, 5, 6, 7, 8, 9, 12, 17, 26], [0, 1, 4, 5, 6, 7, 9, 15, 16, 17, 18, 19, 28, 30], [0, 2, 3, 4, 5, 6, 7, 8, 9, 10, 12, 13, 20, 26], [0, 1, 4, 5, 6, 7, 9, 10, 11, 22, 23, 24, 25, 38, 39, 40, 41], [0, 1, 4], [0, 2, 3, 4, 8], [0, 1, 4, 5, 9], [0, 2, 3], [0, 1, 3, 4, 30, 31, 32], [0, 2, 4], [0, 3], [0, 1, 4, 5, 7, 22, 44], [], [], [0, 2, 3, 4, 5, 6, 11, 12, 13, 32], [0, 2, 3, 5, 6, 7, 8, 9], [0, 2, 3, 4, 5, 9, 10, 11, 12], [0, 1, 2, 4], [0, 2], [0, 2], [0, 2, 29], [0], [0, 2, 3, 65, 116], [0, 2, 3, 35], [0, 2, 7, 13, 70], [], [0, 1, 4], [0, 1, 2, 6, 7, 8], [0, 1, 4, 5, 9, 17], [0, 2], [0, 1, 4, 5, 9, 16], [0, 1, 4], [0, 2, 3, 5, 8], [0, 1, 4, 5, 6, 7, 9, 10, 11, 12, 13, 14, 24, 25, 26, 27, 28, 29, 42, 43, 44, 46, 47, 48, 49, 58], [0, 1, 4, 5, 6, 8, 9, 18, 19, 20, 21], [0, 2, 3, 4, 6, 7, 16, 17, 18, 19, 22, 23, 29, 36], [0, 2, 3, 4, 5, 6, 7, 12, 15, 16, 17, 18, 24, 26, 27, 28, 29], [0, 2, 3, 4, 6], [0, 1, 2, 3, 11], [0, 1, 5], [0, 1, 2, 3, 4, 12, 13, 14], [0, 2, 3, 46], [0, 1, 2], [0, 1, 2, 6, 7, 8], [0, 2, 43], [0, 1, 4, 5, 6, 7, 8, 9, 11, 14, 15, 16, 18, 19, 20, 21, 27, 36], [0, 1, 4, 5, 6, 7, 8, 9], [0, 2, 3, 4, 5, 6, 7, 8, 9, 10, 27], [0, 1, 4, 5, 6, 7, 8, 9, 10, 11, 24], [0, 2, 3, 5, 6, 7, 8, 9, 10, 14, 20, 21, 25], [0, 1, 4, 5, 6, 7, 8, 13, 22, 34], [0, 1, 2, 3, 10], [0, 1, 2, 6], [0, 1], [0, 1, 2, 5], [0, 1, 4, 5, 6, 11, 12, 13, 16, 19], [0, 1, 4, 9], [0, 2, 4, 6, 8, 10], [0, 1, 4, 5, 7, 8, 9, 10, 11, 16], [0, 1, 4, 5, 6, 7, 8, 9, 10, 11, 17, 18, 19], [0, 2, 3, 4, 5, 6, 7, 8, 9, 10, 11, 12, 13, 15, 18, 19, 20, 21, 39, 66, 67, 68, 69], [0, 1, 2, 6, 8, 9, 10, 11, 12, 22], [0, 2, 3, 5, 6, 7, 8, 9, 13], [], [0, 1, 2, 6, 7, 8, 9, 13, 30, 35, 54], [0, 2], [0, 2, 4], [0, 2, 3, 4, 5, 6, 7, 8, 9, 18], [0, 1, 4, 5, 6, 7, 8, 9, 10, 11, 17], [0, 1, 4, 5, 6, 7, 8, 9], [0, 1, 4], [], [0, 1, 4, 5], [0, 2], [0, 2], [0, 1, 2, 3, 8, 9, 14, 34], [0, 1, 2, 3, 4, 10, 11, 12, 13, 14, 15, 16, 17, 18, 19, 20, 21, 22, 23, 24, 28, 33, 50, 58, 80, 85, 103, 110, 140, 151, 171, 185, 199, 213], [0, 1, 2, 3, 4], [0, 1, 4, 5, 6], [0, 1, 4, 5, 6, 7, 8, 9, 10, 11, 12, 13], [0, 1, 4], [0, 6, 19], [0, 1, 4], [0, 1, 2, 3, 4, 10, 11, 20, 23], [], [], [0, 1, 2, 3, 10, 13], [], [], [], [], [], [], [], [], [], [], [], [], [], [], [], [], [], [], [], [], [], [], [], [], []]
def gtA (f : Nat) : List Nat := gtAL.getD f []
noncomputable def evC (lf : Nat) : Nat → RT := evCallN kn0 PP gtA lf
theorem az111 : evAllocZ 111 [Value.string ⟨⟨[]⟩⟩, Value.int .u32 0, Value.int .i64 0] = evAlloc PP 111 := by refine evAllocZ_eq (z := .agg ⟨[Value.string ⟨⟨[]⟩⟩, Value.int .u32 0, Value.int .i64 0]⟩) ?_ ?_ <;> kernel_rfl
theorem az115 : evAllocZ 115 (repV (Value.int .i64 0) 6) = evAlloc PP 115 := by refine evAllocZ_eq (z := .agg ⟨(repV (Value.int .i64 0) 6)⟩) ?_ ?_ <;> kernel_rfl
theorem az153 : evAllocZ 153 [Value.string ⟨⟨[]⟩⟩, Value.string ⟨⟨[]⟩⟩] = evAlloc PP 153 := by refine evAllocZ_eq (z := .agg ⟨[Value.string ⟨⟨[]⟩⟩, Value.string ⟨⟨[]⟩⟩]⟩) ?_ ?_ <;> kernel_rfl
theorem az166 : evAllocZ 166 [Value.int .u8 0, Value.int .i64 0] = evAlloc PP 166 := by refine evAllocZ_eq (z := .agg ⟨[Value.int .u8 0, Value.int .i64 0]⟩) ?_ ?_ <;> kernel_rfl
theorem az182 : evAllocZ 182 (repV (Value.bool false) 256) = evAlloc PP 182 := by refine evAllocZ_eq (z := .agg ⟨(repV (Value.bool false) 256)⟩) ?_ ?_ <;> kernel_rfl
theorem az190 : evAllocZ 190 (repV (Value.int .u32 0) 16) = evAlloc PP 190 := by refine evAllocZ_eq (z := .agg ⟨(repV (Value.int .u32 0) 16)⟩) ?_ ?_ <;> kernel_rfl
theorem az196 : evAllocZ 196 [Value.string ⟨⟨[]⟩⟩, Value.int .i64 0] = evAlloc PP 196 := by refine evAllocZ_eq (z := .agg ⟨[Value.string ⟨⟨[]⟩⟩, Value.int .i64 0]⟩) ?_ ?_ <;> kernel_rfl
theorem az204 : evAllocZ 204 (repV (Value.int .u32 0) 256) = evAlloc PP 204 := by refine evAllocZ_eq (z := .agg ⟨(repV (Value.int .u32 0) 256)⟩) ?_ ?_ <;> kernel_rfl
theorem az212 : evAllocZ 212 [Value.int .i64 0, Value.int .i64 0, Value.int .i64 0] = evAlloc PP 212 := by refine evAllocZ_eq (z := .agg ⟨[Value.int .i64 0, Value.int .i64 0, Value.int .i64 0]⟩) ?_ ?_ <;> kernel_rfl
theorem az23 : evAllocZ 23 (repV (Value.int .i64 0) 2) = evAlloc PP 23 := by refine evAllocZ_eq (z := .agg ⟨(repV (Value.int .i64 0) 2)⟩) ?_ ?_ <;> kernel_rfl
theorem az250 : evAllocZ 250 [Value.slice none 0 0, Value.slice none 0 0] = evAlloc PP 250 := by refine evAllocZ_eq (z := .agg ⟨[Value.slice none 0 0, Value.slice none 0 0]⟩) ?_ ?_ <;> kernel_rfl
theorem az271 : evAllocZ 271 [Value.int .i64 0, Value.int .i64 0, Value.slice none 0 0] = evAlloc PP 271 := by refine evAllocZ_eq (z := .agg ⟨[Value.int .i64 0, Value.int .i64 0, Value.slice none 0 0]⟩) ?_ ?_ <;> kernel_rfl
theorem az3 : evAllocZ 3 [Value.int .i64 0] = evAlloc PP 3 := by refine evAllocZ_eq (z := (Value.int .i64 0)) ?_ ?_ <;> kernel_rfl
theorem az74 : evAllocZ 74 [Value.slice none 0 0, Value.slice none 0 0] = evAlloc PP 74 := by refine evAllocZ_eq (z := .agg ⟨[Value.slice none 0 0, Value.slice none 0 0]⟩) ?_ ?_ <;> kernel_rfl
theorem bz109 : evBuildZ PP 109 [Value.int .i64 0, Value.string ⟨⟨[]⟩⟩, Value.bool false, Value.pointer none, Value.bool false, Value.slice none 0 0, Value.pointer none, Value.int .i64 0, Value.pointer none, Value.string ⟨⟨[]⟩⟩, Value.bool false, Value.int .i64 0] = evBuild PP 109 := by refine evBuildZ_eq (z := .agg ⟨[Value.int .i64 0, Value.string ⟨⟨[]⟩⟩, Value.bool false, Value.pointer none, Value.bool false, Value.slice none 0 0, Value.pointer none, Value.int .i64 0, Value.pointer none, Value.string ⟨⟨[]⟩⟩, Value.bool false, Value.int .i64 0]⟩) ?_ ?_ <;> kernel_rfl
theorem bz111 : evBuildZ PP 111 [Value.string ⟨⟨[]⟩⟩, Value.int .u32 0, Value.int .i64 0] = evBuild PP 111 := by refine evBuildZ_eq (z := .agg ⟨[Value.string ⟨⟨[]⟩⟩, Value.int .u32 0, Value.int .i64 0]⟩) ?_ ?_ <;> kernel_rfl
theorem bz130 : evBuildZ PP 130 (appV [Value.slice none 0 0] (appV [Value.slice none 0 0] (appV [Value.slice none 0 0] (appV (repV (Value.int .i64 0) 21) (repV (Value.int .i64 0) 22))))) = evBuild PP 130 := by refine evBuildZ_eq (z := .agg ⟨(appV [Value.slice none 0 0] (appV [Value.slice none 0 0] (appV [Value.slice none 0 0] (appV (repV (Value.int .i64 0) 21) (repV (Value.int .i64 0) 22)))))⟩) ?_ ?_ <;> kernel_rfl
theorem bz135 : evBuildZ PP 135 [Value.slice none 0 0, Value.int .u8 0, Value.int .i64 0] = evBuild PP 135 := by refine evBuildZ_eq (z := .agg ⟨[Value.slice none 0 0, Value.int .u8 0, Value.int .i64 0]⟩) ?_ ?_ <;> kernel_rfl
theorem bz153 : evBuildZ PP 153 [Value.string ⟨⟨[]⟩⟩, Value.string ⟨⟨[]⟩⟩] = evBuild PP 153 := by refine evBuildZ_eq (z := .agg ⟨[Value.string ⟨⟨[]⟩⟩, Value.string ⟨⟨[]⟩⟩]⟩) ?_ ?_ <;> kernel_rfl
theorem bz160 : evBuildZ PP 160 [Value.slice none 0 0, Value.pointer none, Value.int .i64 0] = evBuild PP 160 := by refine evBuildZ_eq (z := .agg ⟨[Value.slice none 0 0, Value.pointer none, Value.int .i64 0]⟩) ?_ ?_ <;> kernel_rfl
theorem bz164 : evBuildZ PP 164 [Value.slice none 0 0, Value.pointer none, Value.int .i64 0, Value.int .i64 0, Value.pointer none] = evBuild PP 164 := by refine evBuildZ_eq (z := .agg ⟨[Value.slice none 0 0, Value.pointer none, Value.int .i64 0, Value.int .i64 0, Value.pointer none]⟩) ?_ ?_ <;> kernel_rfl
theorem bz166 : evBuildZ PP 166 [Value.int .u8 0, Value.int .i64 0] = evBuild PP 166 := by refine evBuildZ_eq (z := .agg ⟨[Value.int .u8 0, Value.int .i64 0]⟩) ?_ ?_ <;> kernel_rfl
theorem bz170 : evBuildZ PP 170 [Value.string ⟨⟨[]⟩⟩, Value.pointer none, Value.slice none 0 0, Value.slice none 0 0, Value.int .i64 0] = evBuild PP 170 := by refine evBuildZ_eq (z := .agg ⟨[Value.string ⟨⟨[]⟩⟩, Value.pointer none, Value.slice none 0 0, Value.slice none 0 0, Value.int .i64 0]⟩) ?_ ?_ <;> kernel_rfl
theorem bz196 : evBuildZ PP 196 [Value.string ⟨⟨[]⟩⟩, Value.int .i64 0] = evBuild PP 196 := by refine evBuildZ_eq (z := .agg ⟨[Value.string ⟨⟨[]⟩⟩, Value.int .i64 0]⟩) ?_ ?_ <;> kernel_rfl
theorem bz200 : evBuildZ PP 200 [Value.string ⟨⟨[]⟩⟩, Value.int .i64 0, Value.int .u32 0] = evBuild PP 200 := by refine evBuildZ_eq (z := .agg ⟨[Value.string ⟨⟨[]⟩⟩, Value.int .i64 0, Value.int .u32 0]⟩) ?_ ?_ <;> kernel_rfl
theorem bz207 : evBuildZ PP 207 (appV (repV (Value.int .u32 0) 256) [Value.int .u32 0]) = evBuild PP 207 := by refine evBuildZ_eq (z := .agg ⟨(appV (repV (Value.int .u32 0) 256) [Value.int .u32 0])⟩) ?_ ?_ <;> kernel_rfl
theorem bz209 : evBuildZ PP 209 [Value.int .u8 0, Value.int .i64 0] = evBuild PP 209 := by refine evBuildZ_eq (z := .agg ⟨[Value.int .u8 0, Value.int .i64 0]⟩) ?_ ?_ <;> kernel_rfl
theorem bz212 : evBuildZ PP 212 [Value.int .i64 0, Value.int .i64 0, Value.int .i64 0] = evBuild PP 212 := by refine evBuildZ_eq (z := .agg ⟨[Value.int .i64 0, Value.int .i64 0, Value.int .i64 0]⟩) ?_ ?_ <;> kernel_rfl
theorem bz214 : evBuildZ PP 214 [Value.string ⟨⟨[]⟩⟩, Value.slice none 0 0, Value.slice none 0 0, Value.slice none 0 0, Value.int .i64 0, Value.slice none 0 0, Value.int .i64 0, Value.int .i64 0, Value.int .i64 0, Value.int .i64 0, Value.int .i64 0, Value.int .i64 0, Value.int .i64 0, Value.int .i64 0, Value.int .i64 0, Value.bool false] = evBuild PP 214 := by refine evBuildZ_eq (z := .agg ⟨[Value.string ⟨⟨[]⟩⟩, Value.slice none 0 0, Value.slice none 0 0, Value.slice none 0 0, Value.int .i64 0, Value.slice none 0 0, Value.int .i64 0, Value.int .i64 0, Value.int .i64 0, Value.int .i64 0, Value.int .i64 0, Value.int .i64 0, Value.int .i64 0, Value.int .i64 0, Value.int .i64 0, Value.bool false]⟩) ?_ ?_ <;> kernel_rfl
theorem bz231 : evBuildZ PP 231 [Value.slice none 0 0] = evBuild PP 231 := by refine evBuildZ_eq (z := .agg ⟨[Value.slice none 0 0]⟩) ?_ ?_ <;> kernel_rfl
theorem bz250 : evBuildZ PP 250 [Value.slice none 0 0, Value.slice none 0 0] = evBuild PP 250 := by refine evBuildZ_eq (z := .agg ⟨[Value.slice none 0 0, Value.slice none 0 0]⟩) ?_ ?_ <;> kernel_rfl
theorem bz260 : evBuildZ PP 260 [Value.slice none 0 0, Value.slice none 0 0, Value.slice none 0 0, Value.int .i64 0] = evBuild PP 260 := by refine evBuildZ_eq (z := .agg ⟨[Value.slice none 0 0, Value.slice none 0 0, Value.slice none 0 0, Value.int .i64 0]⟩) ?_ ?_ <;> kernel_rfl
theorem bz271 : evBuildZ PP 271 [Value.int .i64 0, Value.int .i64 0, Value.slice none 0 0] = evBuild PP 271 := by refine evBuildZ_eq (z := .agg ⟨[Value.int .i64 0, Value.int .i64 0, Value.slice none 0 0]⟩) ?_ ?_ <;> kernel_rfl
theorem bz74 : evBuildZ PP 74 [Value.slice none 0 0, Value.slice none 0 0] = evBuild PP 74 := by refine evBuildZ_eq (z := .agg ⟨[Value.slice none 0 0, Value.slice none 0 0]⟩) ?_ ?_ <;> kernel_rfl
theorem bz89 : evBuildZ PP 89 [Value.pointer none, Value.int .u32 0, Value.bool false] = evBuild PP 89 := by refine evBuildZ_eq (z := .agg ⟨[Value.pointer none, Value.int .u32 0, Value.bool false]⟩) ?_ ?_ <;> kernel_rfl
theorem cw144x3 (x : Int) (k : Value → M Value) : conv2 PP 144 3 (.int .u64 x) k = k (.int .i64 (IntKind.i64.wrap x)) := by kernel_rfl
theorem cw38x5 (x : Int) (k : Value → M Value) : conv2 PP 38 5 (.int .u32 x) k = k (.int .u8 (IntKind.u8.wrap x)) := by kernel_rfl
theorem cw38x93 (x : Int) (k : Value → M Value) : conv2 PP 38 93 (.int .u32 x) k = k (.int .u64 (IntKind.u64.wrap x)) := by kernel_rfl
theorem cw3x144 (x : Int) (k : Value → M Value) : conv2 PP 3 144 (.int .i64 x) k = k (.int .u64 (IntKind.u64.wrap x)) := by kernel_rfl
theorem cw3x38 (x : Int) (k : Value → M Value) : conv2 PP 3 38 (.int .i64 x) k = k (.int .u32 (IntKind.u32.wrap x)) := by kernel_rfl
theorem cw3x5 (x : Int) (k : Value → M Value) : conv2 PP 3 5 (.int .i64 x) k = k (.int .u8 (IntKind.u8.wrap x)) := by kernel_rfl
theorem cw5x3 (x : Int) (k : Value → M Value) : conv2 PP 5 3 (.int .u8 x) k = k (.int .i64 (IntKind.i64.wrap x)) := by kernel_rfl
theorem cw5x38 (x : Int) (k : Value → M Value) : conv2 PP 5 38 (.int .u8 x) k = k (.int .u32 (IntKind.u32.wrap x)) := by kernel_rfl
theorem cw93x38 (x : Int) (k : Value → M Value) : conv2 PP 93 38 (.int .u64 x) k = k (.int .u32 (IntKind.u32.wrap x)) := by kernel_rfl
theorem ga101 : agg? PP 101 = some false := by kernel_rfl
theorem ga106 : agg? PP 106 = some false := by kernel_rfl
theorem ga107 : agg? PP 107 = some false := by kernel_rfl
theorem ga111 : agg? PP 111 = some true := by kernel_rfl
theorem ga115 : agg? PP 115 = some true := by kernel_rfl
theorem ga126 : agg? PP 126 = some false := by kernel_rfl
theorem ga133 : agg? PP 133 = some false := by kernel_rfl
theorem ga153 : agg? PP 153 = some true := by kernel_rfl
theorem ga157 : agg? PP 157 = some false := by kernel_rfl
theorem ga161 : agg? PP 161 = some false := by kernel_rfl
theorem ga166 : agg? PP 166 = some true := by kernel_rfl
theorem ga168 : agg? PP 168 = some false := by kernel_rfl
theorem ga182 : agg? PP 182 = some true := by kernel_rfl
theorem ga190 : agg? PP 190 = some true := by kernel_rfl
theorem ga196 : agg? PP 196 = some true := by kernel_rfl
theorem ga204 : agg? PP 204 = some true := by kernel_rfl
theorem ga210 : agg? PP 210 = some false := by kernel_rfl
theorem ga212 : agg? PP 212 = some true := by kernel_rfl
theorem ga22 : agg? PP 22 = some false := by kernel_rfl
theorem ga245 : agg? PP 245 = some true := by kernel_rfl
theorem ga250 : agg? PP 250 = some true := by kernel_rfl
theorem ga271 : agg? PP 271 = some true := by kernel_rfl
theorem ga3 : agg? PP 3 = some false := by kernel_rfl
theorem ga38 : agg? PP 38 = some false := by kernel_rfl
theorem ga39 : agg? PP 39 = some false := by kernel_rfl
theorem ga4 : agg? PP 4 = some false := by kernel_rfl
theorem ga47 : agg? PP 47 = some false := by kernel_rfl
theorem ga5 : agg? PP 5 = some false := by kernel_rfl
theorem ga71 : agg? PP 71 = some false := by kernel_rfl
theorem ga72 : agg? PP 72 = some false := by kernel_rfl
theorem ga74 : agg? PP 74 = some true := by kernel_rfl
theorem ga78 : agg? PP 78 = some false := by kernel_rfl
theorem ga9 : agg? PP 9 = some false := by kernel_rfl
theorem gf109f0 (b off : Nat) : evFieldAddr PP 109 (.pointer (some ⟨b, off, none⟩)) 0 = some (.pointer (some ⟨b, off + 0, none⟩)) := by kernel_rfl
theorem gf109f1 (b off : Nat) : evFieldAddr PP 109 (.pointer (some ⟨b, off, none⟩)) 1 = some (.pointer (some ⟨b, off + 1, none⟩)) := by kernel_rfl
theorem gf109f10 (b off : Nat) : evFieldAddr PP 109 (.pointer (some ⟨b, off, none⟩)) 10 = some (.pointer (some ⟨b, off + 10, none⟩)) := by kernel_rfl
theorem gf109f11 (b off : Nat) : evFieldAddr PP 109 (.pointer (some ⟨b, off, none⟩)) 11 = some (.pointer (some ⟨b, off + 11, none⟩)) := by kernel_rfl
theorem gf109f2 (b off : Nat) : evFieldAddr PP 109 (.pointer (some ⟨b, off, none⟩)) 2 = some (.pointer (some ⟨b, off + 2, none⟩)) := by kernel_rfl
theorem gf109f3 (b off : Nat) : evFieldAddr PP 109 (.pointer (some ⟨b, off, none⟩)) 3 = some (.pointer (some ⟨b, off + 3, none⟩)) := by kernel_rfl
theorem gf109f4 (b off : Nat) : evFieldAddr PP 109 (.pointer (some ⟨b, off, none⟩)) 4 = some (.pointer (some ⟨b, off + 4, none⟩)) := by kernel_rfl
theorem gf109f5 (b off : Nat) : evFieldAddr PP 109 (.pointer (some ⟨b, off, none⟩)) 5 = some (.pointer (some ⟨b, off + 5, none⟩)) := by kernel_rfl
theorem gf109f6 (b off : Nat) : evFieldAddr PP 109 (.pointer (some ⟨b, off, none⟩)) 6 = some (.pointer (some ⟨b, off + 6, none⟩)) := by kernel_rfl
theorem gf109f7 (b off : Nat) : evFieldAddr PP 109 (.pointer (some ⟨b, off, none⟩)) 7 = some (.pointer (some ⟨b, off + 7, none⟩)) := by kernel_rfl
theorem gf109f8 (b off : Nat) : evFieldAddr PP 109 (.pointer (some ⟨b, off, none⟩)) 8 = some (.pointer (some ⟨b, off + 8, none⟩)) := by kernel_rfl
theorem gf109f9 (b off : Nat) : evFieldAddr PP 109 (.pointer (some ⟨b, off, none⟩)) 9 = some (.pointer (some ⟨b, off + 9, none⟩)) := by kernel_rfl
theorem gf111f0 (b off : Nat) : evFieldAddr PP 111 (.pointer (some ⟨b, off, none⟩)) 0 = some (.pointer (some ⟨b, off + 0, none⟩)) := by kernel_rfl
theorem gf111f1 (b off : Nat) : evFieldAddr PP 111 (.pointer (some ⟨b, off, none⟩)) 1 = some (.pointer (some ⟨b, off + 1, none⟩)) := by kernel_rfl
theorem gf130f0 (b off : Nat) : evFieldAddr PP 130 (.pointer (some ⟨b, off, none⟩)) 0 = some (.pointer (some ⟨b, off + 0, none⟩)) := by kernel_rfl
theorem gf130f1 (b off : Nat) : evFieldAddr PP 130 (.pointer (some ⟨b, off, none⟩)) 1 = some (.pointer (some ⟨b, off + 1, none⟩)) := by kernel_rfl
theorem gf130f2 (b off : Nat) : evFieldAddr PP 130 (.pointer (some ⟨b, off, none⟩)) 2 = some (.pointer (some ⟨b, off + 2, none⟩)) := by kernel_rfl
theorem gf130f3 (b off : Nat) : evFieldAddr PP 130 (.pointer (some ⟨b, off, none⟩)) 3 = some (.pointer (some ⟨b, off + 3, none⟩)) := by kernel_rfl
theorem gf130f4 (b off : Nat) : evFieldAddr PP 130 (.pointer (some ⟨b, off, none⟩)) 4 = some (.pointer (some ⟨b, off + 24, none⟩)) := by kernel_rfl
theorem gf135f0 (b off : Nat) : evFieldAddr PP 135 (.pointer (some ⟨b, off, none⟩)) 0 = some (.pointer (some ⟨b, off + 0, none⟩)) := by kernel_rfl
theorem gf135f1 (b off : Nat) : evFieldAddr PP 135 (.pointer (some ⟨b, off, none⟩)) 1 = some (.pointer (some ⟨b, off + 1, none⟩)) := by kernel_rfl
theorem gf135f2 (b off : Nat) : evFieldAddr PP 135 (.pointer (some ⟨b, off, none⟩)) 2 = some (.pointer (some ⟨b, off + 2, none⟩)) := by kernel_rfl
theorem gf153f0 (b off : Nat) : evFieldAddr PP 153 (.pointer (some ⟨b, off, none⟩)) 0 = some (.pointer (some ⟨b, off + 0, none⟩)) := by kernel_rfl
theorem gf153f1 (b off : Nat) : evFieldAddr PP 153 (.pointer (some ⟨b, off, none⟩)) 1 = some (.pointer (some ⟨b, off + 1, none⟩)) := by kernel_rfl
theorem gf160f0 (b off : Nat) : evFieldAddr PP 160 (.pointer (some ⟨b, off, none⟩)) 0 = some (.pointer (some ⟨b, off + 0, none⟩)) := by kernel_rfl
theorem gf160f1 (b off : Nat) : evFieldAddr PP 160 (.pointer (some ⟨b, off, none⟩)) 1 = some (.pointer (some ⟨b, off + 1, none⟩)) := by kernel_rfl
theorem gf160f2 (b off : Nat) : evFieldAddr PP 160 (.pointer (some ⟨b, off, none⟩)) 2 = some (.pointer (some ⟨b, off + 2, none⟩)) := by kernel_rfl
theorem gf164f0 (b off : Nat) : evFieldAddr PP 164 (.pointer (some ⟨b, off, none⟩)) 0 = some (.pointer (some ⟨b, off + 0, none⟩)) := by kernel_rfl
theorem gf164f1 (b off : Nat) : evFieldAddr PP 164 (.pointer (some ⟨b, off, none⟩)) 1 = some (.pointer (some ⟨b, off + 3, none⟩)) := by kernel_rfl
theorem gf164f2 (b off : Nat) : evFieldAddr PP 164 (.pointer (some ⟨b, off, none⟩)) 2 = some (.pointer (some ⟨b, off + 4, none⟩)) := by kernel_rfl
theorem gf166f0 (b off : Nat) : evFieldAddr PP 166 (.pointer (some ⟨b, off, none⟩)) 0 = some (.pointer (some ⟨b, off + 0, none⟩)) := by kernel_rfl
theorem gf166f1 (b off : Nat) : evFieldAddr PP 166 (.pointer (some ⟨b, off, none⟩)) 1 = some (.pointer (some ⟨b, off + 1, none⟩)) := by kernel_rfl
theorem gf170f0 (b off : Nat) : evFieldAddr PP 170 (.pointer (some ⟨b, off, none⟩)) 0 = some (.pointer (some ⟨b, off + 0, none⟩)) := by kernel_rfl
theorem gf170f1 (b off : Nat) : evFieldAddr PP 170 (.pointer (some ⟨b, off, none⟩)) 1 = some (.pointer (some ⟨b, off + 1, none⟩)) := by kernel_rfl
theorem gf170f2 (b off : Nat) : evFieldAddr PP 170 (.pointer (some ⟨b, off, none⟩)) 2 = some (.pointer (some ⟨b, off + 2, none⟩)) := by kernel_rfl
theorem gf170f3 (b off : Nat) : evFieldAddr PP 170 (.pointer (some ⟨b, off, none⟩)) 3 = some (.pointer (some ⟨b, off + 3, none⟩)) := by kernel_rfl
theorem gf170f4 (b off : Nat) : evFieldAddr PP 170 (.pointer (some ⟨b, off, none⟩)) 4 = some (.pointer (some ⟨b, off + 4, none⟩)) := by kernel_rfl
theorem gf196f0 (b off : Nat) : evFieldAddr PP 196 (.pointer (some ⟨b, off, none⟩)) 0 = some (.pointer (some ⟨b, off + 0, none⟩)) := by kernel_rfl
theorem gf196f1 (b off : Nat) : evFieldAddr PP 196 (.pointer (some ⟨b, off, none⟩)) 1 = some (.pointer (some ⟨b, off + 1, none⟩)) := by kernel_rfl
theorem gf200f0 (b off : Nat) : evFieldAddr PP 200 (.pointer (some ⟨b, off, none⟩)) 0 = some (.pointer (some ⟨b, off + 0, none⟩)) := by kernel_rfl
theorem gf200f1 (b off : Nat) : evFieldAddr PP 200 (.pointer (some ⟨b, off, none⟩)) 1 = some (.pointer (some ⟨b, off + 1, none⟩)) := by kernel_rfl
theorem gf200f2 (b off : Nat) : evFieldAddr PP 200 (.pointer (some ⟨b, off, none⟩)) 2 = some (.pointer (some ⟨b, off + 2, none⟩)) := by kernel_rfl
theorem gf207f0 (b off : Nat) : evFieldAddr PP 207 (.pointer (some ⟨b, off, none⟩)) 0 = some (.pointer (some ⟨b, off + 0, none⟩)) := by kernel_rfl
theorem gf207f1 (b off : Nat) : evFieldAddr PP 207 (.pointer (some ⟨b, off, none⟩)) 1 = some (.pointer (some ⟨b, off + 256, none⟩)) := by kernel_rfl
theorem gf209f0 (b off : Nat) : evFieldAddr PP 209 (.pointer (some ⟨b, off, none⟩)) 0 = some (.pointer (some ⟨b, off + 0, none⟩)) := by kernel_rfl
theorem gf212f0 (b off : Nat) : evFieldAddr PP 212 (.pointer (some ⟨b, off, none⟩)) 0 = some (.pointer (some ⟨b, off + 0, none⟩)) := by kernel_rfl
theorem gf212f1 (b off : Nat) : evFieldAddr PP 212 (.pointer (some ⟨b, off, none⟩)) 1 = some (.pointer (some ⟨b, off + 1, none⟩)) := by kernel_rfl
theorem gf212f2 (b off : Nat) : evFieldAddr PP 212 (.pointer (some ⟨b, off, none⟩)) 2 = some (.pointer (some ⟨b, off + 2, none⟩)) := by kernel_rfl
theorem gf214f0 (b off : Nat) : evFieldAddr PP 214 (.pointer (some ⟨b, off, none⟩)) 0 = some (.pointer (some ⟨b, off + 0, none⟩)) := by kernel_rfl
theorem gf214f1 (b off : Nat) : evFieldAddr PP 214 (.pointer (some ⟨b, off, none⟩)) 1 = some (.pointer (some ⟨b, off + 1, none⟩)) := by kernel_rfl
theorem gf214f10 (b off : Nat) : evFieldAddr PP 214 (.pointer (some ⟨b, off, none⟩)) 10 = some (.pointer (some ⟨b, off + 12, none⟩)) := by kernel_rfl
theorem gf214f11 (b off : Nat) : evFieldAddr PP 214 (.pointer (some ⟨b, off, none⟩)) 11 = some (.pointer (some ⟨b, off + 13, none⟩)) := by kernel_rfl
theorem gf214f12 (b off : Nat) : evFieldAddr PP 214 (.pointer (some ⟨b, off, none⟩)) 12 = some (.pointer (some ⟨b, off + 14, none⟩)) := by kernel_rfl
theorem gf214f13 (b off : Nat) : evFieldAddr PP 214 (.pointer (some ⟨b, off, none⟩)) 13 = some (.pointer (some ⟨b, off + 15, none⟩)) := by kernel_rfl
theorem gf214f2 (b off : Nat) : evFieldAddr PP 214 (.pointer (some ⟨b, off, none⟩)) 2 = some (.pointer (some ⟨b, off + 2, none⟩)) := by kernel_rfl
theorem gf214f3 (b off : Nat) : evFieldAddr PP 214 (.pointer (some ⟨b, off, none⟩)) 3 = some (.pointer (some ⟨b, off + 3, none⟩)) := by kernel_rfl
theorem gf214f4 (b off : Nat) : evFieldAddr PP 214 (.pointer (some ⟨b, off, none⟩)) 4 = some (.pointer (some ⟨b, off + 4, none⟩)) := by kernel_rfl
theorem gf214f5 (b off : Nat) : evFieldAddr PP 214 (.pointer (some ⟨b, off, none⟩)) 5 = some (.pointer (some ⟨b, off + 5, none⟩)) := by kernel_rfl
theorem gf214f6 (b off : Nat) : evFieldAddr PP 214 (.pointer (some ⟨b, off, none⟩)) 6 = some (.pointer (some ⟨b, off + 6, none⟩)) := by kernel_rfl
theorem gf214f7 (b off : Nat) : evFieldAddr PP 214 (.pointer (some ⟨b, off, none⟩)) 7 = some (.pointer (some ⟨b, off + 9, none⟩)) := by kernel_rfl
theorem gf214f8 (b off : Nat) : evFieldAddr PP 214 (.pointer (some ⟨b, off, none⟩)) 8 = some (.pointer (some ⟨b, off + 10, none⟩)) := by kernel_rfl
theorem gf214f9 (b off : Nat) : evFieldAddr PP 214 (.pointer (some ⟨b, off, none⟩)) 9 = some (.pointer (some ⟨b, off + 11, none⟩)) := by kernel_rfl
theorem gf231f0 (b off : Nat) : evFieldAddr PP 231 (.pointer (some ⟨b, off, none⟩)) 0 = some (.pointer (some ⟨b, off + 0, none⟩)) := by kernel_rfl
theorem gf250f0 (b off : Nat) : evFieldAddr PP 250 (.pointer (some ⟨b, off, none⟩)) 0 = some (.pointer (some ⟨b, off + 0, none⟩)) := by kernel_rfl
theorem gf250f1 (b off : Nat) : evFieldAddr PP 250 (.pointer (some ⟨b, off, none⟩)) 1 = some (.pointer (some ⟨b, off + 1, none⟩)) := by kernel_rfl
theorem gf260f0 (b off : Nat) : evFieldAddr PP 260 (.pointer (some ⟨b, off, none⟩)) 0 = some (.pointer (some ⟨b, off + 0, none⟩)) := by kernel_rfl
theorem gf260f1 (b off : Nat) : evFieldAddr PP 260 (.pointer (some ⟨b, off, none⟩)) 1 = some (.pointer (some ⟨b, off + 1, none⟩)) := by kernel_rfl
theorem gf260f2 (b off : Nat) : evFieldAddr PP 260 (.pointer (some ⟨b, off, none⟩)) 2 = some (.pointer (some ⟨b, off + 2, none⟩)) := by kernel_rfl
theorem gf260f3 (b off : Nat) : evFieldAddr PP 260 (.pointer (some ⟨b, off, none⟩)) 3 = some (.pointer (some ⟨b, off + 3, none⟩)) := by kernel_rfl
theorem gf271f0 (b off : Nat) : evFieldAddr PP 271 (.pointer (some ⟨b, off, none⟩)) 0 = some (.pointer (some ⟨b, off + 0, none⟩)) := by kernel_rfl
theorem gf271f1 (b off : Nat) : evFieldAddr PP 271 (.pointer (some ⟨b, off, none⟩)) 1 = some (.pointer (some ⟨b, off + 1, none⟩)) := by kernel_rfl
theorem gf271f2 (b off : Nat) : evFieldAddr PP 271 (.pointer (some ⟨b, off, none⟩)) 2 = some (.pointer (some ⟨b, off + 2, none⟩)) := by kernel_rfl
theorem gf74f0 (b off : Nat) : evFieldAddr PP 74 (.pointer (some ⟨b, off, none⟩)) 0 = some (.pointer (some ⟨b, off + 0, none⟩)) := by kernel_rfl
theorem gf74f1 (b off : Nat) : evFieldAddr PP 74 (.pointer (some ⟨b, off, none⟩)) 1 = some (.pointer (some ⟨b, off + 1, none⟩)) := by kernel_rfl
theorem gf89f0 (b off : Nat) : evFieldAddr PP 89 (.pointer (some ⟨b, off, none⟩)) 0 = some (.pointer (some ⟨b, off + 0, none⟩)) := by kernel_rfl
theorem gf89f1 (b off : Nat) : evFieldAddr PP 89 (.pointer (some ⟨b, off, none⟩)) 1 = some (.pointer (some ⟨b, off + 1, none⟩)) := by kernel_rfl
theorem gf89f2 (b off : Nat) : evFieldAddr PP 89 (.pointer (some ⟨b, off, none⟩)) 2 = some (.pointer (some ⟨b, off + 2, none⟩)) := by kernel_rfl
theorem gs106 : size? PP 106 = some 1 := by kernel_rfl
theorem gs107 : size? PP 107 = some 1 := by kernel_rfl
theorem gs111 : size? PP 111 = some 3 := by kernel_rfl
theorem gs115 : size? PP 115 = some 6 := by kernel_rfl
theorem gs133 : size? PP 133 = some 1 := by kernel_rfl
theorem gs153 : size? PP 153 = some 2 := by kernel_rfl
theorem gs166 : size? PP 166 = some 2 := by kernel_rfl
theorem gs182 : size? PP 182 = some 256 := by kernel_rfl
theorem gs190 : size? PP 190 = some 16 := by kernel_rfl
theorem gs196 : size? PP 196 = some 2 := by kernel_rfl
theorem gs204 : size? PP 204 = some 256 := by kernel_rfl
theorem gs210 : size? PP 210 = some 1 := by kernel_rfl
theorem gs212 : size? PP 212 = some 3 := by kernel_rfl
theorem gs22 : size? PP 22 = some 1 := by kernel_rfl
theorem gs23 : size? PP 23 = some 2 := by kernel_rfl
theorem gs245 : size? PP 245 = some 4 := by kernel_rfl
theorem gs250 : size? PP 250 = some 2 := by kernel_rfl
theorem gs271 : size? PP 271 = some 3 := by kernel_rfl
theorem gs3 : size? PP 3 = some 1 := by kernel_rfl
theorem gs38 : size? PP 38 = some 1 := by kernel_rfl
theorem gs4 : size? PP 4 = some 1 := by kernel_rfl
theorem gs47 : size? PP 47 = some 1 := by kernel_rfl
theorem gs5 : size? PP 5 = some 1 := by kernel_rfl
theorem gs74 : size? PP 74 = some 2 := by kernel_rfl
theorem gs78 : size? PP 78 = some 1 := by kernel_rfl
theorem gs9 : size? PP 9 = some 1 := by kernel_rfl
theorem nf144 : isNilT PP 144 = false := by kernel_rfl
theorem nf25 : isNilT PP 25 = false := by kernel_rfl
theorem nf3 : isNilT PP 3 = false := by kernel_rfl
theorem nf38 : isNilT PP 38 = false := by kernel_rfl
theorem nf5 : isNilT PP 5 = false := by kernel_rfl
theorem nf9 : isNilT PP 9 = false := by kernel_rfl
theorem nf93 : isNilT PP 93 = false := by kernel_rfl

noncomputable def lpA_code_Write (lf d fu : Nat) (k : KT) (x0 x1 x2 x6 x7 x8 x9 x17 x25 x35 x36 x37 : Value) : M Value := loopK (fun s1 k1 => codeK PP (evC lf d) (gtA 12) lf (codeAt (bodyOf PP 12) [true, true, true, true, true, true, false, true, false, false]) s1 k1) [0, 1, 2, 6, 7, 8, 9, 17, 25, 35, 36, 37] fu [(0, x0), (1, x1), (2, x2), (6, x6), (7, x7), (8, x8), (9, x9), (17, x17), (25, x25), (35, x35), (36, x36), (37, x37)] k
noncomputable def kcA_code_Write (lf d : Nat) : KT := contAt PP (evC lf d) (gtA 12) lf (bodyOf PP 12) [true, true, true, true, true, true, false, true, false] (endK PP (resOf PP 12))
noncomputable def lpB_code_Write (lf d fu : Nat) (k : KT) (x0 x1 x2 x6 x7 x8 x9 x17 x25 x35 x36 x37 x38 x54 x55 x56 : Value) : M Value := loopK (fun s1 k1 => codeK PP (evC lf d) (gtA 12) lf (codeAt (bodyOf PP 12) [true, true, true, true, true, true, true, false, true, false, false]) s1 k1) [0, 1, 2, 6, 7, 8, 9, 17, 25, 35, 36, 37, 38, 54, 55, 56] fu [(0, x0), (1, x1), (2, x2), (6, x6), (7, x7), (8, x8), (9, x9), (17, x17), (25, x25), (35, x35), (36, x36), (37, x37), (38, x38), (54, x54), (55, x55), (56, x56)] k
noncomputable def kcB_code_Write (lf d : Nat) : KT := contAt PP (evC lf d) (gtA 12) lf (bodyOf PP 12) [true, true, true, true, true, true, true, false, true, false] (endK PP (resOf PP 12))
noncomputable def LA_code_Write (lf d : Nat) (rec : RT) (k : KT) : Nat → Value → Value → Value → Value → Value → Value → Value → Value → Value → Value → Value → Value → M Value
 | 0, _, _, _, _, _, _, _, _, _, _, _, _ => M.fail
 | fu + 1, x0, x1, x2, x6, x7, x8, x9, x17, x25, x35, x36, x37 =>
 optK (q_lss PP 3 x37 x36) fun v38n17 =>
 ifV v38n17 (
 optK (evIA3 PP 72 1 x35 x37) fun v39n18 =>
 insB (evLoad3 PP 22 v39n18) fun v40n19 =>
 (inside (rec 49 #[x0, v40n19])).bind fun v43n20 =>
 (inside (rec 50 #[v40n19])).bind fun v46n21 =>
 optK (evExtract v46n21 0) fun v47n22 =>
 optK (evExtract v46n21 1) fun v48n23 =>
 insB (evBS3 PP 64 1 [(0, v47n22)]) fun v51n24 =>
 insB (evAppend3 PP 64 x9 v51n24) fun v52n25 =>
 optK (q_add PP 3 x37 (Value.int .i64 1)) fun v53n26 =>
 LA_code_Write lf d rec k fu x0 x1 x2 x6 x7 x8 v52n25 x17 x25 x35 x36 v53n26) (
 k (Ex.exit 0) [(0, x0), (1, x1), (2, x2), (6, x6), (7, x7), (8, x8), (9, x9), (17, x17), (25, x25), (35, x35), (36, x36), (37, x37), (38, v38n17)])
noncomputable def LB_code_Write (lf d : Nat) (rec : RT) (k : KT) : Nat → Value → Value → Value → Value → Value → Value → Value → Value → Value → Value → Value → Value → Value → Value → Value → Value → M Value
 | 0, _, _, _, _, _, _, _, _, _, _, _, _, _, _, _, _ => M.fail
 | fu + 1, x0, x1, x2, x6, x7, x8, x9, x17, x25, x35, x36, x37, x38, x54, x55, x56 =>
 optK (q_lss PP 3 x56 x55) fun v57n28 =>
 ifV v57n28 (
 optK (evIA3 PP 22 1 x54 x56) fun v59n29 =>
 insB (evLoad3 PP 3 v59n29) fun v60n30 =>
 optK (evFA3 PP 74 1 x7 1) fun v62n31 =>
 insB (evLoad3 PP 22 v62n31) fun v63n32 =>
 optK (q_quo PP 3 x56 (Value.int .i64 50)) fun v65n33 =>
 optK (evIA3 PP 22 1 v63n32 v65n33) fun v66n34 =>
 insB (evLoad3 PP 3 v66n34) fun v67n35 =>
 optK (evIA3 PP 64 1 x9 v67n35) fun v68n36 =>
 insB (evLoad3 PP 78 v68n36) fun v69n37 =>
 (inside (rec 51 #[v69n37, x0, v60n30])).bind fun v72n38 =>
 optK (q_add PP 3 x56 (Value.int .i64 1)) fun v73n39 =>
 LB_code_Write lf d rec k fu x0 x1 x2 x6 x7 x8 x9 x17 x25 x35 x36 x37 x38 x54 x55 v73n39) (
 k (Ex.exit 2) [(0, x0), (1, x1), (2, x2), (6, x6), (7, x7), (8, x8), (9, x9), (17, x17), (25, x25), (35, x35), (36, x36), (37, x37), (38, x38), (54, x54), (55, x55), (56, x56), (57, v57n28)])
noncomputable def KB_code_Write (lf d : Nat) (rec : RT) (dflt : KT) : KT := (kEx 2 (runCur [0, 1, 2, 6, 7, 8, 9, 17, 25, 35, 36, 37, 38, 54, 55, 56, 57] (fun y0 y1 y2 y6 y7 y8 y9 y17 y25 y35 y36 y37 y38 y54 y55 y56 y57 =>
 outK [(Value.int .i64 0)]) (dflt (Ex.exit 2))) dflt)
noncomputable def KA_code_Write (lf d : Nat) (rec : RT) (dflt : KT) : KT := (kEx 0 (runCur [0, 1, 2, 6, 7, 8, 9, 17, 25, 35, 36, 37, 38] (fun y0 y1 y2 y6 y7 y8 y9 y17 y25 y35 y36 y37 y38 =>
 optK (len2 PP #[22] [y1]) fun v55n27 =>
 LB_code_Write lf d rec (KB_code_Write lf d rec (kcB_code_Write lf d)) lf y0 y1 y2 y6 y7 y8 y9 y17 y25 y35 y36 y37 y38 y1 v55n27 (Value.int .i64 0)) (dflt (Ex.exit 0))) dflt)
noncomputable def F_code_Write (lf d : Nat) (rec : RT) (a0 a1 a2 : Value) : M Value :=
 optK (qP_eql PP 71 a0 (Value.pointer none)) fun v17n1 =>
 ifV v17n1 (
 outK [(Value.int .i64 7)]) (
 (inside (rec 47 #[a1, a2])).bind fun v21n2 =>
 optK (evExtract v21n2 0) fun v22n3 =>
 optK (evExtract v21n2 1) fun v23n4 =>
 insB (evAllocZ 74 [Value.slice none 0 0, Value.slice none 0 0]) fun v7n5 =>
 insB (evStoreA3 PP 74 2 v7n5 v22n3) fun u6 =>
 optK (q_neq PP 25 v23n4 (Value.int .i64 0)) fun v25n7 =>
 ifV v25n7 (
 outK [v23n4]) (
 optK (evFA3 PP 74 1 v7n5 1) fun v28n8 =>
 insB (evLoad3 PP 22 v28n8) fun v29n9 =>
 optK (evFA3 PP 74 0 v7n5 0) fun v30n10 =>
 insB (evLoad3 PP 72 v30n10) fun v31n11 =>
 optK (len2 PP #[72] [v31n11]) fun v32n12 =>
 (inside (rec 48 #[a0, v29n9, v32n12])).bind fun v33n13 =>
 optK (evFA3 PP 74 0 v7n5 0) fun v34n14 =>
 insB (evLoad3 PP 72 v34n14) fun v35n15 =>
 optK (len2 PP #[72] [v35n15]) fun v36n16 =>
 LA_code_Write lf d rec (KA_code_Write lf d rec (kcA_code_Write lf d)) lf a0 a1 a2 (Value.int .i64 0) v7n5 v23n4 (Value.slice none 0 0) v17n1 v25n7 v35n15 v36n16 (Value.int .i64 0)))
theorem LQA_code_Write (lf d : Nat) (k : KT) : ∀ fu : Nat, LA_code_Write lf d (evC lf d) k fu = lpA_code_Write lf d fu k
  | 0 => by funext x0 x1 x2 x6 x7 x8 x9 x17 x25 x35 x36 x37; kernel_rfl
  | fu + 1 => by
    have ih := LQA_code_Write lf d k fu
    funext x0 x1 x2 x6 x7 x8 x9 x17 x25 x35 x36 x37; simp only [LA_code_Write, ih, clash3_eq, evAppend3_eq, evBS3_eq, evIA3_eq (P := PP) Tryz.underlying72 gs22, evLoad3_eq (P := PP) ga22, insB_eq, q_add_eq (P := PP) nf3, q_lss_eq (P := PP) nf3]; kernel_rfl
theorem LQB_code_Write (lf d : Nat) (k : KT) : ∀ fu : Nat, LB_code_Write lf d (evC lf d) k fu = lpB_code_Write lf d fu k
  | 0 => by funext x0 x1 x2 x6 x7 x8 x9 x17 x25 x35 x36 x37 x38 x54 x55 x56; kernel_rfl
  | fu + 1 => by
    have ih := LQB_code_Write lf d k fu
    funext x0 x1 x2 x6 x7 x8 x9 x17 x25 x35 x36 x37 x38 x54 x55 x56; simp only [LB_code_Write, ih, clash3_eq, evFA3_eq (P := PP) gf74f1, evIA3_eq (P := PP) Tryz.underlying22 gs3, evIA3_eq (P := PP) Tryz.underlying64 gs78, evLoad3_eq (P := PP) ga22, evLoad3_eq (P := PP) ga3, evLoad3_eq (P := PP) ga78, insB_eq, q_add_eq (P := PP) nf3, q_lss_eq (P := PP) nf3, q_quo_eq (P := PP) nf3]; kernel_rfl
set_option maxRecDepth 20000 in
theorem KQB_code_Write (lf d : Nat) : KB_code_Write lf d (evC lf d) (kcB_code_Write lf d) = kcB_code_Write lf d := by
  unfold KB_code_Write
  refine Eq.trans (kEx_eq ?_) ?_
  · exact (runCur_eq _ _ _ (by intro y0 y1 y2 y6 y7 y8 y9 y17 y25 y35 y36 y37 y38 y54 y55 y56 y57; show _ = _; (try simp only [clash3_eq, insB_eq]); kernel_rfl))
  rfl
set_option maxRecDepth 20000 in
theorem KQA_code_Write (lf d : Nat) : KA_code_Write lf d (evC lf d) (kcA_code_Write lf d) = kcA_code_Write lf d := by
  unfold KA_code_Write
  refine Eq.trans (kEx_eq ?_) ?_
  · exact (runCur_eq _ _ _ (by intro y0 y1 y2 y6 y7 y8 y9 y17 y25 y35 y36 y37 y38; show _ = _; (try simp only [KQB_code_Write lf d, LQB_code_Write, clash3_eq, insB_eq]); kernel_rfl))
  rfl
theorem fsh_code_Write (lf d : Nat) (a0 a1 a2 : Value) : inside (F_code_Write lf d (evC lf d) a0 a1 a2) = evC lf (d + 1) 12 #[a0, a1, a2] := by
  unfold F_code_Write; (try simp only [KQA_code_Write lf d, LQA_code_Write, az74, clash3_eq, evFA3_eq (P := PP) gf74f0, evFA3_eq (P := PP) gf74f1, evLoad3_eq (P := PP) ga22, evLoad3_eq (P := PP) ga72, evStoreA3_eq (P := PP) gs74, insB_eq, qP_eql_eq (P := PP) Tryz.underlying71, q_neq_eq (P := PP) nf25]); kernel_rfl

noncomputable def F_stream_Writer_Turned (lf d : Nat) (rec : RT) (a0 a1 a2 a3 : Value) : M Value :=
 optK (qP_eql PP 39 a0 (Value.pointer none)) fun v11n1 =>
 ifV v11n1 (
 outK [(Value.int .i64 7)]) (
 optK (nil2 a0) fun v14n2 =>
 optK (evFA3 PP 89 2 v14n2 2) fun v15n3 =>
 insB (evLoad3 PP 4 v15n3) fun v16n4 =>
 ifV v16n4 (
 outK [(Value.int .i64 7)]) (
 optK (len2 PP #[9] [a1]) fun v20n5 =>
 optK (q_gtr PP 3 v20n5 (Value.int .i64 900000)) fun v21n6 =>
 ifV v21n6 (
 outK [(Value.int .i64 1)]) (
 optK (q_lss PP 3 a2 (Value.int .i64 0)) fun v24n7 =>
 ifV v24n7 (
 outK [(Value.int .i64 1)]) (
 optK (len2 PP #[9] [a1]) fun v29n8 =>
 optK (q_geq PP 3 a2 v29n8) fun v30n9 =>
 ifV v30n9 (
 outK [(Value.int .i64 1)]) (
 (inside (rec 62 #[a0, (Value.int .u64 54156738319193)])).bind fun v33n10 =>
 optK (nil2 a0) fun v36n11 =>
 optK (evFA3 PP 89 1 v36n11 1) fun v37n12 =>
 insB (evLoad3 PP 38 v37n12) fun v38n13 =>
 (inside (rec 63 #[v38n13, a3])).bind fun v40n14 =>
 optK (nil2 a0) fun v41n15 =>
 optK (evFA3 PP 89 1 v41n15 1) fun v42n16 =>
 insB (evStore3 PP 38 v42n16 v40n14) fun u17 =>
 optK (nil2 a0) fun v44n18 =>
 optK (evFA3 PP 89 0 v44n18 0) fun v45n19 =>
 insB (evLoad3 PP 71 v45n19) fun v46n20 =>
 (inside (rec 64 #[v46n20, a1, a2, a3])).bind fun v50n21 =>
 outK [v50n21])))))
theorem fsh_stream_Writer_Turned (lf d : Nat) (a0 a1 a2 a3 : Value) : inside (F_stream_Writer_Turned lf d (evC lf d) a0 a1 a2 a3) = evC lf (d + 1) 19 #[a0, a1, a2, a3] := by
  unfold F_stream_Writer_Turned; (try simp only [clash3_eq, evFA3_eq (P := PP) gf89f0, evFA3_eq (P := PP) gf89f1, evFA3_eq (P := PP) gf89f2, evLoad3_eq (P := PP) ga38, evLoad3_eq (P := PP) ga4, evLoad3_eq (P := PP) ga71, evStore3_eq (P := PP) gs38, insB_eq, qP_eql_eq (P := PP) Tryz.underlying39, q_geq_eq (P := PP) nf3, q_gtr_eq (P := PP) nf3, q_lss_eq (P := PP) nf3]); kernel_rfl

noncomputable def F_stream_Writer_End (lf d : Nat) (rec : RT) (a0 : Value) : M Value :=
 optK (qP_eql PP 39 a0 (Value.pointer none)) fun v4n1 =>
 ifV v4n1 (
 outK [(Value.int .i64 7)]) (
 optK (nil2 a0) fun v7n2 =>
 optK (evFA3 PP 89 2 v7n2 2) fun v8n3 =>
 insB (evLoad3 PP 4 v8n3) fun v9n4 =>
 ifV v9n4 (
 outK [(Value.int .i64 7)]) (
 (inside (rec 62 #[a0, (Value.int .u64 25779555029136)])).bind fun v12n5 =>
 optK (nil2 a0) fun v14n6 =>
 optK (evFA3 PP 89 0 v14n6 0) fun v15n7 =>
 insB (evLoad3 PP 71 v15n7) fun v16n8 =>
 optK (nil2 a0) fun v18n9 =>
 optK (evFA3 PP 89 1 v18n9 1) fun v19n10 =>
 insB (evLoad3 PP 38 v19n10) fun v20n11 =>
 (inside (rec 65 #[v16n8, v20n11, (Value.int .i64 32)])).bind fun v21n12 =>
 optK (nil2 a0) fun v23n13 =>
 optK (evFA3 PP 89 0 v23n13 0) fun v24n14 =>
 insB (evLoad3 PP 71 v24n14) fun v25n15 =>
 (inside (rec 56 #[v25n15])).bind fun v26n16 =>
 optK (nil2 a0) fun v28n17 =>
 optK (evFA3 PP 89 2 v28n17 2) fun v29n18 =>
 insB (evStore3 PP 4 v29n18 (Value.bool true)) fun u19 =>
 outK [(Value.int .i64 0)]))
theorem fsh_stream_Writer_End (lf d : Nat) (a0 : Value) : inside (F_stream_Writer_End lf d (evC lf d) a0) = evC lf (d + 1) 20 #[a0] := by
  unfold F_stream_Writer_End; (try simp only [clash3_eq, evFA3_eq (P := PP) gf89f0, evFA3_eq (P := PP) gf89f1, evFA3_eq (P := PP) gf89f2, evLoad3_eq (P := PP) ga38, evLoad3_eq (P := PP) ga4, evLoad3_eq (P := PP) ga71, evStore3_eq (P := PP) gs4, insB_eq, qP_eql_eq (P := PP) Tryz.underlying39]); kernel_rfl

noncomputable def F_stream_Writer_Take (lf d : Nat) (rec : RT) (a0 : Value) : M Value :=
 optK (qP_eql PP 39 a0 (Value.pointer none)) fun v4n1 =>
 ifV v4n1 (
 outK [(Value.string { data := #[] })]) (
 optK (nil2 a0) fun v6n2 =>
 optK (evFA3 PP 89 0 v6n2 0) fun v7n3 =>
 insB (evLoad3 PP 71 v7n3) fun v8n4 =>
 (inside (rec 57 #[v8n4])).bind fun v9n5 =>
 outK [v9n5])
theorem fsh_stream_Writer_Take (lf d : Nat) (a0 : Value) : inside (F_stream_Writer_Take lf d (evC lf d) a0) = evC lf (d + 1) 21 #[a0] := by
  unfold F_stream_Writer_Take; (try simp only [clash3_eq, evFA3_eq (P := PP) gf89f0, evLoad3_eq (P := PP) ga71, insB_eq, qP_eql_eq (P := PP) Tryz.underlying39]); kernel_rfl

noncomputable def F_balerlaw23_letter (lf d : Nat) (rec : RT) : M Value :=
 (inside (rec 25 #[(Value.int .i64 1), (Value.int .i64 24), (Value.int .i64 64)])).bind fun v10n1 =>
 optK (evExtract v10n1 0) fun v11n2 =>
 optK (evExtract v10n1 1) fun v12n3 =>
 (inside (rec 26 #[v11n2, (Value.string { data := #[97] })])).bind fun v14n4 =>
 (inside (rec 29 #[v11n2])).bind fun v16n5 =>
 (inside (rec 31 #[v11n2, (Value.int .i64 9)])).bind fun v18n6 =>
 (inside (rec 30 #[v11n2, (Value.int .i64 100)])).bind fun v20n7 =>
 (inside (rec 31 #[v11n2, (Value.int .i64 1000)])).bind fun v22n8 =>
 (inside (rec 30 #[v11n2, (Value.int .i64 100)])).bind fun v24n9 =>
 optK (q_eql PP 25 v12n3 (Value.int .i64 0)) fun v26n10 =>
 ifV v26n10 (
 optK (q_eql PP 25 v16n5 (Value.int .i64 0)) fun v29n11 =>
 ifV v29n11 (
 optK (q_eql PP 3 v14n4 (Value.int .i64 1)) fun v33n12 =>
 ifV v33n12 (
 optK (qS_eql PP 9 v18n6 (Value.string { data := #[66, 90, 104, 49] })) fun v37n13 =>
 ifV v37n13 (
 optK (q_eql PP 3 v20n7 (Value.int .i64 3)) fun v41n14 =>
 ifV v41n14 (
 optK (q_eql PP 3 v24n9 (Value.int .i64 1)) fun v45n15 =>
 ifV v45n15 (
 (inside (rec 33 #[v11n2])).bind fun v49n16 =>
 ifV v49n16 (
 optK (qS_add PP 9 v18n6 v22n8) fun v54n17 =>
 (inside (rec 31 #[v11n2, (Value.int .i64 1000)])).bind fun v56n18 =>
 optK (qS_add PP 9 v54n17 v56n18) fun v57n19 =>
 (inside (rec 68 #[(Value.int .i64 1), (Value.int .i64 24), (Value.string { data := #[97] })])).bind fun v58n20 =>
 optK (qS_eql PP 9 v57n19 v58n20) fun v59n21 =>
 outK [v59n21]) (
 outK [(Value.bool false)])) (
 outK [(Value.bool false)])) (
 outK [(Value.bool false)])) (
 outK [(Value.bool false)])) (
 outK [(Value.bool false)])) (
 outK [(Value.bool false)])) (
 outK [(Value.bool false)])
theorem fsh_balerlaw23_letter (lf d : Nat) : inside (F_balerlaw23_letter lf d (evC lf d)) = evC lf (d + 1) 24 #[] := by
  unfold F_balerlaw23_letter; (try simp only [clash3_eq, insB_eq, qS_add_eq (P := PP) nf9, qS_eql_eq (P := PP) nf9, q_eql_eq (P := PP) nf25, q_eql_eq (P := PP) nf3]); kernel_rfl

noncomputable def F_press_New (lf d : Nat) (rec : RT) (a0 a1 a2 : Value) : M Value :=
 (inside (rec 69 #[a0, a1])).bind fun v17n1 =>
 optK (evExtract v17n1 0) fun v18n2 =>
 optK (evExtract v17n1 1) fun v19n3 =>
 optK (q_neq PP 25 v19n3 (Value.int .i64 0)) fun v21n4 =>
 ifV v21n4 (
 outK [(Value.pointer none), (Value.int .i64 1)]) (
 (inside (rec 70 #[a2])).bind fun v24n5 =>
 optK (un3 PP .not v24n5) fun v25n6 =>
 ifV v25n6 (
 outK [(Value.pointer none), (Value.int .i64 1)]) (
 (inside (rec 71 #[v18n2])).bind fun v29n7 =>
 optK (evExtract v29n7 0) fun v30n8 =>
 optK (evExtract v29n7 1) fun v31n9 =>
 (inside (rec 72 #[a0])).bind fun v34n10 =>
 optK (evExtract v34n10 0) fun v35n11 =>
 optK (evExtract v34n10 1) fun v36n12 =>
 (inside (rec 21 #[v35n11])).bind fun v41n13 =>
 insB (evBuildZ PP 109 [Value.int .i64 0, Value.string ⟨⟨[]⟩⟩, Value.bool false, Value.pointer none, Value.bool false, Value.slice none 0 0, Value.pointer none, Value.int .i64 0, Value.pointer none, Value.string ⟨⟨[]⟩⟩, Value.bool false, Value.int .i64 0] [(0, a2), (3, v30n8), (8, v35n11), (9, v41n13)]) fun v42n14 =>
 insB (evBox3 PP 109 v42n14) fun v43n15 =>
 outK [v43n15, (Value.int .i64 0)]))
theorem fsh_press_New (lf d : Nat) (a0 a1 a2 : Value) : inside (F_press_New lf d (evC lf d) a0 a1 a2) = evC lf (d + 1) 25 #[a0, a1, a2] := by
  unfold F_press_New; (try simp only [bz109, clash3_eq, evBox3_eq, insB_eq, q_neq_eq (P := PP) nf25, un3_eq]); kernel_rfl

noncomputable def F_press_Press_Feed (lf d : Nat) (rec : RT) (a0 a1 : Value) : M Value :=
 optK (qP_eql PP 48 a0 (Value.pointer none)) fun v7n1 =>
 ifV v7n1 (
 outK [(Value.int .i64 0)]) (
 optK (nil2 a0) fun v10n2 =>
 optK (evFA3 PP 109 2 v10n2 2) fun v11n3 =>
 insB (evLoad3 PP 4 v11n3) fun v12n4 =>
 ifV v12n4 (
 outK [(Value.int .i64 0)]) (
 optK (len2 PP #[9] [a1]) fun v15n5 =>
 optK (nil2 a0) fun v17n6 =>
 optK (evFA3 PP 109 0 v17n6 0) fun v18n7 =>
 insB (evLoad3 PP 3 v18n7) fun v19n8 =>
 optK (nil2 a0) fun v21n9 =>
 optK (evFA3 PP 109 1 v21n9 1) fun v22n10 =>
 insB (evLoad3 PP 9 v22n10) fun v23n11 =>
 optK (len2 PP #[9] [v23n11]) fun v24n12 =>
 optK (q_sub PP 3 v19n8 v24n12) fun v25n13 =>
 optK (min2 [v15n5, v25n13]) fun v26n14 =>
 optK (nil2 a0) fun v28n15 =>
 optK (evFA3 PP 109 1 v28n15 1) fun v29n16 =>
 insB (evLoad3 PP 9 v29n16) fun v30n17 =>
 slice3 PP 9 a1 none (some v26n14) none fun v33n18 =>
 optK (qS_add PP 9 v30n17 v33n18) fun v34n19 =>
 optK (nil2 a0) fun v35n20 =>
 optK (evFA3 PP 109 1 v35n20 1) fun v36n21 =>
 insB (evStore3 PP 9 v36n21 v34n19) fun u22 =>
 outK [v26n14]))
theorem fsh_press_Press_Feed (lf d : Nat) (a0 a1 : Value) : inside (F_press_Press_Feed lf d (evC lf d) a0 a1) = evC lf (d + 1) 26 #[a0, a1] := by
  unfold F_press_Press_Feed; (try simp only [clash3_eq, evFA3_eq (P := PP) gf109f0, evFA3_eq (P := PP) gf109f1, evFA3_eq (P := PP) gf109f2, evLoad3_eq (P := PP) ga3, evLoad3_eq (P := PP) ga4, evLoad3_eq (P := PP) ga9, evStore3_eq (P := PP) gs9, insB_eq, qP_eql_eq (P := PP) Tryz.underlying48, qS_add_eq (P := PP) nf9, q_sub_eq (P := PP) nf3, slice3_eq (P := PP) Tryz.underlying9]); kernel_rfl

noncomputable def F_press_Press_Stopped (lf d : Nat) (rec : RT) (a0 : Value) : M Value :=
 optK (qP_eql PP 48 a0 (Value.pointer none)) fun v5n1 =>
 ifV v5n1 (
 outK [(Value.bool true)]) (
 optK (nil2 a0) fun v8n2 =>
 optK (evFA3 PP 109 10 v8n2 10) fun v9n3 =>
 insB (evLoad3 PP 4 v9n3) fun v10n4 =>
 ifV v10n4 (
 outK [(Value.bool true)]) (
 (inside (rec 75 #[a0])).bind fun v14n5 =>
 ifV v14n5 (
 optK (nil2 a0) fun v16n6 =>
 optK (evFA3 PP 109 9 v16n6 9) fun v17n7 =>
 insB (evLoad3 PP 9 v17n7) fun v18n8 =>
 optK (qS_neq PP 9 v18n8 (Value.string { data := #[] })) fun v19n9 =>
 outK [v19n9]) (
 (inside (rec 76 #[a0])).bind fun v21n10 =>
 optK (un3 PP .not v21n10) fun v22n11 =>
 ifV v22n11 (
 optK (nil2 a0) fun v25n12 =>
 optK (evFA3 PP 109 1 v25n12 1) fun v26n13 =>
 insB (evLoad3 PP 9 v26n13) fun v27n14 =>
 optK (qS_eql PP 9 v27n14 (Value.string { data := #[] })) fun v28n15 =>
 outK [v28n15]) (
 outK [(Value.bool false)]))))
theorem fsh_press_Press_Stopped (lf d : Nat) (a0 : Value) : inside (F_press_Press_Stopped lf d (evC lf d) a0) = evC lf (d + 1) 28 #[a0] := by
  unfold F_press_Press_Stopped; (try simp only [clash3_eq, evFA3_eq (P := PP) gf109f1, evFA3_eq (P := PP) gf109f10, evFA3_eq (P := PP) gf109f9, evLoad3_eq (P := PP) ga4, evLoad3_eq (P := PP) ga9, insB_eq, qP_eql_eq (P := PP) Tryz.underlying48, qS_eql_eq (P := PP) nf9, qS_neq_eq (P := PP) nf9, un3_eq]); kernel_rfl

noncomputable def F_press_Press_End (lf d : Nat) (rec : RT) (a0 : Value) : M Value :=
 optK (qP_eql PP 48 a0 (Value.pointer none)) fun v4n1 =>
 ifV v4n1 (
 outK [(Value.int .i64 7)]) (
 optK (nil2 a0) fun v7n2 =>
 optK (evFA3 PP 109 2 v7n2 2) fun v8n3 =>
 insB (evLoad3 PP 4 v8n3) fun v9n4 =>
 ifV v9n4 (
 outK [(Value.int .i64 7)]) (
 optK (nil2 a0) fun v12n5 =>
 optK (evFA3 PP 109 2 v12n5 2) fun v13n6 =>
 insB (evStore3 PP 4 v13n6 (Value.bool true)) fun u7 =>
 (inside (rec 77 #[a0])).bind fun v15n8 =>
 outK [(Value.int .i64 0)]))
theorem fsh_press_Press_End (lf d : Nat) (a0 : Value) : inside (F_press_Press_End lf d (evC lf d) a0) = evC lf (d + 1) 29 #[a0] := by
  unfold F_press_Press_End; (try simp only [clash3_eq, evFA3_eq (P := PP) gf109f2, evLoad3_eq (P := PP) ga4, evStore3_eq (P := PP) gs4, insB_eq, qP_eql_eq (P := PP) Tryz.underlying48]); kernel_rfl

noncomputable def lpA_press_Press_Step (lf d fu : Nat) (k : KT) (x0 x1 x4 x5 : Value) : M Value := loopK (fun s1 k1 => codeK PP (evC lf d) (gtA 30) lf (codeAt (bodyOf PP 30) [true, true, false, false, false]) s1 k1) [0, 1, 4, 5] fu [(0, x0), (1, x1), (4, x4), (5, x5)] k
noncomputable def kcA_press_Press_Step (lf d : Nat) : KT := contAt PP (evC lf d) (gtA 30) lf (bodyOf PP 30) [true, true, false, false] (endK PP (resOf PP 30))
noncomputable def LA_press_Press_Step (lf d : Nat) (rec : RT) (k : KT) : Nat → Value → Value → Value → Value → M Value
 | 0, _, _, _, _ => M.fail
 | fu + 1, x0, x1, x4, x5 =>
 optK (q_lss PP 3 x5 x1) fun v8n1 =>
 ifV v8n1 (
 (inside (rec 28 #[x0])).bind fun v11n2 =>
 optK (un3 PP .not v11n2) fun v12n3 =>
 ifV v12n3 (
 optK (q_sub PP 3 x1 x5) fun v18n4 =>
 (inside (rec 78 #[x0, v18n4])).bind fun v19n5 =>
 optK (q_add PP 3 x5 v19n5) fun v20n6 =>
 LA_press_Press_Step lf d rec k fu x0 x1 x4 v20n6) (
 k (Ex.exit 0) [(0, x0), (1, x1), (4, x4), (5, x5), (13, v12n3)])) (
 k (Ex.exit 0) [(0, x0), (1, x1), (4, x4), (5, x5), (13, (Value.bool false))])
noncomputable def KA_press_Press_Step (lf d : Nat) (rec : RT) (dflt : KT) : KT := (kEx 0 (runCur [0, 1, 4, 5, 13] (fun y0 y1 y4 y5 y13 =>
 optK (qP_neq PP 48 y0 (Value.pointer none)) fun v22n7 =>
 ifV v22n7 (
 optK (nil2 y0) fun v24n8 =>
 optK (evFA3 PP 109 11 v24n8 11) fun v25n9 =>
 insB (evLoad3 PP 3 v25n9) fun v26n10 =>
 optK (q_add PP 3 v26n10 y5) fun v28n11 =>
 optK (nil2 y0) fun v29n12 =>
 optK (evFA3 PP 109 11 v29n12 11) fun v30n13 =>
 insB (evStore3 PP 3 v30n13 v28n11) fun u14 =>
 outK [y5]) (
 outK [y5])) (dflt (Ex.exit 0))) dflt)
noncomputable def F_press_Press_Step (lf d : Nat) (rec : RT) (a0 a1 : Value) : M Value :=
 LA_press_Press_Step lf d rec (KA_press_Press_Step lf d rec (kcA_press_Press_Step lf d)) lf a0 a1 (Value.int .i64 0) (Value.int .i64 0)
theorem LQA_press_Press_Step (lf d : Nat) (k : KT) : ∀ fu : Nat, LA_press_Press_Step lf d (evC lf d) k fu = lpA_press_Press_Step lf d fu k
  | 0 => by funext x0 x1 x4 x5; kernel_rfl
  | fu + 1 => by
    have ih := LQA_press_Press_Step lf d k fu
    funext x0 x1 x4 x5; simp only [LA_press_Press_Step, ih, clash3_eq, insB_eq, q_add_eq (P := PP) nf3, q_lss_eq (P := PP) nf3, q_sub_eq (P := PP) nf3, un3_eq]; kernel_rfl
set_option maxRecDepth 20000 in
theorem KQA_press_Press_Step (lf d : Nat) : KA_press_Press_Step lf d (evC lf d) (kcA_press_Press_Step lf d) = kcA_press_Press_Step lf d := by
  unfold KA_press_Press_Step
  refine Eq.trans (kEx_eq ?_) ?_
  · exact (runCur_eq _ _ _ (by intro y0 y1 y4 y5 y13; show _ = _; (try simp only [clash3_eq, evFA3_eq (P := PP) gf109f11, evLoad3_eq (P := PP) ga3, evStore3_eq (P := PP) gs3, insB_eq, qP_neq_eq (P := PP) Tryz.underlying48, q_add_eq (P := PP) nf3]); kernel_rfl))
  rfl
theorem fsh_press_Press_Step (lf d : Nat) (a0 a1 : Value) : inside (F_press_Press_Step lf d (evC lf d) a0 a1) = evC lf (d + 1) 30 #[a0, a1] := by
  unfold F_press_Press_Step; (try simp only [KQA_press_Press_Step lf d, LQA_press_Press_Step, clash3_eq, insB_eq]); kernel_rfl

noncomputable def F_press_Press_Take (lf d : Nat) (rec : RT) (a0 a1 : Value) : M Value :=
 optK (qP_eql PP 48 a0 (Value.pointer none)) fun v8n1 =>
 ifV v8n1 (
 outK [(Value.string { data := #[] })]) (
 optK (q_lss PP 3 a1 (Value.int .i64 1)) fun v11n2 =>
 ifV v11n2 (
 outK [(Value.string { data := #[] })]) (
 optK (nil2 a0) fun v15n3 =>
 optK (evFA3 PP 109 9 v15n3 9) fun v16n4 =>
 insB (evLoad3 PP 9 v16n4) fun v17n5 =>
 optK (len2 PP #[9] [v17n5]) fun v18n6 =>
 optK (min2 [a1, v18n6]) fun v19n7 =>
 optK (nil2 a0) fun v21n8 =>
 optK (evFA3 PP 109 9 v21n8 9) fun v22n9 =>
 insB (evLoad3 PP 9 v22n9) fun v23n10 =>
 slice3 PP 9 v23n10 none (some v19n7) none fun v25n11 =>
 optK (nil2 a0) fun v28n12 =>
 optK (evFA3 PP 109 9 v28n12 9) fun v29n13 =>
 insB (evLoad3 PP 9 v29n13) fun v30n14 =>
 slice3 PP 9 v30n14 (some v19n7) none none fun v32n15 =>
 optK (nil2 a0) fun v33n16 =>
 optK (evFA3 PP 109 9 v33n16 9) fun v34n17 =>
 insB (evStore3 PP 9 v34n17 v32n15) fun u18 =>
 outK [v25n11]))
theorem fsh_press_Press_Take (lf d : Nat) (a0 a1 : Value) : inside (F_press_Press_Take lf d (evC lf d) a0 a1) = evC lf (d + 1) 31 #[a0, a1] := by
  unfold F_press_Press_Take; (try simp only [clash3_eq, evFA3_eq (P := PP) gf109f9, evLoad3_eq (P := PP) ga9, evStore3_eq (P := PP) gs9, insB_eq, qP_eql_eq (P := PP) Tryz.underlying48, q_lss_eq (P := PP) nf3, slice3_eq (P := PP) Tryz.underlying9]); kernel_rfl

noncomputable def F_press_Press_Done (lf d : Nat) (rec : RT) (a0 : Value) : M Value :=
 optK (qP_neq PP 48 a0 (Value.pointer none)) fun v4n1 =>
 ifV v4n1 (
 optK (nil2 a0) fun v7n2 =>
 optK (evFA3 PP 109 10 v7n2 10) fun v8n3 =>
 insB (evLoad3 PP 4 v8n3) fun v9n4 =>
 outK [v9n4]) (
 outK [(Value.bool false)])
theorem fsh_press_Press_Done (lf d : Nat) (a0 : Value) : inside (F_press_Press_Done lf d (evC lf d) a0) = evC lf (d + 1) 33 #[a0] := by
  unfold F_press_Press_Done; (try simp only [clash3_eq, evFA3_eq (P := PP) gf109f10, evLoad3_eq (P := PP) ga4, insB_eq, qP_neq_eq (P := PP) Tryz.underlying48]); kernel_rfl

noncomputable def F_code_chosen (lf d : Nat) (rec : RT) (a0 a1 : Value) : M Value :=
 insB (evAllocZ 74 [Value.slice none 0 0, Value.slice none 0 0]) fun v4n1 =>
 optK (len2 PP #[22] [a0]) fun v7n2 =>
 optK (q_eql PP 3 v7n2 (Value.int .i64 0)) fun v8n3 =>
 ifV v8n3 (
 insB (evBuildZ PP 74 [Value.slice none 0 0, Value.slice none 0 0] []) fun v19n4 =>
 insB (evStoreA3 PP 74 2 v4n1 v19n4) fun u5 =>
 (evLoad PP 74 v4n1).bind fun vrn6 =>
 outK [vrn6, (Value.int .i64 1)]) (
 optK (q_sub PP 3 a1 (Value.int .i64 1)) fun v12n7 =>
 (inside (rec 87 #[a0, v12n7])).bind fun v13n8 =>
 optK (len2 PP #[22] [a0]) fun v15n9 =>
 optK (q_sub PP 3 v15n9 (Value.int .i64 1)) fun v16n10 =>
 optK (q_neq PP 3 v13n8 v16n10) fun v17n11 =>
 ifV v17n11 (
 insB (evBuildZ PP 74 [Value.slice none 0 0, Value.slice none 0 0] []) fun v19n12 =>
 insB (evStoreA3 PP 74 2 v4n1 v19n12) fun u13 =>
 (evLoad PP 74 v4n1).bind fun vrn14 =>
 outK [vrn14, (Value.int .i64 1)]) (
 (inside (rec 88 #[a0, a1])).bind fun v22n15 =>
 optK (evExtract v22n15 0) fun v23n16 =>
 optK (evExtract v22n15 1) fun v24n17 =>
 insB (evStoreA3 PP 74 2 v4n1 v23n16) fun u18 =>
 (evLoad PP 74 v4n1).bind fun vrn19 =>
 outK [vrn19, v24n17]))
theorem fsh_code_chosen (lf d : Nat) (a0 a1 : Value) : inside (F_code_chosen lf d (evC lf d) a0 a1) = evC lf (d + 1) 47 #[a0, a1] := by
  unfold F_code_chosen; (try simp only [az74, bz74, clash3_eq, evStoreA3_eq (P := PP) gs74, insB_eq, q_eql_eq (P := PP) nf3, q_neq_eq (P := PP) nf3, q_sub_eq (P := PP) nf3]); kernel_rfl

noncomputable def lpA_picks_Write (lf d fu : Nat) (k : KT) (x0 x1 x2 x6 x9 x12 x27 x28 x29 : Value) : M Value := loopK (fun s1 k1 => codeK PP (evC lf d) (gtA 48) lf (codeAt (bodyOf PP 48) [true, true, true, true, false, true, false, false]) s1 k1) [0, 1, 2, 6, 9, 12, 27, 28, 29] fu [(0, x0), (1, x1), (2, x2), (6, x6), (9, x9), (12, x12), (27, x27), (28, x28), (29, x29)] k
noncomputable def kcA_picks_Write (lf d : Nat) : KT := contAt PP (evC lf d) (gtA 48) lf (bodyOf PP 48) [true, true, true, true, false, true, false] (endK PP (resOf PP 48))
noncomputable def LA_picks_Write (lf d : Nat) (rec : RT) (k : KT) : Nat → Value → Value → Value → Value → Value → Value → Value → Value → Value → M Value
 | 0, _, _, _, _, _, _, _, _, _ => M.fail
 | fu + 1, x0, x1, x2, x6, x9, x12, x27, x28, x29 =>
 optK (q_lss PP 3 x29 x28) fun v30n11 =>
 ifV v30n11 (
 optK (evIA3 PP 22 1 x27 x29) fun v31n12 =>
 insB (evLoad3 PP 3 v31n12) fun v32n13 =>
 optK (q_add PP 3 v32n13 (Value.int .i64 1)) fun v35n14 =>
 optK (q_shl PP 38 (Value.int .u32 1) v35n14) fun v36n15 =>
 optK (q_sub PP 38 v36n15 (Value.int .u32 2)) fun v37n16 =>
 optK (q_add PP 3 v32n13 (Value.int .i64 1)) fun v39n17 =>
 (inside (rec 65 #[x0, v37n16, v39n17])).bind fun v40n18 =>
 optK (q_add PP 3 x29 (Value.int .i64 1)) fun v41n19 =>
 LA_picks_Write lf d rec k fu x0 x1 x2 x6 x9 x12 x27 x28 v41n19) (
 k (Ex.exit 1) [(0, x0), (1, x1), (2, x2), (6, x6), (9, x9), (12, x12), (27, x27), (28, x28), (29, x29), (30, v30n11)])
noncomputable def KA_picks_Write (lf d : Nat) (rec : RT) (dflt : KT) : KT := (kEx 1 (runCur [0, 1, 2, 6, 9, 12, 27, 28, 29, 30] (fun y0 y1 y2 y6 y9 y12 y27 y28 y29 y30 =>
 outK [(Value.int .i64 0)]) (dflt (Ex.exit 1))) dflt)
noncomputable def F_picks_Write (lf d : Nat) (rec : RT) (a0 a1 a2 : Value) : M Value :=
 optK (qP_eql PP 71 a0 (Value.pointer none)) fun v11n1 =>
 ifV v11n1 (
 outK [(Value.int .i64 7)]) (
 (inside (rec 89 #[a1, a2])).bind fun v15n2 =>
 optK (un3 PP .not v15n2) fun v16n3 =>
 ifV v16n3 (
 outK [(Value.int .i64 1)]) (
 conv3 PP 3 38 .i64 .u32 a2 fun v19n4 =>
 (inside (rec 65 #[a0, v19n4, (Value.int .i64 3)])).bind fun v20n5 =>
 optK (len2 PP #[22] [a1]) fun v23n6 =>
 conv3 PP 3 38 .i64 .u32 v23n6 fun v24n7 =>
 (inside (rec 65 #[a0, v24n7, (Value.int .i64 15)])).bind fun v25n8 =>
 (inside (rec 90 #[a1])).bind fun v27n9 =>
 optK (len2 PP #[22] [v27n9]) fun v28n10 =>
 LA_picks_Write lf d rec (KA_picks_Write lf d rec (kcA_picks_Write lf d)) lf a0 a1 a2 (Value.int .i64 0) v11n1 v16n3 v27n9 v28n10 (Value.int .i64 0)))
theorem LQA_picks_Write (lf d : Nat) (k : KT) : ∀ fu : Nat, LA_picks_Write lf d (evC lf d) k fu = lpA_picks_Write lf d fu k
  | 0 => by funext x0 x1 x2 x6 x9 x12 x27 x28 x29; kernel_rfl
  | fu + 1 => by
    have ih := LQA_picks_Write lf d k fu
    funext x0 x1 x2 x6 x9 x12 x27 x28 x29; simp only [LA_picks_Write, ih, clash3_eq, evIA3_eq (P := PP) Tryz.underlying22 gs3, evLoad3_eq (P := PP) ga3, insB_eq, q_add_eq (P := PP) nf3, q_lss_eq (P := PP) nf3, q_shl_eq (P := PP) nf38, q_sub_eq (P := PP) nf38]; kernel_rfl
set_option maxRecDepth 20000 in
theorem KQA_picks_Write (lf d : Nat) : KA_picks_Write lf d (evC lf d) (kcA_picks_Write lf d) = kcA_picks_Write lf d := by
  unfold KA_picks_Write
  refine Eq.trans (kEx_eq ?_) ?_
  · exact (runCur_eq _ _ _ (by intro y0 y1 y2 y6 y9 y12 y27 y28 y29 y30; show _ = _; (try simp only [clash3_eq, insB_eq]); kernel_rfl))
  rfl
theorem fsh_picks_Write (lf d : Nat) (a0 a1 a2 : Value) : inside (F_picks_Write lf d (evC lf d) a0 a1 a2) = evC lf (d + 1) 48 #[a0, a1, a2] := by
  unfold F_picks_Write; (try simp only [KQA_picks_Write lf d, LQA_picks_Write, clash3_eq, conv3_eq cw3x38, insB_eq, qP_eql_eq (P := PP) Tryz.underlying71, un3_eq]); kernel_rfl

noncomputable def F_delta_Write (lf d : Nat) (rec : RT) (a0 a1 : Value) : M Value :=
 insB (evBox3 PP 71 a0) fun v2n1 =>
 insB (evLoad3 PP 71 v2n1) fun v6n2 =>
 optK (qP_eql PP 71 v6n2 (Value.pointer none)) fun v7n3 =>
 ifV v7n3 (
 outK [(Value.int .i64 7)]) (
 (inside (rec 91 #[a1])).bind fun v10n4 =>
 optK (un3 PP .not v10n4) fun v11n5 =>
 ifV v11n5 (
 outK [(Value.int .i64 1)]) (
 (inside (rec 92 #[a1, (Value.func (Go.Fn.func 93) #[] #[v2n1])])).bind fun v14n6 =>
 outK [(Value.int .i64 0)]))
theorem fsh_delta_Write (lf d : Nat) (a0 a1 : Value) : inside (F_delta_Write lf d (evC lf d) a0 a1) = evC lf (d + 1) 49 #[a0, a1] := by
  unfold F_delta_Write; (try simp only [clash3_eq, evBox3_eq, evLoad3_eq (P := PP) ga71, insB_eq, qP_eql_eq (P := PP) Tryz.underlying71, un3_eq]); kernel_rfl

noncomputable def lpA_canon_New (lf d fu : Nat) (k : KT) (x0 x2 x3 x4 x5 x6 x9 x18 : Value) : M Value := loopK (fun s1 k1 => codeK PP (evC lf d) (gtA 50) lf (codeAt (bodyOf PP 50) [true, true, true, true, false, true, false, false]) s1 k1) [0, 2, 3, 4, 5, 6, 9, 18] fu [(0, x0), (2, x2), (3, x3), (4, x4), (5, x5), (6, x6), (9, x9), (18, x18)] k
noncomputable def kcA_canon_New (lf d : Nat) : KT := contAt PP (evC lf d) (gtA 50) lf (bodyOf PP 50) [true, true, true, true, false, true, false] (endK PP (resOf PP 50))
noncomputable def lpB_canon_New (lf d fu : Nat) (k : KT) (x0 x2 x3 x4 x5 x6 x9 x18 x30 x51 x52 x53 : Value) : M Value := loopK (fun s1 k1 => codeK PP (evC lf d) (gtA 50) lf (codeAt (bodyOf PP 50) [true, true, true, true, false, true, false, false, true, false, false, true, true, true, true, false, false]) s1 k1) [0, 2, 3, 4, 5, 6, 9, 18, 30, 51, 52, 53] fu [(0, x0), (2, x2), (3, x3), (4, x4), (5, x5), (6, x6), (9, x9), (18, x18), (30, x30), (51, x51), (52, x52), (53, x53)] k
noncomputable def kcB_canon_New (lf d fu : Nat) (k : KT) : KT := contAt PP (evC lf d) (gtA 50) lf (codeAt (bodyOf PP 50) [true, true, true, true, false, true, false, false]) [true, false, false, true, true, true, true, false] (againK (fun s1 => loopK (fun s1 k1 => codeK PP (evC lf d) (gtA 50) lf (codeAt (bodyOf PP 50) [true, true, true, true, false, true, false, false]) s1 k1) [0, 2, 3, 4, 5, 6, 9, 18] fu (s1.keep [0, 2, 3, 4, 5, 6, 9, 18]) k) k)
noncomputable def KA_canon_New (lf d : Nat) (rec : RT) (dflt : KT) : KT := (kEx 1 (runCur [0, 2, 3, 4, 5, 6, 9, 18, 30] (fun y0 y2 y3 y4 y5 y6 y9 y18 y30 =>
 optK (nil2 y4) fun v84n30 =>
 optK (evFA3 PP 130 2 v84n30 2) fun v85n31 =>
 insB (evLoad3 PP 22 v85n31) fun v86n32 =>
 optK (len2 PP #[22] [v86n32]) fun v87n33 =>
 optK (nil2 y4) fun v88n34 =>
 optK (evFA3 PP 130 24 v88n34 4) fun v89n35 =>
 optK (evIAP3 PP 128 22 1 v89n35 (Value.int .i64 21)) fun v90n36 =>
 insB (evStore3 PP 3 v90n36 v87n33) fun u37 =>
 outK [y4, (Value.int .i64 0)]) (dflt (Ex.exit 1))) dflt)
noncomputable def LB_canon_New (lf d : Nat) (rec : RT) (k : KT) : Nat → Value → Value → Value → Value → Value → Value → Value → Value → Value → Value → Value → Value → M Value
 | 0, _, _, _, _, _, _, _, _, _, _, _, _ => M.fail
 | fu + 1, x0, x2, x3, x4, x5, x6, x9, x18, x30, x51, x52, x53 =>
 optK (q_lss PP 3 x53 x52) fun v54n38 =>
 ifV v54n38 (
 optK (evIA3 PP 22 1 x51 x53) fun v56n39 =>
 insB (evLoad3 PP 3 v56n39) fun v57n40 =>
 optK (q_eql PP 3 v57n40 x6) fun v60n41 =>
 ifV v60n41 (
 optK (nil2 x4) fun v62n42 =>
 optK (evFA3 PP 130 1 v62n42 1) fun v63n43 =>
 insB (evLoad3 PP 126 v63n43) fun v64n44 =>
 conv3 PP 3 38 .i64 .u32 x5 fun v67n45 =>
 optK (evIA3 PP 126 1 v64n44 x53) fun v68n46 =>
 insB (evStore3 PP 38 v68n46 v67n45) fun u47 =>
 optK (nil2 x4) fun v71n48 =>
 optK (evFA3 PP 130 2 v71n48 2) fun v72n49 =>
 insB (evLoad3 PP 22 v72n49) fun v73n50 =>
 insB (evBS3 PP 22 1 [(0, x53)]) fun v75n51 =>
 insB (evAppend3 PP 22 v73n50 v75n51) fun v76n52 =>
 optK (nil2 x4) fun v77n53 =>
 optK (evFA3 PP 130 2 v77n53 2) fun v78n54 =>
 insB (evStore3 PP 22 v78n54 v76n52) fun u55 =>
 optK (q_add PP 3 x5 (Value.int .i64 1)) fun v80n56 =>
 optK (q_add PP 3 x53 (Value.int .i64 1)) fun v81n57 =>
 LB_canon_New lf d rec k fu x0 x2 x3 x4 v80n56 x6 x9 x18 x30 x51 x52 v81n57) (
 optK (q_add PP 3 x53 (Value.int .i64 1)) fun v81n58 =>
 LB_canon_New lf d rec k fu x0 x2 x3 x4 x5 x6 x9 x18 x30 x51 x52 v81n58)) (
 k (Ex.exit 3) [(0, x0), (2, x2), (3, x3), (4, x4), (5, x5), (6, x6), (9, x9), (18, x18), (30, x30), (51, x51), (52, x52), (53, x53), (54, v54n38)])
noncomputable def KB_canon_New (lf d : Nat) (rec : RT) (fu : Nat) (k : KT) (again : Value → Value → Value → Value → Value → Value → Value → Value → M Value) (dflt : KT) : KT := (kEx 3 (runCur [0, 2, 3, 4, 5, 6, 9, 18, 30, 51, 52, 53, 54] (fun y0 y2 y3 y4 y5 y6 y9 y18 y30 y51 y52 y53 y54 =>
 optK (q_add PP 3 y6 (Value.int .i64 1)) fun v32n59 =>
 again y0 y2 y3 y4 y5 v32n59 y9 y18) (dflt (Ex.exit 3))) dflt)
noncomputable def LA_canon_New (lf d : Nat) (rec : RT) (k : KT) : Nat → Value → Value → Value → Value → Value → Value → Value → Value → M Value
 | 0, _, _, _, _, _, _, _, _ => M.fail
 | fu + 1, x0, x2, x3, x4, x5, x6, x9, x18 =>
 optK (q_leq PP 3 x6 (Value.int .i64 20)) fun v30n15 =>
 ifV v30n15 (
 optK (q_mul PP 3 x5 (Value.int .i64 2)) fun v34n16 =>
 optK (nil2 x4) fun v38n17 =>
 optK (evFA3 PP 130 3 v38n17 3) fun v39n18 =>
 optK (evIAP3 PP 127 21 1 v39n18 x6) fun v40n19 =>
 insB (evStore3 PP 3 v40n19 v34n16) fun u20 =>
 optK (nil2 x4) fun v44n21 =>
 optK (evFA3 PP 130 2 v44n21 2) fun v45n22 =>
 insB (evLoad3 PP 22 v45n22) fun v46n23 =>
 optK (len2 PP #[22] [v46n23]) fun v47n24 =>
 optK (nil2 x4) fun v48n25 =>
 optK (evFA3 PP 130 24 v48n25 4) fun v49n26 =>
 optK (evIAP3 PP 128 22 1 v49n26 x6) fun v50n27 =>
 insB (evStore3 PP 3 v50n27 v47n24) fun u28 =>
 optK (len2 PP #[22] [x0]) fun v52n29 =>
 LB_canon_New lf d rec (KB_canon_New lf d rec fu k (LA_canon_New lf d rec k fu) (kcB_canon_New lf d fu k)) lf x0 x2 x3 x4 v34n16 x6 x9 x18 v30n15 x0 v52n29 (Value.int .i64 0)) (
 k (Ex.exit 1) [(0, x0), (2, x2), (3, x3), (4, x4), (5, x5), (6, x6), (9, x9), (18, x18), (30, v30n15)])
noncomputable def F_canon_New (lf d : Nat) (rec : RT) (a0 : Value) : M Value :=
 optK (len2 PP #[22] [a0]) fun v11n1 =>
 optK (q_lss PP 3 v11n1 (Value.int .i64 3)) fun v12n2 =>
 ifV v12n2 (
 outK [(Value.pointer none), (Value.int .i64 1)]) (
 optK (len2 PP #[22] [a0]) fun v15n3 =>
 optK (q_gtr PP 3 v15n3 (Value.int .i64 258)) fun v16n4 =>
 ifV v16n4 (
 outK [(Value.pointer none), (Value.int .i64 1)]) (
 (inside (rec 94 #[a0])).bind fun v20n5 =>
 optK (un3 PP .not v20n5) fun v21n6 =>
 ifV v21n6 (
 outK [(Value.pointer none), (Value.int .i64 22)]) (
 (timed (
 (inside (rec 95 #[a0])).bind fun v23n8 => M.ret v23n8)).bind fun vtn7 =>
 optK (len2 PP #[22] [a0]) fun v25n9 =>
 (timed (
 insB (evMake3 PP 126 v25n9 v25n9) fun v26n11 => M.ret v26n11)).bind fun vtn10 =>
 insB (evBuildZ PP 130 (appV [Value.slice none 0 0] (appV [Value.slice none 0 0] (appV [Value.slice none 0 0] (appV (repV (Value.int .i64 0) 21) (repV (Value.int .i64 0) 22))))) [(0, vtn7.1), (1, vtn10.1)]) fun v27n12 =>
 (timed (
 insB (evBox3 PP 130 v27n12) fun v28n14 => M.ret v28n14)).bind fun vtn13 =>
 chkT ((!(clash3 vtn7.2 vtn10.2) && true) && true) (
 LA_canon_New lf d rec (KA_canon_New lf d rec (kcA_canon_New lf d)) lf a0 (Value.pointer none) (Value.int .i64 0) vtn13.1 (Value.int .i64 0) (Value.int .i64 1) v16n4 v21n6))))
set_option maxRecDepth 20000 in
theorem KQA_canon_New (lf d : Nat) : KA_canon_New lf d (evC lf d) (kcA_canon_New lf d) = kcA_canon_New lf d := by
  unfold KA_canon_New
  refine Eq.trans (kEx_eq ?_) ?_
  · exact (runCur_eq _ _ _ (by intro y0 y2 y3 y4 y5 y6 y9 y18 y30; show _ = _; (try simp only [clash3_eq, evFA3_eq (P := PP) gf130f2, evFA3_eq (P := PP) gf130f4, evIAP3_eq (P := PP) Tryz.underlying128 gs3, evLoad3_eq (P := PP) ga22, evStore3_eq (P := PP) gs3, insB_eq]); kernel_rfl))
  rfl
theorem LQB_canon_New (lf d : Nat) (k : KT) : ∀ fu : Nat, LB_canon_New lf d (evC lf d) k fu = lpB_canon_New lf d fu k
  | 0 => by funext x0 x2 x3 x4 x5 x6 x9 x18 x30 x51 x52 x53; kernel_rfl
  | fu + 1 => by
    have ih := LQB_canon_New lf d k fu
    funext x0 x2 x3 x4 x5 x6 x9 x18 x30 x51 x52 x53; simp only [LB_canon_New, ih, clash3_eq, conv3_eq cw3x38, evAppend3_eq, evBS3_eq, evFA3_eq (P := PP) gf130f1, evFA3_eq (P := PP) gf130f2, evIA3_eq (P := PP) Tryz.underlying126 gs38, evIA3_eq (P := PP) Tryz.underlying22 gs3, evLoad3_eq (P := PP) ga126, evLoad3_eq (P := PP) ga22, evLoad3_eq (P := PP) ga3, evStore3_eq (P := PP) gs22, evStore3_eq (P := PP) gs38, insB_eq, q_add_eq (P := PP) nf3, q_eql_eq (P := PP) nf3, q_lss_eq (P := PP) nf3]; kernel_rfl
set_option maxRecDepth 20000 in
theorem KQB_canon_New (lf d fu : Nat) (k : KT) (again : Value → Value → Value → Value → Value → Value → Value → Value → M Value) (ha : again = lpA_canon_New lf d fu k) : KB_canon_New lf d (evC lf d) fu k again (kcB_canon_New lf d fu k) = kcB_canon_New lf d fu k := by
  subst ha
  unfold KB_canon_New
  refine Eq.trans (kEx_eq ?_) ?_
  · exact (runCur_eq _ _ _ (by intro y0 y2 y3 y4 y5 y6 y9 y18 y30 y51 y52 y53 y54; show _ = _; (try simp only [clash3_eq, insB_eq, q_add_eq (P := PP) nf3]); kernel_rfl))
  rfl
theorem LQA_canon_New (lf d : Nat) (k : KT) : ∀ fu : Nat, LA_canon_New lf d (evC lf d) k fu = lpA_canon_New lf d fu k
  | 0 => by funext x0 x2 x3 x4 x5 x6 x9 x18; kernel_rfl
  | fu + 1 => by
    have ih := LQA_canon_New lf d k fu
    funext x0 x2 x3 x4 x5 x6 x9 x18; simp only [LA_canon_New, ih, KQB_canon_New lf d fu k _ rfl, LQB_canon_New, clash3_eq, evFA3_eq (P := PP) gf130f2, evFA3_eq (P := PP) gf130f3, evFA3_eq (P := PP) gf130f4, evIAP3_eq (P := PP) Tryz.underlying127 gs3, evIAP3_eq (P := PP) Tryz.underlying128 gs3, evLoad3_eq (P := PP) ga22, evStore3_eq (P := PP) gs3, insB_eq, q_leq_eq (P := PP) nf3, q_mul_eq (P := PP) nf3]; kernel_rfl
theorem fsh_canon_New (lf d : Nat) (a0 : Value) : inside (F_canon_New lf d (evC lf d) a0) = evC lf (d + 1) 50 #[a0] := by
  unfold F_canon_New; (try simp only [KQA_canon_New lf d, LQA_canon_New, bz130, clash3_eq, evBox3_eq, evMake3_eq, insB_eq, q_gtr_eq (P := PP) nf3, q_lss_eq (P := PP) nf3, un3_eq]); kernel_rfl

noncomputable def F_canon_Code_Put (lf d : Nat) (rec : RT) (a0 a1 a2 : Value) : M Value :=
 optK (qP_eql PP 71 a1 (Value.pointer none)) fun v11n1 =>
 ifV v11n1 (
 outK [(Value.int .i64 7)]) (
 (inside (rec 96 #[a0, a2])).bind fun v15n2 =>
 optK (evExtract v15n2 0) fun v16n3 =>
 optK (evExtract v15n2 1) fun v17n4 =>
 optK (evExtract v15n2 2) fun v18n5 =>
 optK (q_neq PP 25 v18n5 (Value.int .i64 0)) fun v20n6 =>
 ifV v20n6 (
 outK [v18n5]) (
 (inside (rec 65 #[a1, v16n3, v17n4])).bind fun v25n7 =>
 outK [v25n7]))
theorem fsh_canon_Code_Put (lf d : Nat) (a0 a1 a2 : Value) : inside (F_canon_Code_Put lf d (evC lf d) a0 a1 a2) = evC lf (d + 1) 51 #[a0, a1, a2] := by
  unfold F_canon_Code_Put; (try simp only [clash3_eq, insB_eq, qP_eql_eq (P := PP) Tryz.underlying71, q_neq_eq (P := PP) nf25]); kernel_rfl

noncomputable def F_bits_NewWriter (lf d : Nat) (rec : RT) : M Value :=
 insB (evBuildZ PP 135 [Value.slice none 0 0, Value.int .u8 0, Value.int .i64 0] []) fun v1n1 =>
 insB (evBox3 PP 135 v1n1) fun v2n2 =>
 outK [v2n2]
theorem fsh_bits_NewWriter (lf d : Nat) : inside (F_bits_NewWriter lf d (evC lf d)) = evC lf (d + 1) 53 #[] := by
  unfold F_bits_NewWriter; (try simp only [bz135, clash3_eq, evBox3_eq, insB_eq]); kernel_rfl

noncomputable def lpA_code_Bits (lf d fu : Nat) (k : KT) (x0 x1 x4 x5 x6 x7 x8 x23 x35 x36 x37 : Value) : M Value := loopK (fun s1 k1 => codeK PP (evC lf d) (gtA 54) lf (codeAt (bodyOf PP 54) [true, true, true, true, false, true, false, false]) s1 k1) [0, 1, 4, 5, 6, 7, 8, 23, 35, 36, 37] fu [(0, x0), (1, x1), (4, x4), (5, x5), (6, x6), (7, x7), (8, x8), (23, x23), (35, x35), (36, x36), (37, x37)] k
noncomputable def kcA_code_Bits (lf d : Nat) : KT := contAt PP (evC lf d) (gtA 54) lf (bodyOf PP 54) [true, true, true, true, false, true, false] (endK PP (resOf PP 54))
noncomputable def LA_code_Bits (lf d : Nat) (rec : RT) (k : KT) : Nat → Value → Value → Value → Value → Value → Value → Value → Value → Value → Value → Value → M Value
 | 0, _, _, _, _, _, _, _, _, _, _, _ => M.fail
 | fu + 1, x0, x1, x4, x5, x6, x7, x8, x23, x35, x36, x37 =>
 optK (q_lss PP 3 x37 x36) fun v38n18 =>
 ifV v38n18 (
 optK (evIA3 PP 72 1 x35 x37) fun v39n19 =>
 insB (evLoad3 PP 22 v39n19) fun v40n20 =>
 (inside (rec 98 #[v40n20])).bind fun v43n21 =>
 optK (evExtract v43n21 0) fun v44n22 =>
 optK (evExtract v43n21 1) fun v45n23 =>
 optK (q_add PP 3 x8 v44n22) fun v48n24 =>
 optK (q_add PP 3 x37 (Value.int .i64 1)) fun v49n25 =>
 LA_code_Bits lf d rec k fu x0 x1 x4 x5 x6 x7 v48n24 x23 x35 x36 v49n25) (
 k (Ex.exit 0) [(0, x0), (1, x1), (4, x4), (5, x5), (6, x6), (7, x7), (8, x8), (23, x23), (35, x35), (36, x36), (37, x37), (38, v38n18)])
noncomputable def KA_code_Bits (lf d : Nat) (rec : RT) (dflt : KT) : KT := (kEx 0 (runCur [0, 1, 4, 5, 6, 7, 8, 23, 35, 36, 37, 38] (fun y0 y1 y4 y5 y6 y7 y8 y23 y35 y36 y37 y38 =>
 insB (evLoadA3 PP 74 2 y6) fun v52n26 =>
 (inside (rec 99 #[y0, v52n26])).bind fun v53n27 =>
 optK (evExtract v53n27 0) fun v54n28 =>
 optK (evExtract v53n27 1) fun v55n29 =>
 optK (q_add PP 3 y8 v54n28) fun v58n30 =>
 outK [v58n30, (Value.int .i64 0)]) (dflt (Ex.exit 0))) dflt)
noncomputable def F_code_Bits (lf d : Nat) (rec : RT) (a0 a1 : Value) : M Value :=
 (inside (rec 47 #[a0, a1])).bind fun v19n1 =>
 optK (evExtract v19n1 0) fun v20n2 =>
 optK (evExtract v19n1 1) fun v21n3 =>
 insB (evAllocZ 74 [Value.slice none 0 0, Value.slice none 0 0]) fun v6n4 =>
 insB (evStoreA3 PP 74 2 v6n4 v20n2) fun u5 =>
 optK (q_neq PP 25 v21n3 (Value.int .i64 0)) fun v23n6 =>
 ifV v23n6 (
 outK [(Value.int .i64 0), v21n3]) (
 optK (evFA3 PP 74 1 v6n4 1) fun v26n7 =>
 insB (evLoad3 PP 22 v26n7) fun v27n8 =>
 optK (evFA3 PP 74 0 v6n4 0) fun v28n9 =>
 insB (evLoad3 PP 72 v28n9) fun v29n10 =>
 optK (len2 PP #[72] [v29n10]) fun v30n11 =>
 (inside (rec 97 #[v27n8, v30n11])).bind fun v31n12 =>
 optK (evExtract v31n12 0) fun v32n13 =>
 optK (evExtract v31n12 1) fun v33n14 =>
 optK (evFA3 PP 74 0 v6n4 0) fun v34n15 =>
 insB (evLoad3 PP 72 v34n15) fun v35n16 =>
 optK (len2 PP #[72] [v35n16]) fun v36n17 =>
 LA_code_Bits lf d rec (KA_code_Bits lf d rec (kcA_code_Bits lf d)) lf a0 a1 (Value.int .i64 0) (Value.int .i64 0) v6n4 v21n3 v32n13 v23n6 v35n16 v36n17 (Value.int .i64 0))
theorem LQA_code_Bits (lf d : Nat) (k : KT) : ∀ fu : Nat, LA_code_Bits lf d (evC lf d) k fu = lpA_code_Bits lf d fu k
  | 0 => by funext x0 x1 x4 x5 x6 x7 x8 x23 x35 x36 x37; kernel_rfl
  | fu + 1 => by
    have ih := LQA_code_Bits lf d k fu
    funext x0 x1 x4 x5 x6 x7 x8 x23 x35 x36 x37; simp only [LA_code_Bits, ih, clash3_eq, evIA3_eq (P := PP) Tryz.underlying72 gs22, evLoad3_eq (P := PP) ga22, insB_eq, q_add_eq (P := PP) nf3, q_lss_eq (P := PP) nf3]; kernel_rfl
set_option maxRecDepth 20000 in
theorem KQA_code_Bits (lf d : Nat) : KA_code_Bits lf d (evC lf d) (kcA_code_Bits lf d) = kcA_code_Bits lf d := by
  unfold KA_code_Bits
  refine Eq.trans (kEx_eq ?_) ?_
  · exact (runCur_eq _ _ _ (by intro y0 y1 y4 y5 y6 y7 y8 y23 y35 y36 y37 y38; show _ = _; (try simp only [clash3_eq, evLoadA3_eq (P := PP) ga74 gs74, insB_eq, q_add_eq (P := PP) nf3]); kernel_rfl))
  rfl
theorem fsh_code_Bits (lf d : Nat) (a0 a1 : Value) : inside (F_code_Bits lf d (evC lf d) a0 a1) = evC lf (d + 1) 54 #[a0, a1] := by
  unfold F_code_Bits; (try simp only [KQA_code_Bits lf d, LQA_code_Bits, az74, clash3_eq, evFA3_eq (P := PP) gf74f0, evFA3_eq (P := PP) gf74f1, evLoad3_eq (P := PP) ga22, evLoad3_eq (P := PP) ga72, evStoreA3_eq (P := PP) gs74, insB_eq, q_neq_eq (P := PP) nf25]); kernel_rfl

noncomputable def lpA_bits_Writer_Pad (lf d fu : Nat) (k : KT) (x0 : Value) : M Value := loopK (fun s1 k1 => codeK PP (evC lf d) (gtA 56) lf (codeAt (bodyOf PP 56) [false, false]) s1 k1) [0] fu [(0, x0)] k
noncomputable def kcA_bits_Writer_Pad (lf d : Nat) : KT := contAt PP (evC lf d) (gtA 56) lf (bodyOf PP 56) [false] (endK PP (resOf PP 56))
noncomputable def LA_bits_Writer_Pad (lf d : Nat) (rec : RT) (k : KT) : Nat → Value → M Value
 | 0, _ => M.fail
 | fu + 1, x0 =>
 optK (qP_neq PP 71 x0 (Value.pointer none)) fun v3n1 =>
 ifV v3n1 (
 optK (nil2 x0) fun v6n2 =>
 optK (evFA3 PP 135 2 v6n2 2) fun v7n3 =>
 insB (evLoad3 PP 3 v7n3) fun v8n4 =>
 optK (q_rem PP 3 v8n4 (Value.int .i64 8)) fun v9n5 =>
 optK (q_neq PP 3 v9n5 (Value.int .i64 0)) fun v10n6 =>
 ifV v10n6 (
 (inside (rec 100 #[x0, (Value.int .u8 0)])).bind fun v13n7 =>
 LA_bits_Writer_Pad lf d rec k fu x0) (
 k (Ex.exit 0) [(0, x0), (11, v10n6)])) (
 k (Ex.exit 0) [(0, x0), (11, (Value.bool false))])
noncomputable def KA_bits_Writer_Pad (lf d : Nat) (rec : RT) (dflt : KT) : KT := (kEx 0 (runCur [0, 11] (fun y0 y11 =>
 outK []) (dflt (Ex.exit 0))) dflt)
noncomputable def F_bits_Writer_Pad (lf d : Nat) (rec : RT) (a0 : Value) : M Value :=
 LA_bits_Writer_Pad lf d rec (KA_bits_Writer_Pad lf d rec (kcA_bits_Writer_Pad lf d)) lf a0
theorem LQA_bits_Writer_Pad (lf d : Nat) (k : KT) : ∀ fu : Nat, LA_bits_Writer_Pad lf d (evC lf d) k fu = lpA_bits_Writer_Pad lf d fu k
  | 0 => by funext x0; kernel_rfl
  | fu + 1 => by
    have ih := LQA_bits_Writer_Pad lf d k fu
    funext x0; simp only [LA_bits_Writer_Pad, ih, clash3_eq, evFA3_eq (P := PP) gf135f2, evLoad3_eq (P := PP) ga3, insB_eq, qP_neq_eq (P := PP) Tryz.underlying71, q_neq_eq (P := PP) nf3, q_rem_eq (P := PP) nf3]; kernel_rfl
set_option maxRecDepth 20000 in
theorem KQA_bits_Writer_Pad (lf d : Nat) : KA_bits_Writer_Pad lf d (evC lf d) (kcA_bits_Writer_Pad lf d) = kcA_bits_Writer_Pad lf d := by
  unfold KA_bits_Writer_Pad
  refine Eq.trans (kEx_eq ?_) ?_
  · exact (runCur_eq _ _ _ (by intro y0 y11; show _ = _; (try simp only [clash3_eq, insB_eq]); kernel_rfl))
  rfl
theorem fsh_bits_Writer_Pad (lf d : Nat) (a0 : Value) : inside (F_bits_Writer_Pad lf d (evC lf d) a0) = evC lf (d + 1) 56 #[a0] := by
  unfold F_bits_Writer_Pad; (try simp only [KQA_bits_Writer_Pad lf d, LQA_bits_Writer_Pad, clash3_eq, insB_eq]); kernel_rfl

noncomputable def F_bits_Writer_Take (lf d : Nat) (rec : RT) (a0 : Value) : M Value :=
 optK (qP_eql PP 71 a0 (Value.pointer none)) fun v5n1 =>
 ifV v5n1 (
 outK [(Value.string { data := #[] })]) (
 optK (nil2 a0) fun v7n2 =>
 optK (evFA3 PP 135 0 v7n2 0) fun v8n3 =>
 insB (evLoad3 PP 133 v8n3) fun v9n4 =>
 insB (evToStr3 v9n4) fun v10n5 =>
 optK (nil2 a0) fun v12n6 =>
 optK (evFA3 PP 135 0 v12n6 0) fun v13n7 =>
 insB (evStore3 PP 133 v13n7 (Value.slice none 0 0)) fun u8 =>
 outK [v10n5])
theorem fsh_bits_Writer_Take (lf d : Nat) (a0 : Value) : inside (F_bits_Writer_Take lf d (evC lf d) a0) = evC lf (d + 1) 57 #[a0] := by
  unfold F_bits_Writer_Take; (try simp only [clash3_eq, evFA3_eq (P := PP) gf135f0, evLoad3_eq (P := PP) ga133, evStore3_eq (P := PP) gs133, evToStr3_eq, insB_eq, qP_eql_eq (P := PP) Tryz.underlying71]); kernel_rfl

noncomputable def F_stream_Writer_magic (lf d : Nat) (rec : RT) (a0 a1 : Value) : M Value :=
 optK (nil2 a0) fun v5n1 =>
 optK (evFA3 PP 89 0 v5n1 0) fun v6n2 =>
 insB (evLoad3 PP 71 v6n2) fun v7n3 =>
 optK (q_shr PP 93 a1 (Value.int .u64 24)) fun v9n4 =>
 conv3 PP 93 38 .u64 .u32 v9n4 fun v10n5 =>
 (inside (rec 65 #[v7n3, v10n5, (Value.int .i64 24)])).bind fun v11n6 =>
 optK (nil2 a0) fun v13n7 =>
 optK (evFA3 PP 89 0 v13n7 0) fun v14n8 =>
 insB (evLoad3 PP 71 v14n8) fun v15n9 =>
 optK (q_and PP 93 a1 (Value.int .u64 16777215)) fun v17n10 =>
 conv3 PP 93 38 .u64 .u32 v17n10 fun v18n11 =>
 (inside (rec 65 #[v15n9, v18n11, (Value.int .i64 24)])).bind fun v19n12 =>
 outK []
theorem fsh_stream_Writer_magic (lf d : Nat) (a0 a1 : Value) : inside (F_stream_Writer_magic lf d (evC lf d) a0 a1) = evC lf (d + 1) 62 #[a0, a1] := by
  unfold F_stream_Writer_magic; (try simp only [clash3_eq, conv3_eq cw93x38, evFA3_eq (P := PP) gf89f0, evLoad3_eq (P := PP) ga71, insB_eq, q_and_eq (P := PP) nf93, q_shr_eq (P := PP) nf93]); kernel_rfl

noncomputable def F_crc_Combine (lf d : Nat) (rec : RT) (a0 a1 : Value) : M Value :=
 optK (q_shl PP 38 a0 (Value.int .u64 1)) fun v6n1 =>
 optK (q_shr PP 38 a0 (Value.int .u64 31)) fun v8n2 =>
 optK (q_xor PP 38 v6n1 v8n2) fun v9n3 =>
 optK (q_xor PP 38 v9n3 a1) fun v11n4 =>
 outK [v11n4]
theorem fsh_crc_Combine (lf d : Nat) (a0 a1 : Value) : inside (F_crc_Combine lf d (evC lf d) a0 a1) = evC lf (d + 1) 63 #[a0, a1] := by
  unfold F_crc_Combine; (try simp only [clash3_eq, insB_eq, q_shl_eq (P := PP) nf38, q_shr_eq (P := PP) nf38, q_xor_eq (P := PP) nf38]); kernel_rfl

noncomputable def F_block_Turned (lf d : Nat) (rec : RT) (a0 a1 a2 a3 : Value) : M Value :=
 optK (qP_eql PP 71 a0 (Value.pointer none)) fun v18n1 =>
 ifV v18n1 (
 outK [(Value.int .i64 7)]) (
 optK (qS_eql PP 9 a1 (Value.string { data := #[] })) fun v21n2 =>
 ifV v21n2 (
 outK [(Value.int .i64 1)]) (
 optK (len2 PP #[9] [a1]) fun v24n3 =>
 optK (q_gtr PP 3 v24n3 (Value.int .i64 900000)) fun v25n4 =>
 ifV v25n4 (
 outK [(Value.int .i64 1)]) (
 optK (q_lss PP 3 a2 (Value.int .i64 0)) fun v29n5 =>
 ifV v29n5 (
 outK [(Value.int .i64 1)]) (
 optK (len2 PP #[9] [a1]) fun v34n6 =>
 optK (q_geq PP 3 a2 v34n6) fun v35n7 =>
 ifV v35n7 (
 outK [(Value.int .i64 1)]) (
 (inside (rec 106 #[a1])).bind fun v38n8 =>
 (inside (rec 107 #[a1, v38n8])).bind fun v42n9 =>
 optK (evExtract v42n9 0) fun v43n10 =>
 optK (evExtract v42n9 1) fun v44n11 =>
 optK (len2 PP #[9] [v38n8]) fun v48n12 =>
 (inside (rec 108 #[v43n10, v48n12])).bind fun v49n13 =>
 optK (evExtract v49n13 0) fun v50n14 =>
 optK (evExtract v49n13 1) fun v51n15 =>
 optK (len2 PP #[9] [v38n8]) fun v55n16 =>
 optK (q_add PP 3 v55n16 (Value.int .i64 2)) fun v56n17 =>
 (inside (rec 54 #[v50n14, v56n17])).bind fun v57n18 =>
 optK (evExtract v57n18 0) fun v58n19 =>
 optK (evExtract v57n18 1) fun v59n20 =>
 optK (q_neq PP 25 v59n20 (Value.int .i64 0)) fun v61n21 =>
 ifV v61n21 (
 outK [v59n20]) (
 (inside (rec 65 #[a0, a3, (Value.int .i64 32)])).bind fun v65n22 =>
 (inside (rec 65 #[a0, (Value.int .u32 0), (Value.int .i64 1)])).bind fun v67n23 =>
 conv3 PP 3 38 .i64 .u32 a2 fun v70n24 =>
 (inside (rec 65 #[a0, v70n24, (Value.int .i64 24)])).bind fun v71n25 =>
 (inside (rec 109 #[a0, v38n8])).bind fun v74n26 =>
 optK (len2 PP #[9] [v38n8]) fun v78n27 =>
 optK (q_add PP 3 v78n27 (Value.int .i64 2)) fun v79n28 =>
 (inside (rec 12 #[a0, v50n14, v79n28])).bind fun v80n29 =>
 outK [v80n29]))))))
theorem fsh_block_Turned (lf d : Nat) (a0 a1 a2 a3 : Value) : inside (F_block_Turned lf d (evC lf d) a0 a1 a2 a3) = evC lf (d + 1) 64 #[a0, a1, a2, a3] := by
  unfold F_block_Turned; (try simp only [clash3_eq, conv3_eq cw3x38, insB_eq, qP_eql_eq (P := PP) Tryz.underlying71, qS_eql_eq (P := PP) nf9, q_add_eq (P := PP) nf3, q_geq_eq (P := PP) nf3, q_gtr_eq (P := PP) nf3, q_lss_eq (P := PP) nf3, q_neq_eq (P := PP) nf25]); kernel_rfl

noncomputable def lpA_bits_Writer_Put (lf d fu : Nat) (k : KT) (x0 x1 x2 x6 x8 x11 x16 x17 : Value) : M Value := loopK (fun s1 k1 => codeK PP (evC lf d) (gtA 65) lf (codeAt (bodyOf PP 65) [true, true, false, true, false, false]) s1 k1) [0, 1, 2, 6, 8, 11, 16, 17] fu [(0, x0), (1, x1), (2, x2), (6, x6), (8, x8), (11, x11), (16, x16), (17, x17)] k
noncomputable def kcA_bits_Writer_Put (lf d : Nat) : KT := contAt PP (evC lf d) (gtA 65) lf (bodyOf PP 65) [true, true, false, true, false] (endK PP (resOf PP 65))
noncomputable def LA_bits_Writer_Put (lf d : Nat) (rec : RT) (k : KT) : Nat → Value → Value → Value → Value → Value → Value → Value → Value → M Value
 | 0, _, _, _, _, _, _, _, _ => M.fail
 | fu + 1, x0, x1, x2, x6, x8, x11, x16, x17 =>
 optK (q_lss PP 3 x17 x16) fun v18n4 =>
 ifV v18n4 (
 optK (q_sub PP 3 x2 (Value.int .i64 1)) fun v23n5 =>
 optK (q_sub PP 3 v23n5 x17) fun v25n6 =>
 optK (q_shr PP 38 x1 v25n6) fun v26n7 =>
 optK (q_and PP 38 v26n7 (Value.int .u32 1)) fun v27n8 =>
 conv3 PP 38 5 .u32 .u8 v27n8 fun v28n9 =>
 (inside (rec 100 #[x0, v28n9])).bind fun v29n10 =>
 optK (q_add PP 3 x17 (Value.int .i64 1)) fun v30n11 =>
 LA_bits_Writer_Put lf d rec k fu x0 x1 x2 x6 x8 x11 x16 v30n11) (
 k (Ex.exit 1) [(0, x0), (1, x1), (2, x2), (6, x6), (8, x8), (11, x11), (16, x16), (17, x17), (18, v18n4)])
noncomputable def KA_bits_Writer_Put (lf d : Nat) (rec : RT) (dflt : KT) : KT := (kEx 1 (runCur [0, 1, 2, 6, 8, 11, 16, 17, 18] (fun y0 y1 y2 y6 y8 y11 y16 y17 y18 =>
 outK [(Value.int .i64 0)]) (dflt (Ex.exit 1))) dflt)
noncomputable def F_bits_Writer_Put (lf d : Nat) (rec : RT) (a0 a1 a2 : Value) : M Value :=
 optK (qP_eql PP 71 a0 (Value.pointer none)) fun v10n1 =>
 ifV v10n1 (
 outK [(Value.int .i64 7)]) (
 (inside (rec 110 #[a1, a2])).bind fun v14n2 =>
 optK (un3 PP .not v14n2) fun v15n3 =>
 ifV v15n3 (
 outK [(Value.int .i64 1)]) (
 LA_bits_Writer_Put lf d rec (KA_bits_Writer_Put lf d rec (kcA_bits_Writer_Put lf d)) lf a0 a1 a2 (Value.int .i64 0) v10n1 v15n3 a2 (Value.int .i64 0)))
theorem LQA_bits_Writer_Put (lf d : Nat) (k : KT) : ∀ fu : Nat, LA_bits_Writer_Put lf d (evC lf d) k fu = lpA_bits_Writer_Put lf d fu k
  | 0 => by funext x0 x1 x2 x6 x8 x11 x16 x17; kernel_rfl
  | fu + 1 => by
    have ih := LQA_bits_Writer_Put lf d k fu
    funext x0 x1 x2 x6 x8 x11 x16 x17; simp only [LA_bits_Writer_Put, ih, clash3_eq, conv3_eq cw38x5, insB_eq, q_add_eq (P := PP) nf3, q_and_eq (P := PP) nf38, q_lss_eq (P := PP) nf3, q_shr_eq (P := PP) nf38, q_sub_eq (P := PP) nf3]; kernel_rfl
set_option maxRecDepth 20000 in
theorem KQA_bits_Writer_Put (lf d : Nat) : KA_bits_Writer_Put lf d (evC lf d) (kcA_bits_Writer_Put lf d) = kcA_bits_Writer_Put lf d := by
  unfold KA_bits_Writer_Put
  refine Eq.trans (kEx_eq ?_) ?_
  · exact (runCur_eq _ _ _ (by intro y0 y1 y2 y6 y8 y11 y16 y17 y18; show _ = _; (try simp only [clash3_eq, insB_eq]); kernel_rfl))
  rfl
theorem fsh_bits_Writer_Put (lf d : Nat) (a0 a1 a2 : Value) : inside (F_bits_Writer_Put lf d (evC lf d) a0 a1 a2) = evC lf (d + 1) 65 #[a0, a1, a2] := by
  unfold F_bits_Writer_Put; (try simp only [KQA_bits_Writer_Put lf d, LQA_bits_Writer_Put, clash3_eq, insB_eq, qP_eql_eq (P := PP) Tryz.underlying71, un3_eq]); kernel_rfl

noncomputable def lpA_balerref21_With (lf d fu : Nat) (k : KT) (x0 x1 x2 x6 x7 x8 x18 x19 x20 : Value) : M Value := loopK (fun s1 k1 => codeK PP (evC lf d) (gtA 68) lf (codeAt (bodyOf PP 68) [true, true, true, false, true, false, false]) s1 k1) [0, 1, 2, 6, 7, 8, 18, 19, 20] fu [(0, x0), (1, x1), (2, x2), (6, x6), (7, x7), (8, x8), (18, x18), (19, x19), (20, x20)] k
noncomputable def kcA_balerref21_With (lf d : Nat) : KT := contAt PP (evC lf d) (gtA 68) lf (bodyOf PP 68) [true, true, true, false, true, false] (endK PP (resOf PP 68))
noncomputable def LA_balerref21_With (lf d : Nat) (rec : RT) (k : KT) : Nat → Value → Value → Value → Value → Value → Value → Value → Value → Value → M Value
 | 0, _, _, _, _, _, _, _, _, _ => M.fail
 | fu + 1, x0, x1, x2, x6, x7, x8, x18, x19, x20 =>
 optK (q_lss PP 3 x20 x19) fun v21n6 =>
 ifV v21n6 (
 optK (evIA3 PP 150 2 x18 x20) fun v22n7 =>
 insB (evLoadA3 PP 153 2 v22n7) fun v23n8 =>
 insB (evAllocZ 153 [Value.string ⟨⟨[]⟩⟩, Value.string ⟨⟨[]⟩⟩]) fun v10n9 =>
 insB (evStoreA3 PP 153 2 v10n9 v23n8) fun u10 =>
 optK (qS_add PP 9 x7 (Value.string { data := #[48, 48, 49, 49, 48, 48, 48, 49, 48, 49, 48, 48, 48, 48, 48, 49, 48, 49, 48, 49, 49, 48, 48, 49, 48, 48, 49, 48, 48, 49, 49, 48, 48, 49, 48, 49, 48, 48, 49, 49, 48, 49, 48, 49, 49, 48, 48, 49] })) fun v25n11 =>
 optK (evFA3 PP 153 0 v10n9 0) fun v26n12 =>
 (timed (
 insB (evLoad3 PP 9 v26n12) fun v27n14 => M.ret v27n14)).bind fun vtn13 =>
 (timed (
 insB (evLoadA3 PP 153 2 v10n9) fun v28n16 => M.ret v28n16)).bind fun vtn15 =>
 (timed (
 (inside (rec 116 #[vtn15.1])).bind fun v29n18 => M.ret v29n18)).bind fun vtn17 =>
 (timed (
 (inside (rec 115 #[vtn13.1, vtn17.1])).bind fun v30n20 => M.ret v30n20)).bind fun vtn19 =>
 optK (qS_add PP 9 v25n11 vtn19.1) fun v31n21 =>
 chkT ((!(clash3 vtn13.2 vtn17.2) && true) && true) (
 insB (evLoadA3 PP 153 2 v10n9) fun v33n22 =>
 (inside (rec 116 #[v33n22])).bind fun v34n23 =>
 insB (evBS3 PP 126 1 [(0, v34n23)]) fun v35n24 =>
 insB (evAppend3 PP 126 x8 v35n24) fun v36n25 =>
 optK (q_add PP 3 x20 (Value.int .i64 1)) fun v37n26 =>
 LA_balerref21_With lf d rec k fu x0 x1 x2 x6 v31n21 v36n25 x18 x19 v37n26)) (
 k (Ex.exit 0) [(0, x0), (1, x1), (2, x2), (6, x6), (7, x7), (8, x8), (18, x18), (19, x19), (20, x20), (21, v21n6)])
noncomputable def KA_balerref21_With (lf d : Nat) (rec : RT) (dflt : KT) : KT := (kEx 0 (runCur [0, 1, 2, 6, 7, 8, 18, 19, 20, 21] (fun y0 y1 y2 y6 y7 y8 y18 y19 y20 y21 =>
 (inside (rec 118 #[y8])).bind fun v40n27 =>
 optK (qS_add PP 9 y7 v40n27) fun v41n28 =>
 (inside (rec 117 #[v41n28])).bind fun v42n29 =>
 outK [v42n29]) (dflt (Ex.exit 0))) dflt)
noncomputable def F_balerref21_With (lf d : Nat) (rec : RT) (a0 a1 a2 : Value) : M Value :=
 (inside (rec 113 #[a0])).bind fun v12n1 =>
 optK (q_mul PP 3 a0 a1) fun v16n2 =>
 optK (q_sub PP 3 v16n2 (Value.int .i64 19)) fun v17n3 =>
 (inside (rec 114 #[a2, v17n3])).bind fun v18n4 =>
 optK (len2 PP #[150] [v18n4]) fun v19n5 =>
 LA_balerref21_With lf d rec (KA_balerref21_With lf d rec (kcA_balerref21_With lf d)) lf a0 a1 a2 (Value.string { data := #[] }) v12n1 (Value.slice none 0 0) v18n4 v19n5 (Value.int .i64 0)
theorem LQA_balerref21_With (lf d : Nat) (k : KT) : ∀ fu : Nat, LA_balerref21_With lf d (evC lf d) k fu = lpA_balerref21_With lf d fu k
  | 0 => by funext x0 x1 x2 x6 x7 x8 x18 x19 x20; kernel_rfl
  | fu + 1 => by
    have ih := LQA_balerref21_With lf d k fu
    funext x0 x1 x2 x6 x7 x8 x18 x19 x20; simp only [LA_balerref21_With, ih, az153, clash3_eq, evAppend3_eq, evBS3_eq, evFA3_eq (P := PP) gf153f0, evIA3_eq (P := PP) Tryz.underlying150 gs153, evLoad3_eq (P := PP) ga9, evLoadA3_eq (P := PP) ga153 gs153, evStoreA3_eq (P := PP) gs153, insB_eq, qS_add_eq (P := PP) nf9, q_add_eq (P := PP) nf3, q_lss_eq (P := PP) nf3]; kernel_rfl
set_option maxRecDepth 20000 in
theorem KQA_balerref21_With (lf d : Nat) : KA_balerref21_With lf d (evC lf d) (kcA_balerref21_With lf d) = kcA_balerref21_With lf d := by
  unfold KA_balerref21_With
  refine Eq.trans (kEx_eq ?_) ?_
  · exact (runCur_eq _ _ _ (by intro y0 y1 y2 y6 y7 y8 y18 y19 y20 y21; show _ = _; (try simp only [clash3_eq, insB_eq, qS_add_eq (P := PP) nf9]); kernel_rfl))
  rfl
theorem fsh_balerref21_With (lf d : Nat) (a0 a1 a2 : Value) : inside (F_balerref21_With lf d (evC lf d) a0 a1 a2) = evC lf (d + 1) 68 #[a0, a1, a2] := by
  unfold F_balerref21_With; (try simp only [KQA_balerref21_With lf d, LQA_balerref21_With, clash3_eq, insB_eq, q_mul_eq (P := PP) nf3, q_sub_eq (P := PP) nf3]); kernel_rfl

noncomputable def F_split_Room (lf d : Nat) (rec : RT) (a0 a1 : Value) : M Value :=
 optK (q_lss PP 3 a0 (Value.int .i64 1)) fun v7n1 =>
 ifV v7n1 (
 outK [(Value.int .i64 0), (Value.int .i64 1)]) (
 optK (q_gtr PP 3 a0 (Value.int .i64 9)) fun v10n2 =>
 ifV v10n2 (
 outK [(Value.int .i64 0), (Value.int .i64 1)]) (
 optK (q_lss PP 3 a1 (Value.int .i64 24)) fun v14n3 =>
 ifV v14n3 (
 outK [(Value.int .i64 0), (Value.int .i64 1)]) (
 optK (q_gtr PP 3 a1 (Value.int .i64 100000)) fun v18n4 =>
 ifV v18n4 (
 outK [(Value.int .i64 0), (Value.int .i64 1)]) (
 optK (q_mul PP 3 a0 a1) fun v22n5 =>
 optK (q_sub PP 3 v22n5 (Value.int .i64 19)) fun v23n6 =>
 outK [v23n6, (Value.int .i64 0)]))))
theorem fsh_split_Room (lf d : Nat) (a0 a1 : Value) : inside (F_split_Room lf d (evC lf d) a0 a1) = evC lf (d + 1) 69 #[a0, a1] := by
  unfold F_split_Room; (try simp only [clash3_eq, insB_eq, q_gtr_eq (P := PP) nf3, q_lss_eq (P := PP) nf3, q_mul_eq (P := PP) nf3, q_sub_eq (P := PP) nf3]); kernel_rfl

noncomputable def F_press_windowed (lf d : Nat) (rec : RT) (a0 : Value) : M Value :=
 optK (q_geq PP 3 a0 (Value.int .i64 64)) fun v4n1 =>
 ifV v4n1 (
 optK (q_leq PP 3 a0 (Value.int .i64 1048576)) fun v7n2 =>
 outK [v7n2]) (
 outK [(Value.bool false)])
theorem fsh_press_windowed (lf d : Nat) (a0 : Value) : inside (F_press_windowed lf d (evC lf d) a0) = evC lf (d + 1) 70 #[a0] := by
  unfold F_press_windowed; (try simp only [clash3_eq, insB_eq, q_geq_eq (P := PP) nf3, q_leq_eq (P := PP) nf3]); kernel_rfl

noncomputable def F_split_New (lf d : Nat) (rec : RT) (a0 : Value) : M Value :=
 optK (q_lss PP 3 a0 (Value.int .i64 5)) fun v5n1 =>
 ifV v5n1 (
 outK [(Value.pointer none), (Value.int .i64 1)]) (
 optK (q_gtr PP 3 a0 (Value.int .i64 900000)) fun v8n2 =>
 ifV v8n2 (
 outK [(Value.pointer none), (Value.int .i64 1)]) (
 (inside (rec 119 #[])).bind fun v10n3 =>
 insB (evBuildZ PP 160 [Value.slice none 0 0, Value.pointer none, Value.int .i64 0] [(1, v10n3)]) fun v11n4 =>
 (inside (rec 120 #[])).bind fun v13n5 =>
 insB (evBuildZ PP 164 [Value.slice none 0 0, Value.pointer none, Value.int .i64 0, Value.int .i64 0, Value.pointer none] [(0, v11n4), (1, a0), (2, v13n5)]) fun v14n6 =>
 insB (evBox3 PP 164 v14n6) fun v15n7 =>
 outK [v15n7, (Value.int .i64 0)]))
theorem fsh_split_New (lf d : Nat) (a0 : Value) : inside (F_split_New lf d (evC lf d) a0) = evC lf (d + 1) 71 #[a0] := by
  unfold F_split_New; (try simp only [bz160, bz164, clash3_eq, evBox3_eq, insB_eq, q_gtr_eq (P := PP) nf3, q_lss_eq (P := PP) nf3]); kernel_rfl

noncomputable def lpA_stream_New (lf d fu : Nat) (k : KT) (x0 x2 x3 x4 x11 x15 : Value) : M Value := loopK (fun s1 k1 => codeK PP (evC lf d) (gtA 72) lf (codeAt (bodyOf PP 72) [true, true, true, false, true, false, false]) s1 k1) [0, 2, 3, 4, 11, 15] fu [(0, x0), (2, x2), (3, x3), (4, x4), (11, x11), (15, x15)] k
noncomputable def kcA_stream_New (lf d : Nat) : KT := contAt PP (evC lf d) (gtA 72) lf (bodyOf PP 72) [true, true, true, false, true, false] (endK PP (resOf PP 72))
noncomputable def LA_stream_New (lf d : Nat) (rec : RT) (k : KT) : Nat → Value → Value → Value → Value → Value → Value → M Value
 | 0, _, _, _, _, _, _ => M.fail
 | fu + 1, x0, x2, x3, x4, x11, x15 =>
 optK (q_lss PP 3 x15 (Value.int .i64 3)) fun v16n6 =>
 ifV v16n6 (
 optK (nil2 x4) fun v19n7 =>
 optK (evFA3 PP 89 0 v19n7 0) fun v20n8 =>
 (timed (
 insB (evLoad3 PP 71 v20n8) fun v21n10 => M.ret v21n10)).bind fun vtn9 =>
 optK (index3 PP 9 (Value.string { data := #[66, 90, 104] }) x15) fun v23n11 =>
 (timed (
 conv3 PP 5 38 .u8 .u32 v23n11 fun v24n13 => M.ret v24n13)).bind fun vtn12 =>
 (timed (
 (inside (rec 65 #[vtn9.1, vtn12.1, (Value.int .i64 8)])).bind fun v25n15 => M.ret v25n15)).bind fun vtn14 =>
 chkT ((!(clash3 vtn9.2 vtn12.2) && true) && true) (
 optK (q_add PP 3 x15 (Value.int .i64 1)) fun v26n16 =>
 LA_stream_New lf d rec k fu x0 x2 x3 x4 x11 v26n16)) (
 k (Ex.exit 0) [(0, x0), (2, x2), (3, x3), (4, x4), (11, x11), (15, x15), (16, v16n6)])
noncomputable def KA_stream_New (lf d : Nat) (rec : RT) (dflt : KT) : KT := (kEx 0 (runCur [0, 2, 3, 4, 11, 15, 16] (fun y0 y2 y3 y4 y11 y15 y16 =>
 optK (nil2 y4) fun v28n17 =>
 optK (evFA3 PP 89 0 v28n17 0) fun v29n18 =>
 insB (evLoad3 PP 71 v29n18) fun v30n19 =>
 optK (q_add PP 3 (Value.int .i64 48) y0) fun v32n20 =>
 conv3 PP 3 38 .i64 .u32 v32n20 fun v33n21 =>
 (inside (rec 65 #[v30n19, v33n21, (Value.int .i64 8)])).bind fun v34n22 =>
 outK [y4, (Value.int .i64 0)]) (dflt (Ex.exit 0))) dflt)
noncomputable def F_stream_New (lf d : Nat) (rec : RT) (a0 : Value) : M Value :=
 optK (q_lss PP 3 a0 (Value.int .i64 1)) fun v7n1 =>
 ifV v7n1 (
 outK [(Value.pointer none), (Value.int .i64 1)]) (
 optK (q_gtr PP 3 a0 (Value.int .i64 9)) fun v10n2 =>
 ifV v10n2 (
 outK [(Value.pointer none), (Value.int .i64 1)]) (
 (inside (rec 53 #[])).bind fun v12n3 =>
 insB (evBuildZ PP 89 [Value.pointer none, Value.int .u32 0, Value.bool false] [(0, v12n3)]) fun v13n4 =>
 insB (evBox3 PP 89 v13n4) fun v14n5 =>
 LA_stream_New lf d rec (KA_stream_New lf d rec (kcA_stream_New lf d)) lf a0 (Value.pointer none) (Value.int .i64 0) v14n5 v10n2 (Value.int .i64 0)))
theorem LQA_stream_New (lf d : Nat) (k : KT) : ∀ fu : Nat, LA_stream_New lf d (evC lf d) k fu = lpA_stream_New lf d fu k
  | 0 => by funext x0 x2 x3 x4 x11 x15; kernel_rfl
  | fu + 1 => by
    have ih := LQA_stream_New lf d k fu
    funext x0 x2 x3 x4 x11 x15; simp only [LA_stream_New, ih, clash3_eq, conv3_eq cw5x38, evFA3_eq (P := PP) gf89f0, evLoad3_eq (P := PP) ga71, index3_eq (P := PP) Tryz.underlying9, insB_eq, q_add_eq (P := PP) nf3, q_lss_eq (P := PP) nf3]; kernel_rfl
set_option maxRecDepth 20000 in
theorem KQA_stream_New (lf d : Nat) : KA_stream_New lf d (evC lf d) (kcA_stream_New lf d) = kcA_stream_New lf d := by
  unfold KA_stream_New
  refine Eq.trans (kEx_eq ?_) ?_
  · exact (runCur_eq _ _ _ (by intro y0 y2 y3 y4 y11 y15 y16; show _ = _; (try simp only [clash3_eq, conv3_eq cw3x38, evFA3_eq (P := PP) gf89f0, evLoad3_eq (P := PP) ga71, insB_eq, q_add_eq (P := PP) nf3]); kernel_rfl))
  rfl
theorem fsh_stream_New (lf d : Nat) (a0 : Value) : inside (F_stream_New lf d (evC lf d) a0) = evC lf (d + 1) 72 #[a0] := by
  unfold F_stream_New; (try simp only [KQA_stream_New lf d, LQA_stream_New, bz89, clash3_eq, evBox3_eq, insB_eq, q_gtr_eq (P := PP) nf3, q_lss_eq (P := PP) nf3]); kernel_rfl

noncomputable def F_press_Press_writes (lf d : Nat) (rec : RT) (a0 : Value) : M Value :=
 (inside (rec 76 #[a0])).bind fun v4n1 =>
 ifV v4n1 (
 optK (nil2 a0) fun v6n2 =>
 optK (evFA3 PP 109 6 v6n2 6) fun v7n3 =>
 insB (evLoad3 PP 107 v7n3) fun v8n4 =>
 optK (qP_neq PP 107 v8n4 (Value.pointer none)) fun v9n5 =>
 ifV v9n5 (
 optK (nil2 a0) fun v12n6 =>
 optK (evFA3 PP 109 6 v12n6 6) fun v13n7 =>
 insB (evLoad3 PP 107 v13n7) fun v14n8 =>
 (inside (rec 103 #[v14n8])).bind fun v15n9 =>
 ifV v15n9 (
 optK (nil2 a0) fun v19n10 =>
 optK (evFA3 PP 109 7 v19n10 7) fun v20n11 =>
 insB (evLoad3 PP 3 v20n11) fun v21n12 =>
 optK (nil2 a0) fun v23n13 =>
 optK (evFA3 PP 109 5 v23n13 5) fun v24n14 =>
 insB (evLoad3 PP 106 v24n14) fun v25n15 =>
 optK (evIA3 PP 106 3 v25n15 (Value.int .i64 0)) fun v26n16 =>
 optK (evFA3 PP 111 0 v26n16 0) fun v27n17 =>
 insB (evLoad3 PP 9 v27n17) fun v28n18 =>
 optK (len2 PP #[9] [v28n18]) fun v29n19 =>
 optK (q_sub PP 3 v29n19 (Value.int .i64 1)) fun v30n20 =>
 optK (q_eql PP 3 v21n12 v30n20) fun v31n21 =>
 outK [v31n21]) (
 outK [(Value.bool false)])) (
 outK [(Value.bool false)])) (
 optK (nil2 a0) fun v34n22 =>
 optK (evFA3 PP 109 4 v34n22 4) fun v35n23 =>
 insB (evLoad3 PP 4 v35n23) fun v36n24 =>
 outK [v36n24])
theorem fsh_press_Press_writes (lf d : Nat) (a0 : Value) : inside (F_press_Press_writes lf d (evC lf d) a0) = evC lf (d + 1) 75 #[a0] := by
  unfold F_press_Press_writes; (try simp only [clash3_eq, evFA3_eq (P := PP) gf109f4, evFA3_eq (P := PP) gf109f5, evFA3_eq (P := PP) gf109f6, evFA3_eq (P := PP) gf109f7, evFA3_eq (P := PP) gf111f0, evIA3_eq (P := PP) Tryz.underlying106 gs111, evLoad3_eq (P := PP) ga106, evLoad3_eq (P := PP) ga107, evLoad3_eq (P := PP) ga3, evLoad3_eq (P := PP) ga4, evLoad3_eq (P := PP) ga9, insB_eq, qP_neq_eq (P := PP) Tryz.underlying107, q_eql_eq (P := PP) nf3, q_sub_eq (P := PP) nf3]); kernel_rfl

noncomputable def F_press_Press_whole (lf d : Nat) (rec : RT) (a0 : Value) : M Value :=
 optK (nil2 a0) fun v4n1 =>
 optK (evFA3 PP 109 5 v4n1 5) fun v5n2 =>
 insB (evLoad3 PP 106 v5n2) fun v6n3 =>
 optK (len2 PP #[106] [v6n3]) fun v7n4 =>
 optK (q_gtr PP 3 v7n4 (Value.int .i64 0)) fun v8n5 =>
 outK [v8n5]
theorem fsh_press_Press_whole (lf d : Nat) (a0 : Value) : inside (F_press_Press_whole lf d (evC lf d) a0) = evC lf (d + 1) 76 #[a0] := by
  unfold F_press_Press_whole; (try simp only [clash3_eq, evFA3_eq (P := PP) gf109f5, evLoad3_eq (P := PP) ga106, insB_eq, q_gtr_eq (P := PP) nf3]); kernel_rfl

noncomputable def F_press_Press_flush (lf d : Nat) (rec : RT) (a0 : Value) : M Value :=
 optK (nil2 a0) fun v3n1 =>
 optK (evFA3 PP 109 2 v3n1 2) fun v4n2 =>
 insB (evLoad3 PP 4 v4n2) fun v5n3 =>
 ifV v5n3 (
 optK (nil2 a0) fun v8n4 =>
 optK (evFA3 PP 109 1 v8n4 1) fun v9n5 =>
 insB (evLoad3 PP 9 v9n5) fun v10n6 =>
 optK (qS_eql PP 9 v10n6 (Value.string { data := #[] })) fun v11n7 =>
 ifV v11n7 (
 optK (nil2 a0) fun v15n8 =>
 optK (evFA3 PP 109 4 v15n8 4) fun v16n9 =>
 insB (evLoad3 PP 4 v16n9) fun v17n10 =>
 optK (un3 PP .not v17n10) fun v18n11 =>
 ifV v18n11 (
 optK (nil2 a0) fun v22n12 =>
 optK (evFA3 PP 109 5 v22n12 5) fun v23n13 =>
 (timed (
 insB (evLoad3 PP 106 v23n13) fun v24n15 => M.ret v24n15)).bind fun vtn14 =>
 optK (nil2 a0) fun v26n16 =>
 optK (evFA3 PP 109 3 v26n16 3) fun v27n17 =>
 (timed (
 insB (evLoad3 PP 101 v27n17) fun v28n19 => M.ret v28n19)).bind fun vtn18 =>
 (timed (
 (inside (rec 123 #[vtn18.1])).bind fun v29n21 => M.ret v29n21)).bind fun vtn20 =>
 (timed (
 insB (evAppend3 PP 106 vtn14.1 vtn20.1) fun v30n23 => M.ret v30n23)).bind fun vtn22 =>
 optK (nil2 a0) fun v31n24 =>
 optK (evFA3 PP 109 5 v31n24 5) fun v32n25 =>
 (timed (
 insB (evStore3 PP 106 v32n25 vtn22.1) fun u27 => M.ret u27)).bind fun vtn26 =>
 chkT ((!(clash3 vtn14.2 vtn20.2) && true) && true) (
 optK (nil2 a0) fun v34n28 =>
 optK (evFA3 PP 109 4 v34n28 4) fun v35n29 =>
 insB (evStore3 PP 4 v35n29 (Value.bool true)) fun u30 =>
 outK [])) (
 outK [])) (
 outK [])) (
 outK [])
theorem fsh_press_Press_flush (lf d : Nat) (a0 : Value) : inside (F_press_Press_flush lf d (evC lf d) a0) = evC lf (d + 1) 77 #[a0] := by
  unfold F_press_Press_flush; (try simp only [clash3_eq, evAppend3_eq, evFA3_eq (P := PP) gf109f1, evFA3_eq (P := PP) gf109f2, evFA3_eq (P := PP) gf109f3, evFA3_eq (P := PP) gf109f4, evFA3_eq (P := PP) gf109f5, evLoad3_eq (P := PP) ga101, evLoad3_eq (P := PP) ga106, evLoad3_eq (P := PP) ga4, evLoad3_eq (P := PP) ga9, evStore3_eq (P := PP) gs106, evStore3_eq (P := PP) gs4, insB_eq, qS_eql_eq (P := PP) nf9, un3_eq]); kernel_rfl

noncomputable def F_press_Press_work (lf d : Nat) (rec : RT) (a0 a1 : Value) : M Value :=
 (inside (rec 76 #[a0])).bind fun v29n1 =>
 ifV v29n1 (
 optK (nil2 a0) fun v31n2 =>
 optK (evFA3 PP 109 6 v31n2 6) fun v32n3 =>
 insB (evLoad3 PP 107 v32n3) fun v33n4 =>
 optK (qP_eql PP 107 v33n4 (Value.pointer none)) fun v34n5 =>
 ifV v34n5 (
 optK (nil2 a0) fun v37n6 =>
 optK (evFA3 PP 109 5 v37n6 5) fun v38n7 =>
 insB (evLoad3 PP 106 v38n7) fun v39n8 =>
 optK (evIA3 PP 106 3 v39n8 (Value.int .i64 0)) fun v40n9 =>
 optK (evFA3 PP 111 0 v40n9 0) fun v41n10 =>
 insB (evLoad3 PP 9 v41n10) fun v42n11 =>
 (inside (rec 102 #[v42n11])).bind fun v43n12 =>
 optK (evExtract v43n12 0) fun v44n13 =>
 optK (evExtract v43n12 1) fun v45n14 =>
 optK (nil2 a0) fun v48n15 =>
 optK (evFA3 PP 109 6 v48n15 6) fun v49n16 =>
 insB (evStore3 PP 107 v49n16 v44n13) fun u17 =>
 optK (nil2 a0) fun v51n18 =>
 optK (evFA3 PP 109 6 v51n18 6) fun v52n19 =>
 insB (evLoad3 PP 107 v52n19) fun v53n20 =>
 (inside (rec 103 #[v53n20])).bind fun v54n21 =>
 optK (un3 PP .not v54n21) fun v55n22 =>
 ifV v55n22 (
 optK (nil2 a0) fun v57n23 =>
 optK (evFA3 PP 109 6 v57n23 6) fun v58n24 =>
 insB (evLoad3 PP 107 v58n24) fun v59n25 =>
 (inside (rec 104 #[v59n25, a1])).bind fun v61n26 =>
 outK [v61n26]) (
 (inside (rec 124 #[a0])).bind fun v63n27 =>
 outK [(Value.int .i64 1)])) (
 optK (nil2 a0) fun v51n28 =>
 optK (evFA3 PP 109 6 v51n28 6) fun v52n29 =>
 insB (evLoad3 PP 107 v52n29) fun v53n30 =>
 (inside (rec 103 #[v53n30])).bind fun v54n31 =>
 optK (un3 PP .not v54n31) fun v55n32 =>
 ifV v55n32 (
 optK (nil2 a0) fun v57n33 =>
 optK (evFA3 PP 109 6 v57n33 6) fun v58n34 =>
 insB (evLoad3 PP 107 v58n34) fun v59n35 =>
 (inside (rec 104 #[v59n35, a1])).bind fun v61n36 =>
 outK [v61n36]) (
 (inside (rec 124 #[a0])).bind fun v63n37 =>
 outK [(Value.int .i64 1)]))) (
 optK (nil2 a0) fun v66n38 =>
 optK (evFA3 PP 109 1 v66n38 1) fun v67n39 =>
 insB (evLoad3 PP 9 v67n39) fun v68n40 =>
 optK (qS_neq PP 9 v68n40 (Value.string { data := #[] })) fun v69n41 =>
 ifV v69n41 (
 (inside (rec 125 #[a0])).bind fun v71n42 =>
 outK [(Value.int .i64 1)]) (
 optK (nil2 a0) fun v8n43 =>
 optK (evFA3 PP 109 8 v8n43 8) fun v9n44 =>
 insB (evLoad3 PP 39 v9n44) fun v10n45 =>
 (inside (rec 20 #[v10n45])).bind fun v11n46 =>
 optK (nil2 a0) fun v13n47 =>
 optK (evFA3 PP 109 9 v13n47 9) fun v14n48 =>
 (timed (
 insB (evLoad3 PP 9 v14n48) fun v15n50 => M.ret v15n50)).bind fun vtn49 =>
 optK (nil2 a0) fun v17n51 =>
 optK (evFA3 PP 109 8 v17n51 8) fun v18n52 =>
 (timed (
 insB (evLoad3 PP 39 v18n52) fun v19n54 => M.ret v19n54)).bind fun vtn53 =>
 (timed (
 (inside (rec 21 #[vtn53.1])).bind fun v20n56 => M.ret v20n56)).bind fun vtn55 =>
 optK (qS_add PP 9 vtn49.1 vtn55.1) fun v21n57 =>
 optK (nil2 a0) fun v22n58 =>
 optK (evFA3 PP 109 9 v22n58 9) fun v23n59 =>
 (timed (
 insB (evStore3 PP 9 v23n59 v21n57) fun u61 => M.ret u61)).bind fun vtn60 =>
 chkT ((!(clash3 vtn49.2 vtn55.2) && true) && true) (
 optK (nil2 a0) fun v25n62 =>
 optK (evFA3 PP 109 10 v25n62 10) fun v26n63 =>
 insB (evStore3 PP 4 v26n63 (Value.bool true)) fun u64 =>
 outK [(Value.int .i64 1)])))
theorem fsh_press_Press_work (lf d : Nat) (a0 a1 : Value) : inside (F_press_Press_work lf d (evC lf d) a0 a1) = evC lf (d + 1) 78 #[a0, a1] := by
  unfold F_press_Press_work; (try simp only [clash3_eq, evFA3_eq (P := PP) gf109f1, evFA3_eq (P := PP) gf109f10, evFA3_eq (P := PP) gf109f5, evFA3_eq (P := PP) gf109f6, evFA3_eq (P := PP) gf109f8, evFA3_eq (P := PP) gf109f9, evFA3_eq (P := PP) gf111f0, evIA3_eq (P := PP) Tryz.underlying106 gs111, evLoad3_eq (P := PP) ga106, evLoad3_eq (P := PP) ga107, evLoad3_eq (P := PP) ga39, evLoad3_eq (P := PP) ga9, evStore3_eq (P := PP) gs107, evStore3_eq (P := PP) gs4, evStore3_eq (P := PP) gs9, insB_eq, qP_eql_eq (P := PP) Tryz.underlying107, qS_add_eq (P := PP) nf9, qS_neq_eq (P := PP) nf9, un3_eq]); kernel_rfl

noncomputable def F_delta_sized (lf d : Nat) (rec : RT) (a0 : Value) : M Value :=
 optK (q_geq PP 3 a0 (Value.int .i64 3)) fun v4n1 =>
 ifV v4n1 (
 optK (q_leq PP 3 a0 (Value.int .i64 258)) fun v7n2 =>
 outK [v7n2]) (
 outK [(Value.bool false)])
theorem fsh_delta_sized (lf d : Nat) (a0 : Value) : inside (F_delta_sized lf d (evC lf d) a0) = evC lf (d + 1) 79 #[a0] := by
  unfold F_delta_sized; (try simp only [clash3_eq, insB_eq, q_geq_eq (P := PP) nf3, q_leq_eq (P := PP) nf3]); kernel_rfl

noncomputable def lpA_picks_fresh (lf d fu : Nat) (k : KT) (x0 x1 x3 : Value) : M Value := loopK (fun s1 k1 => codeK PP (evC lf d) (gtA 80) lf (codeAt (bodyOf PP 80) [true, true, false, true, false, false]) s1 k1) [0, 1, 3] fu [(0, x0), (1, x1), (3, x3)] k
noncomputable def kcA_picks_fresh (lf d : Nat) : KT := contAt PP (evC lf d) (gtA 80) lf (bodyOf PP 80) [true, true, false, true, false] (endK PP (resOf PP 80))
noncomputable def LA_picks_fresh (lf d : Nat) (rec : RT) (k : KT) : Nat → Value → Value → Value → M Value
 | 0, _, _, _ => M.fail
 | fu + 1, x0, x1, x3 =>
 optK (q_lss PP 3 x3 (Value.int .i64 6)) fun v4n3 =>
 ifV v4n3 (
 optK (evIAP3 PP 115 6 1 x1 x3) fun v8n4 =>
 insB (evStore3 PP 3 v8n4 x3) fun u5 =>
 optK (q_add PP 3 x3 (Value.int .i64 1)) fun v9n6 =>
 LA_picks_fresh lf d rec k fu x0 x1 v9n6) (
 k (Ex.exit 0) [(0, x0), (1, x1), (3, x3), (4, v4n3)])
noncomputable def KA_picks_fresh (lf d : Nat) (rec : RT) (dflt : KT) : KT := (kEx 0 (runCur [0, 1, 3, 4] (fun y0 y1 y3 y4 =>
 insB (evLoadA3 PP 115 6 y1) fun v10n7 =>
 insB (evStoreA3 PP 115 6 y0 v10n7) fun u8 =>
 (evLoad PP 115 y0).bind fun vrn9 =>
 outK [vrn9]) (dflt (Ex.exit 0))) dflt)
noncomputable def F_picks_fresh (lf d : Nat) (rec : RT) : M Value :=
 insB (evAllocZ 115 (repV (Value.int .i64 0) 6)) fun v0n1 =>
 insB (evAllocZ 115 (repV (Value.int .i64 0) 6)) fun v1n2 =>
 LA_picks_fresh lf d rec (KA_picks_fresh lf d rec (kcA_picks_fresh lf d)) lf v0n1 v1n2 (Value.int .i64 0)
theorem LQA_picks_fresh (lf d : Nat) (k : KT) : ∀ fu : Nat, LA_picks_fresh lf d (evC lf d) k fu = lpA_picks_fresh lf d fu k
  | 0 => by funext x0 x1 x3; kernel_rfl
  | fu + 1 => by
    have ih := LQA_picks_fresh lf d k fu
    funext x0 x1 x3; simp only [LA_picks_fresh, ih, clash3_eq, evIAP3_eq (P := PP) Tryz.underlying115 gs3, evStore3_eq (P := PP) gs3, insB_eq, q_add_eq (P := PP) nf3, q_lss_eq (P := PP) nf3]; kernel_rfl
set_option maxRecDepth 20000 in
theorem KQA_picks_fresh (lf d : Nat) : KA_picks_fresh lf d (evC lf d) (kcA_picks_fresh lf d) = kcA_picks_fresh lf d := by
  unfold KA_picks_fresh
  refine Eq.trans (kEx_eq ?_) ?_
  · exact (runCur_eq _ _ _ (by intro y0 y1 y3 y4; show _ = _; (try simp only [clash3_eq, evLoadA3_eq (P := PP) ga115 gs115, evStoreA3_eq (P := PP) gs115, insB_eq]); kernel_rfl))
  rfl
theorem fsh_picks_fresh (lf d : Nat) : inside (F_picks_fresh lf d (evC lf d)) = evC lf (d + 1) 80 #[] := by
  unfold F_picks_fresh; (try simp only [KQA_picks_fresh lf d, LQA_picks_fresh, az115, clash3_eq, insB_eq]); kernel_rfl

noncomputable def lpA_slices_Index_int_int (lf d fu : Nat) (k : KT) (x0 x1 x4 x7 x8 : Value) : M Value := loopK (fun s1 k1 => codeK PP (evC lf d) (gtA 87) lf (codeAt (bodyOf PP 87) [true, false, true, false, false]) s1 k1) [0, 1, 4, 7, 8] fu [(0, x0), (1, x1), (4, x4), (7, x7), (8, x8)] k
noncomputable def kcA_slices_Index_int_int (lf d : Nat) : KT := contAt PP (evC lf d) (gtA 87) lf (bodyOf PP 87) [true, false, true, false] (endK PP (resOf PP 87))
noncomputable def LA_slices_Index_int_int (lf d : Nat) (rec : RT) (k : KT) : Nat → Value → Value → Value → Value → Value → M Value
 | 0, _, _, _, _, _ => M.fail
 | fu + 1, x0, x1, x4, x7, x8 =>
 optK (q_lss PP 3 x8 x7) fun v9n2 =>
 ifV v9n2 (
 optK (evIA3 PP 22 1 x0 x8) fun v14n3 =>
 insB (evLoad3 PP 3 v14n3) fun v15n4 =>
 optK (q_eql PP 3 x1 v15n4) fun v16n5 =>
 ifV v16n5 (
 k Ex.ret [(0, x0), (1, x1), (4, x8), (5, x8), (7, x7), (8, x8), (9, v9n2), (16, v16n5)]) (
 optK (q_add PP 3 x8 (Value.int .i64 1)) fun v18n6 =>
 LA_slices_Index_int_int lf d rec k fu x0 x1 x4 x7 v18n6)) (
 k (Ex.exit 0) [(0, x0), (1, x1), (4, x4), (7, x7), (8, x8), (9, v9n2)])
noncomputable def KA_slices_Index_int_int (lf d : Nat) (rec : RT) (dflt : KT) : KT := (kEx 0 (runCur [0, 1, 4, 7, 8, 9] (fun y0 y1 y4 y7 y8 y9 =>
 outK [(Value.int .i64 (-1))]) (dflt (Ex.exit 0))) (kRt (runCur [0, 1, 4, 5, 7, 8, 9, 16] (fun y0 y1 y4 y5 y7 y8 y9 y16 =>
 outK [y4]) (dflt Ex.ret)) dflt))
noncomputable def F_slices_Index_int_int (lf d : Nat) (rec : RT) (a0 a1 : Value) : M Value :=
 optK (len2 PP #[22] [a0]) fun v7n1 =>
 LA_slices_Index_int_int lf d rec (KA_slices_Index_int_int lf d rec (kcA_slices_Index_int_int lf d)) lf a0 a1 (Value.int .i64 0) v7n1 (Value.int .i64 0)
theorem LQA_slices_Index_int_int (lf d : Nat) (k : KT) : ∀ fu : Nat, LA_slices_Index_int_int lf d (evC lf d) k fu = lpA_slices_Index_int_int lf d fu k
  | 0 => by funext x0 x1 x4 x7 x8; kernel_rfl
  | fu + 1 => by
    have ih := LQA_slices_Index_int_int lf d k fu
    funext x0 x1 x4 x7 x8; simp only [LA_slices_Index_int_int, ih, clash3_eq, evIA3_eq (P := PP) Tryz.underlying22 gs3, evLoad3_eq (P := PP) ga3, insB_eq, q_add_eq (P := PP) nf3, q_eql_eq (P := PP) nf3, q_lss_eq (P := PP) nf3]; kernel_rfl
set_option maxRecDepth 20000 in
theorem KQA_slices_Index_int_int (lf d : Nat) : KA_slices_Index_int_int lf d (evC lf d) (kcA_slices_Index_int_int lf d) = kcA_slices_Index_int_int lf d := by
  unfold KA_slices_Index_int_int
  refine Eq.trans (kEx_eq ?_) ?_
  · exact (runCur_eq _ _ _ (by intro y0 y1 y4 y7 y8 y9; show _ = _; (try simp only [clash3_eq, insB_eq]); kernel_rfl))
  refine Eq.trans (kRt_eq ?_) ?_
  · exact (runCur_eq _ _ _ (by intro y0 y1 y4 y5 y7 y8 y9 y16; show _ = _; (try simp only [clash3_eq, insB_eq]); kernel_rfl))
  rfl
theorem fsh_slices_Index_int_int (lf d : Nat) (a0 a1 : Value) : inside (F_slices_Index_int_int lf d (evC lf d) a0 a1) = evC lf (d + 1) 87 #[a0, a1] := by
  unfold F_slices_Index_int_int; (try simp only [KQA_slices_Index_int_int lf d, LQA_slices_Index_int_int, clash3_eq, insB_eq]); kernel_rfl

noncomputable def lpA_tables_Of (lf d fu : Nat) (k : KT) (x0 x1 x4 x5 x6 x7 x8 x9 x18 x27 x40 : Value) : M Value := loopK (fun s1 k1 => codeK PP (evC lf d) (gtA 88) lf (codeAt (bodyOf PP 88) [true, true, true, true, true, false, true, false, false]) s1 k1) [0, 1, 4, 5, 6, 7, 8, 9, 18, 27, 40] fu [(0, x0), (1, x1), (4, x4), (5, x5), (6, x6), (7, x7), (8, x8), (9, x9), (18, x18), (27, x27), (40, x40)] k
noncomputable def kcA_tables_Of (lf d : Nat) : KT := contAt PP (evC lf d) (gtA 88) lf (bodyOf PP 88) [true, true, true, true, true, false, true, false] (endK PP (resOf PP 88))
noncomputable def LA_tables_Of (lf d : Nat) (rec : RT) (k : KT) : Nat → Value → Value → Value → Value → Value → Value → Value → Value → Value → Value → Value → M Value
 | 0, _, _, _, _, _, _, _, _, _, _, _ => M.fail
 | fu + 1, x0, x1, x4, x5, x6, x7, x8, x9, x18, x27, x40 =>
 optK (q_lss PP 3 x40 (Value.int .i64 4)) fun v41n26 =>
 ifV v41n26 (
 optK (evFA3 PP 74 0 x9 0) fun v44n27 =>
 insB (evLoad3 PP 72 v44n27) fun v45n28 =>
 (inside (rec 134 #[x8, v45n28, x1])).bind fun v47n29 =>
 optK (evExtract v47n29 0) fun v48n30 =>
 optK (evExtract v47n29 1) fun v49n31 =>
 insB (evBuildZ PP 74 [Value.slice none 0 0, Value.slice none 0 0] [(0, v49n31), (1, v48n30)]) fun v52n32 =>
 insB (evStoreA3 PP 74 2 x9 v52n32) fun u33 =>
 optK (q_add PP 3 x40 (Value.int .i64 1)) fun v53n34 =>
 LA_tables_Of lf d rec k fu x0 x1 x4 x5 x6 x7 x8 x9 x18 x27 v53n34) (
 k (Ex.exit 1) [(0, x0), (1, x1), (4, x4), (5, x5), (6, x6), (7, x7), (8, x8), (9, x9), (18, x18), (27, x27), (40, x40), (41, v41n26)])
noncomputable def KA_tables_Of (lf d : Nat) (rec : RT) (dflt : KT) : KT := (kEx 1 (runCur [0, 1, 4, 5, 6, 7, 8, 9, 18, 27, 40, 41] (fun y0 y1 y4 y5 y6 y7 y8 y9 y18 y27 y40 y41 =>
 insB (evLoadA3 PP 74 2 y9) fun v54n35 =>
 insB (evStoreA3 PP 74 2 y4 v54n35) fun u36 =>
 (evLoad PP 74 y4).bind fun vrn37 =>
 outK [vrn37, (Value.int .i64 0)]) (dflt (Ex.exit 1))) dflt)
noncomputable def F_tables_Of (lf d : Nat) (rec : RT) (a0 a1 : Value) : M Value :=
 insB (evAllocZ 74 [Value.slice none 0 0, Value.slice none 0 0]) fun v4n1 =>
 (inside (rec 130 #[a0, a1])).bind fun v15n2 =>
 optK (evExtract v15n2 0) fun v16n3 =>
 optK (evExtract v15n2 1) fun v17n4 =>
 optK (q_neq PP 25 v17n4 (Value.int .i64 0)) fun v20n5 =>
 ifV v20n5 (
 insB (evBuildZ PP 74 [Value.slice none 0 0, Value.slice none 0 0] []) fun v26n6 =>
 insB (evStoreA3 PP 74 2 v4n1 v26n6) fun u7 =>
 (evLoad PP 74 v4n1).bind fun vrn8 =>
 outK [vrn8, (Value.int .i64 1)]) (
 optK (len2 PP #[22] [a0]) fun v23n9 =>
 optK (q_eql PP 3 v23n9 (Value.int .i64 0)) fun v24n10 =>
 ifV v24n10 (
 insB (evBuildZ PP 74 [Value.slice none 0 0, Value.slice none 0 0] []) fun v26n11 =>
 insB (evStoreA3 PP 74 2 v4n1 v26n11) fun u12 =>
 (evLoad PP 74 v4n1).bind fun vrn13 =>
 outK [vrn13, (Value.int .i64 1)]) (
 optK (len2 PP #[22] [a0]) fun v29n14 =>
 (inside (rec 131 #[v29n14])).bind fun v30n15 =>
 optK (q_gtr PP 3 v30n15 (Value.int .i64 32767)) fun v31n16 =>
 ifV v31n16 (
 insB (evBuildZ PP 74 [Value.slice none 0 0, Value.slice none 0 0] []) fun v32n17 =>
 insB (evStoreA3 PP 74 2 v4n1 v32n17) fun u18 =>
 (evLoad PP 74 v4n1).bind fun vrn19 =>
 outK [vrn19, (Value.int .i64 2)]) (
 (inside (rec 132 #[a0])).bind fun v34n20 =>
 optK (len2 PP #[22] [a0]) fun v37n21 =>
 (inside (rec 133 #[v16n3, v37n21])).bind fun v38n22 =>
 insB (evBuildZ PP 74 [Value.slice none 0 0, Value.slice none 0 0] [(0, v38n22)]) fun v39n23 =>
 insB (evAllocZ 74 [Value.slice none 0 0, Value.slice none 0 0]) fun v9n24 =>
 insB (evStoreA3 PP 74 2 v9n24 v39n23) fun u25 =>
 LA_tables_Of lf d rec (KA_tables_Of lf d rec (kcA_tables_Of lf d)) lf a0 a1 v4n1 (Value.int .i64 0) v16n3 v17n4 v34n20 v9n24 v24n10 v31n16 (Value.int .i64 0))))
theorem LQA_tables_Of (lf d : Nat) (k : KT) : ∀ fu : Nat, LA_tables_Of lf d (evC lf d) k fu = lpA_tables_Of lf d fu k
  | 0 => by funext x0 x1 x4 x5 x6 x7 x8 x9 x18 x27 x40; kernel_rfl
  | fu + 1 => by
    have ih := LQA_tables_Of lf d k fu
    funext x0 x1 x4 x5 x6 x7 x8 x9 x18 x27 x40; simp only [LA_tables_Of, ih, bz74, clash3_eq, evFA3_eq (P := PP) gf74f0, evLoad3_eq (P := PP) ga72, evStoreA3_eq (P := PP) gs74, insB_eq, q_add_eq (P := PP) nf3, q_lss_eq (P := PP) nf3]; kernel_rfl
set_option maxRecDepth 20000 in
theorem KQA_tables_Of (lf d : Nat) : KA_tables_Of lf d (evC lf d) (kcA_tables_Of lf d) = kcA_tables_Of lf d := by
  unfold KA_tables_Of
  refine Eq.trans (kEx_eq ?_) ?_
  · exact (runCur_eq _ _ _ (by intro y0 y1 y4 y5 y6 y7 y8 y9 y18 y27 y40 y41; show _ = _; (try simp only [clash3_eq, evLoadA3_eq (P := PP) ga74 gs74, evStoreA3_eq (P := PP) gs74, insB_eq]); kernel_rfl))
  rfl
theorem fsh_tables_Of (lf d : Nat) (a0 a1 : Value) : inside (F_tables_Of lf d (evC lf d) a0 a1) = evC lf (d + 1) 88 #[a0, a1] := by
  unfold F_tables_Of; (try simp only [KQA_tables_Of lf d, LQA_tables_Of, az74, bz74, clash3_eq, evStoreA3_eq (P := PP) gs74, insB_eq, q_eql_eq (P := PP) nf3, q_gtr_eq (P := PP) nf3, q_neq_eq (P := PP) nf25]); kernel_rfl

noncomputable def F_picks_may (lf d : Nat) (rec : RT) (a0 a1 : Value) : M Value :=
 insB (evBox3 PP 3 a1) fun v3n1 =>
 insB (evLoad3 PP 3 v3n1) fun v5n2 =>
 (inside (rec 135 #[v5n2])).bind fun v6n3 =>
 optK (un3 PP .not v6n3) fun v7n4 =>
 ifV v7n4 (
 outK [(Value.bool false)]) (
 optK (len2 PP #[22] [a0]) fun v10n5 =>
 optK (q_eql PP 3 v10n5 (Value.int .i64 0)) fun v11n6 =>
 ifV v11n6 (
 outK [(Value.bool false)]) (
 optK (len2 PP #[22] [a0]) fun v15n7 =>
 optK (q_gtr PP 3 v15n7 (Value.int .i64 32767)) fun v16n8 =>
 ifV v16n8 (
 outK [(Value.bool false)]) (
 (inside (rec 136 #[a0, (Value.func (Go.Fn.func 137) #[] #[v3n1])])).bind fun v20n9 =>
 optK (un3 PP .not v20n9) fun v21n10 =>
 outK [v21n10])))
theorem fsh_picks_may (lf d : Nat) (a0 a1 : Value) : inside (F_picks_may lf d (evC lf d) a0 a1) = evC lf (d + 1) 89 #[a0, a1] := by
  unfold F_picks_may; (try simp only [clash3_eq, evBox3_eq, evLoad3_eq (P := PP) ga3, insB_eq, q_eql_eq (P := PP) nf3, q_gtr_eq (P := PP) nf3, un3_eq]); kernel_rfl

noncomputable def lpA_picks_places (lf d fu : Nat) (k : KT) (x0 x2 x3 x4 x11 x12 x13 : Value) : M Value := loopK (fun s1 k1 => codeK PP (evC lf d) (gtA 90) lf (codeAt (bodyOf PP 90) [true, true, true, false, true, false, false]) s1 k1) [0, 2, 3, 4, 11, 12, 13] fu [(0, x0), (2, x2), (3, x3), (4, x4), (11, x11), (12, x12), (13, x13)] k
noncomputable def kcA_picks_places (lf d : Nat) : KT := contAt PP (evC lf d) (gtA 90) lf (bodyOf PP 90) [true, true, true, false, true, false] (endK PP (resOf PP 90))
noncomputable def LA_picks_places (lf d : Nat) (rec : RT) (k : KT) : Nat → Value → Value → Value → Value → Value → Value → Value → M Value
 | 0, _, _, _, _, _, _, _ => M.fail
 | fu + 1, x0, x2, x3, x4, x11, x12, x13 =>
 optK (q_lss PP 3 x13 x12) fun v14n7 =>
 ifV v14n7 (
 optK (evIA3 PP 22 1 x11 x13) fun v16n8 =>
 insB (evLoad3 PP 3 v16n8) fun v17n9 =>
 (inside (rec 138 #[x3, v17n9])).bind fun v21n10 =>
 optK (evIA3 PP 22 1 x4 x13) fun v22n11 =>
 insB (evStore3 PP 3 v22n11 v21n10) fun u12 =>
 optK (q_add PP 3 x13 (Value.int .i64 1)) fun v23n13 =>
 LA_picks_places lf d rec k fu x0 x2 x3 x4 x11 x12 v23n13) (
 k (Ex.exit 0) [(0, x0), (2, x2), (3, x3), (4, x4), (11, x11), (12, x12), (13, x13), (14, v14n7)])
noncomputable def KA_picks_places (lf d : Nat) (rec : RT) (dflt : KT) : KT := (kEx 0 (runCur [0, 2, 3, 4, 11, 12, 13, 14] (fun y0 y2 y3 y4 y11 y12 y13 y14 =>
 outK [y4]) (dflt (Ex.exit 0))) dflt)
noncomputable def F_picks_places (lf d : Nat) (rec : RT) (a0 : Value) : M Value :=
 (inside (rec 80 #[])).bind fun v7n1 =>
 insB (evAllocZ 115 (repV (Value.int .i64 0) 6)) fun v3n2 =>
 insB (evStoreA3 PP 115 6 v3n2 v7n1) fun u3 =>
 optK (len2 PP #[22] [a0]) fun v9n4 =>
 insB (evMake3 PP 22 v9n4 v9n4) fun v10n5 =>
 optK (len2 PP #[22] [a0]) fun v12n6 =>
 LA_picks_places lf d rec (KA_picks_places lf d rec (kcA_picks_places lf d)) lf a0 (Value.slice none 0 0) v3n2 v10n5 a0 v12n6 (Value.int .i64 0)
theorem LQA_picks_places (lf d : Nat) (k : KT) : ∀ fu : Nat, LA_picks_places lf d (evC lf d) k fu = lpA_picks_places lf d fu k
  | 0 => by funext x0 x2 x3 x4 x11 x12 x13; kernel_rfl
  | fu + 1 => by
    have ih := LQA_picks_places lf d k fu
    funext x0 x2 x3 x4 x11 x12 x13; simp only [LA_picks_places, ih, clash3_eq, evIA3_eq (P := PP) Tryz.underlying22 gs3, evLoad3_eq (P := PP) ga3, evStore3_eq (P := PP) gs3, insB_eq, q_add_eq (P := PP) nf3, q_lss_eq (P := PP) nf3]; kernel_rfl
set_option maxRecDepth 20000 in
theorem KQA_picks_places (lf d : Nat) : KA_picks_places lf d (evC lf d) (kcA_picks_places lf d) = kcA_picks_places lf d := by
  unfold KA_picks_places
  refine Eq.trans (kEx_eq ?_) ?_
  · exact (runCur_eq _ _ _ (by intro y0 y2 y3 y4 y11 y12 y13 y14; show _ = _; (try simp only [clash3_eq, insB_eq]); kernel_rfl))
  rfl
theorem fsh_picks_places (lf d : Nat) (a0 : Value) : inside (F_picks_places lf d (evC lf d) a0) = evC lf (d + 1) 90 #[a0] := by
  unfold F_picks_places; (try simp only [KQA_picks_places lf d, LQA_picks_places, az115, clash3_eq, evMake3_eq, evStoreA3_eq (P := PP) gs115, insB_eq]); kernel_rfl

noncomputable def F_delta_may (lf d : Nat) (rec : RT) (a0 : Value) : M Value :=
 optK (len2 PP #[22] [a0]) fun v4n1 =>
 (inside (rec 79 #[v4n1])).bind fun v5n2 =>
 ifV v5n2 (
 (inside (rec 136 #[a0, (Value.func (.func 139) #[] #[])])).bind fun v8n3 =>
 optK (un3 PP .not v8n3) fun v9n4 =>
 outK [v9n4]) (
 outK [(Value.bool false)])
theorem fsh_delta_may (lf d : Nat) (a0 : Value) : inside (F_delta_may lf d (evC lf d) a0) = evC lf (d + 1) 91 #[a0] := by
  unfold F_delta_may; (try simp only [clash3_eq, insB_eq, un3_eq]); kernel_rfl

noncomputable def lpA_delta_steps (lf d fu : Nat) (k : KT) (x0 x1 x4 x13 x14 x15 : Value) : M Value := loopK (fun s1 k1 => codeK PP (evC lf d) (gtA 92) lf (codeAt (bodyOf PP 92) [true, true, true, false, false]) s1 k1) [0, 1, 4, 13, 14, 15] fu [(0, x0), (1, x1), (4, x4), (13, x13), (14, x14), (15, x15)] k
noncomputable def kcA_delta_steps (lf d : Nat) : KT := contAt PP (evC lf d) (gtA 92) lf (bodyOf PP 92) [true, true, true, false] (endK PP (resOf PP 92))
noncomputable def lpB_delta_steps (lf d fu : Nat) (k : KT) (x0 x1 x4 x6 x13 x14 x15 x16 : Value) : M Value := loopK (fun s1 k1 => codeK PP (evC lf d) (gtA 92) lf (codeAt (bodyOf PP 92) [true, true, true, false, false, true, true, false, false, true, false, false, false]) s1 k1) [0, 1, 4, 6, 13, 14, 15, 16] fu [(0, x0), (1, x1), (4, x4), (6, x6), (13, x13), (14, x14), (15, x15), (16, x16)] k
noncomputable def kcB_delta_steps (lf d fu : Nat) (k : KT) : KT := contAt PP (evC lf d) (gtA 92) lf (codeAt (bodyOf PP 92) [true, true, true, false, false]) [true, true, false, false, true, false, false] (againK (fun s1 => loopK (fun s1 k1 => codeK PP (evC lf d) (gtA 92) lf (codeAt (bodyOf PP 92) [true, true, true, false, false]) s1 k1) [0, 1, 4, 13, 14, 15] fu (s1.keep [0, 1, 4, 13, 14, 15]) k) k)
noncomputable def lpC_delta_steps (lf d fu : Nat) (k : KT) (x0 x1 x4 x6 x13 x14 x15 x16 x21 : Value) : M Value := loopK (fun s1 k1 => codeK PP (evC lf d) (gtA 92) lf (codeAt (bodyOf PP 92) [true, true, true, false, false, true, true, false, false, true, true, false, false, false]) s1 k1) [0, 1, 4, 6, 13, 14, 15, 16, 21] fu [(0, x0), (1, x1), (4, x4), (6, x6), (13, x13), (14, x14), (15, x15), (16, x16), (21, x21)] k
noncomputable def kcC_delta_steps (lf d fu : Nat) (k : KT) : KT := contAt PP (evC lf d) (gtA 92) lf (codeAt (bodyOf PP 92) [true, true, true, false, false]) [true, true, false, false, true, true, false, false] (againK (fun s1 => loopK (fun s1 k1 => codeK PP (evC lf d) (gtA 92) lf (codeAt (bodyOf PP 92) [true, true, true, false, false]) s1 k1) [0, 1, 4, 13, 14, 15] fu (s1.keep [0, 1, 4, 13, 14, 15]) k) k)
noncomputable def KA_delta_steps (lf d : Nat) (rec : RT) (dflt : KT) : KT := (kEx 0 (runCur [0, 1, 4, 13, 14, 15, 16] (fun y0 y1 y4 y13 y14 y15 y16 =>
 outK []) (dflt (Ex.exit 0))) dflt)
noncomputable def LB_delta_steps (lf d : Nat) (rec : RT) (k : KT) : Nat → Value → Value → Value → Value → Value → Value → Value → Value → M Value
 | 0, _, _, _, _, _, _, _, _ => M.fail
 | fu + 1, x0, x1, x4, x6, x13, x14, x15, x16 =>
 optK (q_lss PP 3 x4 x6) fun v21n8 =>
 ifV v21n8 (
 callV PP rec x1 [(Value.int .i64 2), (Value.int .i64 2)] fun v25n9 =>
 optK (q_add PP 3 x4 (Value.int .i64 1)) fun v23n10 =>
 LB_delta_steps lf d rec k fu x0 x1 v23n10 x6 x13 x14 x15 x16) (
 k (Ex.exit 2) [(0, x0), (1, x1), (4, x4), (6, x6), (13, x13), (14, x14), (15, x15), (16, x16), (21, v21n8)])
noncomputable def LC_delta_steps (lf d : Nat) (rec : RT) (k : KT) : Nat → Value → Value → Value → Value → Value → Value → Value → Value → Value → M Value
 | 0, _, _, _, _, _, _, _, _, _ => M.fail
 | fu + 1, x0, x1, x4, x6, x13, x14, x15, x16, x21 =>
 optK (q_gtr PP 3 x4 x6) fun v28n11 =>
 ifV v28n11 (
 callV PP rec x1 [(Value.int .i64 3), (Value.int .i64 2)] fun v32n12 =>
 optK (q_sub PP 3 x4 (Value.int .i64 1)) fun v30n13 =>
 LC_delta_steps lf d rec k fu x0 x1 v30n13 x6 x13 x14 x15 x16 x21) (
 k (Ex.exit 4) [(0, x0), (1, x1), (4, x4), (6, x6), (13, x13), (14, x14), (15, x15), (16, x16), (21, x21), (28, v28n11)])
noncomputable def KC_delta_steps (lf d : Nat) (rec : RT) (fu : Nat) (k : KT) (again : Value → Value → Value → Value → Value → Value → M Value) (dflt : KT) : KT := (kEx 4 (runCur [0, 1, 4, 6, 13, 14, 15, 16, 21, 28] (fun y0 y1 y4 y6 y13 y14 y15 y16 y21 y28 =>
 callV PP rec y1 [(Value.int .i64 0), (Value.int .i64 1)] fun v34n14 =>
 optK (q_add PP 3 y15 (Value.int .i64 1)) fun v35n15 =>
 again y0 y1 y4 y13 y14 v35n15) (dflt (Ex.exit 4))) dflt)
noncomputable def KB_delta_steps (lf d : Nat) (rec : RT) (fu : Nat) (k : KT) (again : Value → Value → Value → Value → Value → Value → M Value) (dflt : KT) : KT := (kEx 2 (runCur [0, 1, 4, 6, 13, 14, 15, 16, 21] (fun y0 y1 y4 y6 y13 y14 y15 y16 y21 =>
 LC_delta_steps lf d rec (KC_delta_steps lf d rec fu k again (kcC_delta_steps lf d fu k)) lf y0 y1 y4 y6 y13 y14 y15 y16 y21) (dflt (Ex.exit 2))) dflt)
noncomputable def LA_delta_steps (lf d : Nat) (rec : RT) (k : KT) : Nat → Value → Value → Value → Value → Value → Value → M Value
 | 0, _, _, _, _, _, _ => M.fail
 | fu + 1, x0, x1, x4, x13, x14, x15 =>
 optK (q_lss PP 3 x15 x14) fun v16n5 =>
 ifV v16n5 (
 optK (evIA3 PP 22 1 x13 x15) fun v17n6 =>
 insB (evLoad3 PP 3 v17n6) fun v18n7 =>
 LB_delta_steps lf d rec (KB_delta_steps lf d rec fu k (LA_delta_steps lf d rec k fu) (kcB_delta_steps lf d fu k)) lf x0 x1 x4 v18n7 x13 x14 x15 v16n5) (
 k (Ex.exit 0) [(0, x0), (1, x1), (4, x4), (13, x13), (14, x14), (15, x15), (16, v16n5)])
noncomputable def F_delta_steps (lf d : Nat) (rec : RT) (a0 a1 : Value) : M Value :=
 optK (evIA3 PP 22 1 a0 (Value.int .i64 0)) fun v8n1 =>
 insB (evLoad3 PP 3 v8n1) fun v9n2 =>
 callV PP rec a1 [v9n2, (Value.int .i64 5)] fun v12n3 =>
 optK (len2 PP #[22] [a0]) fun v14n4 =>
 LA_delta_steps lf d rec (KA_delta_steps lf d rec (kcA_delta_steps lf d)) lf a0 a1 v9n2 a0 v14n4 (Value.int .i64 0)
set_option maxRecDepth 20000 in
theorem KQA_delta_steps (lf d : Nat) : KA_delta_steps lf d (evC lf d) (kcA_delta_steps lf d) = kcA_delta_steps lf d := by
  unfold KA_delta_steps
  refine Eq.trans (kEx_eq ?_) ?_
  · exact (runCur_eq _ _ _ (by intro y0 y1 y4 y13 y14 y15 y16; show _ = _; (try simp only [clash3_eq, insB_eq]); kernel_rfl))
  rfl
theorem LQB_delta_steps (lf d : Nat) (k : KT) : ∀ fu : Nat, LB_delta_steps lf d (evC lf d) k fu = lpB_delta_steps lf d fu k
  | 0 => by funext x0 x1 x4 x6 x13 x14 x15 x16; kernel_rfl
  | fu + 1 => by
    have ih := LQB_delta_steps lf d k fu
    funext x0 x1 x4 x6 x13 x14 x15 x16; simp only [LB_delta_steps, ih, clash3_eq, insB_eq, q_add_eq (P := PP) nf3, q_lss_eq (P := PP) nf3]; kernel_rfl
theorem LQC_delta_steps (lf d : Nat) (k : KT) : ∀ fu : Nat, LC_delta_steps lf d (evC lf d) k fu = lpC_delta_steps lf d fu k
  | 0 => by funext x0 x1 x4 x6 x13 x14 x15 x16 x21; kernel_rfl
  | fu + 1 => by
    have ih := LQC_delta_steps lf d k fu
    funext x0 x1 x4 x6 x13 x14 x15 x16 x21; simp only [LC_delta_steps, ih, clash3_eq, insB_eq, q_gtr_eq (P := PP) nf3, q_sub_eq (P := PP) nf3]; kernel_rfl
set_option maxRecDepth 20000 in
theorem KQC_delta_steps (lf d fu : Nat) (k : KT) (again : Value → Value → Value → Value → Value → Value → M Value) (ha : again = lpA_delta_steps lf d fu k) : KC_delta_steps lf d (evC lf d) fu k again (kcC_delta_steps lf d fu k) = kcC_delta_steps lf d fu k := by
  subst ha
  unfold KC_delta_steps
  refine Eq.trans (kEx_eq ?_) ?_
  · exact (runCur_eq _ _ _ (by intro y0 y1 y4 y6 y13 y14 y15 y16 y21 y28; show _ = _; (try simp only [clash3_eq, insB_eq, q_add_eq (P := PP) nf3]); kernel_rfl))
  rfl
set_option maxRecDepth 20000 in
theorem KQB_delta_steps (lf d fu : Nat) (k : KT) (again : Value → Value → Value → Value → Value → Value → M Value) (ha : again = lpA_delta_steps lf d fu k) : KB_delta_steps lf d (evC lf d) fu k again (kcB_delta_steps lf d fu k) = kcB_delta_steps lf d fu k := by
  subst ha
  unfold KB_delta_steps
  refine Eq.trans (kEx_eq ?_) ?_
  · exact (runCur_eq _ _ _ (by intro y0 y1 y4 y6 y13 y14 y15 y16 y21; show _ = _; (try simp only [KQC_delta_steps lf d fu k _ rfl, LQC_delta_steps, clash3_eq, insB_eq]); kernel_rfl))
  rfl
theorem LQA_delta_steps (lf d : Nat) (k : KT) : ∀ fu : Nat, LA_delta_steps lf d (evC lf d) k fu = lpA_delta_steps lf d fu k
  | 0 => by funext x0 x1 x4 x13 x14 x15; kernel_rfl
  | fu + 1 => by
    have ih := LQA_delta_steps lf d k fu
    funext x0 x1 x4 x13 x14 x15; simp only [LA_delta_steps, ih, KQB_delta_steps lf d fu k _ rfl, LQB_delta_steps, clash3_eq, evIA3_eq (P := PP) Tryz.underlying22 gs3, evLoad3_eq (P := PP) ga3, insB_eq, q_lss_eq (P := PP) nf3]; kernel_rfl
theorem fsh_delta_steps (lf d : Nat) (a0 a1 : Value) : inside (F_delta_steps lf d (evC lf d) a0 a1) = evC lf (d + 1) 92 #[a0, a1] := by
  unfold F_delta_steps; (try simp only [KQA_delta_steps lf d, LQA_delta_steps, clash3_eq, evIA3_eq (P := PP) Tryz.underlying22 gs3, evLoad3_eq (P := PP) ga3, insB_eq]); kernel_rfl

noncomputable def F_delta_Write_1 (lf d : Nat) (rec : RT) (a0 a1 a2 : Value) : M Value :=
 insB (evLoad3 PP 71 a2) fun v5n1 =>
 conv3 PP 3 38 .i64 .u32 a0 fun v7n2 =>
 (inside (rec 65 #[v5n1, v7n2, a1])).bind fun v9n3 =>
 outK []
theorem fsh_delta_Write_1 (lf d : Nat) (a0 a1 a2 : Value) : inside (F_delta_Write_1 lf d (evC lf d) a0 a1 a2) = evC lf (d + 1) 93 #[a0, a1, a2] := by
  unfold F_delta_Write_1; (try simp only [clash3_eq, conv3_eq cw3x38, evLoad3_eq (P := PP) ga71, insB_eq]); kernel_rfl

noncomputable def F_canon_whole (lf d : Nat) (rec : RT) (a0 : Value) : M Value :=
 (inside (rec 141 #[a0])).bind fun v7n1 =>
 optK (evExtract v7n1 0) fun v8n2 =>
 optK (evExtract v7n1 1) fun v9n3 =>
 optK (q_eql PP 25 v9n3 (Value.int .i64 0)) fun v11n4 =>
 ifV v11n4 (
 optK (q_eql PP 3 v8n2 (Value.int .i64 1048576)) fun v14n5 =>
 ifV v14n5 (
 (inside (rec 142 #[a0, (Value.int .i64 0)])).bind fun v18n6 =>
 optK (un3 PP .not v18n6) fun v19n7 =>
 outK [v19n7]) (
 outK [(Value.bool false)])) (
 outK [(Value.bool false)])
theorem fsh_canon_whole (lf d : Nat) (a0 : Value) : inside (F_canon_whole lf d (evC lf d) a0) = evC lf (d + 1) 94 #[a0] := by
  unfold F_canon_whole; (try simp only [clash3_eq, insB_eq, q_eql_eq (P := PP) nf25, q_eql_eq (P := PP) nf3, un3_eq]); kernel_rfl

noncomputable def F_slices_Clone_int_int (lf d : Nat) (rec : RT) (a0 : Value) : M Value :=
 optK (bin2 PP .eql 22 a0 (Value.slice none 0 0)) fun v4n1 =>
 ifV v4n1 (
 outK [(Value.slice none 0 0)]) (
 insB (evBS3 PP 22 0 []) fun v5n2 =>
 insB (evAppend3 PP 22 v5n2 a0) fun v7n3 =>
 outK [v7n3])
theorem fsh_slices_Clone_int_int (lf d : Nat) (a0 : Value) : inside (F_slices_Clone_int_int lf d (evC lf d) a0) = evC lf (d + 1) 95 #[a0] := by
  unfold F_slices_Clone_int_int; (try simp only [clash3_eq, evAppend3_eq, evBS3_eq, insB_eq]); kernel_rfl

noncomputable def F_canon_Code_Of (lf d : Nat) (rec : RT) (a0 a1 : Value) : M Value :=
 optK (qP_eql PP 78 a0 (Value.pointer none)) fun v9n1 =>
 ifV v9n1 (
 outK [(Value.int .u32 0), (Value.int .i64 0), (Value.int .i64 7)]) (
 optK (q_lss PP 3 a1 (Value.int .i64 0)) fun v12n2 =>
 ifV v12n2 (
 outK [(Value.int .u32 0), (Value.int .i64 0), (Value.int .i64 1)]) (
 optK (nil2 a0) fun v16n3 =>
 optK (evFA3 PP 130 0 v16n3 0) fun v17n4 =>
 insB (evLoad3 PP 22 v17n4) fun v18n5 =>
 optK (len2 PP #[22] [v18n5]) fun v19n6 =>
 optK (q_geq PP 3 a1 v19n6) fun v20n7 =>
 ifV v20n7 (
 outK [(Value.int .u32 0), (Value.int .i64 0), (Value.int .i64 1)]) (
 optK (nil2 a0) fun v23n8 =>
 optK (evFA3 PP 130 1 v23n8 1) fun v24n9 =>
 insB (evLoad3 PP 126 v24n9) fun v25n10 =>
 optK (evIA3 PP 126 1 v25n10 a1) fun v27n11 =>
 insB (evLoad3 PP 38 v27n11) fun v28n12 =>
 optK (nil2 a0) fun v30n13 =>
 optK (evFA3 PP 130 0 v30n13 0) fun v31n14 =>
 insB (evLoad3 PP 22 v31n14) fun v32n15 =>
 optK (evIA3 PP 22 1 v32n15 a1) fun v34n16 =>
 insB (evLoad3 PP 3 v34n16) fun v35n17 =>
 outK [v28n12, v35n17, (Value.int .i64 0)])))
theorem fsh_canon_Code_Of (lf d : Nat) (a0 a1 : Value) : inside (F_canon_Code_Of lf d (evC lf d) a0 a1) = evC lf (d + 1) 96 #[a0, a1] := by
  unfold F_canon_Code_Of; (try simp only [clash3_eq, evFA3_eq (P := PP) gf130f0, evFA3_eq (P := PP) gf130f1, evIA3_eq (P := PP) Tryz.underlying126 gs38, evIA3_eq (P := PP) Tryz.underlying22 gs3, evLoad3_eq (P := PP) ga126, evLoad3_eq (P := PP) ga22, evLoad3_eq (P := PP) ga3, evLoad3_eq (P := PP) ga38, insB_eq, qP_eql_eq (P := PP) Tryz.underlying78, q_geq_eq (P := PP) nf3, q_lss_eq (P := PP) nf3]); kernel_rfl

noncomputable def lpA_picks_Bits (lf d fu : Nat) (k : KT) (x0 x1 x4 x5 x6 x12 x14 x15 x16 : Value) : M Value := loopK (fun s1 k1 => codeK PP (evC lf d) (gtA 97) lf (codeAt (bodyOf PP 97) [true, true, true, false, true, false, false]) s1 k1) [0, 1, 4, 5, 6, 12, 14, 15, 16] fu [(0, x0), (1, x1), (4, x4), (5, x5), (6, x6), (12, x12), (14, x14), (15, x15), (16, x16)] k
noncomputable def kcA_picks_Bits (lf d : Nat) : KT := contAt PP (evC lf d) (gtA 97) lf (bodyOf PP 97) [true, true, true, false, true, false] (endK PP (resOf PP 97))
noncomputable def LA_picks_Bits (lf d : Nat) (rec : RT) (k : KT) : Nat → Value → Value → Value → Value → Value → Value → Value → Value → Value → M Value
 | 0, _, _, _, _, _, _, _, _, _ => M.fail
 | fu + 1, x0, x1, x4, x5, x6, x12, x14, x15, x16 =>
 optK (q_lss PP 3 x16 x15) fun v17n5 =>
 ifV v17n5 (
 optK (evIA3 PP 22 1 x14 x16) fun v18n6 =>
 insB (evLoad3 PP 3 v18n6) fun v19n7 =>
 optK (q_add PP 3 v19n7 (Value.int .i64 1)) fun v22n8 =>
 optK (q_add PP 3 x6 v22n8) fun v23n9 =>
 optK (q_add PP 3 x16 (Value.int .i64 1)) fun v24n10 =>
 LA_picks_Bits lf d rec k fu x0 x1 x4 x5 v23n9 x12 x14 x15 v24n10) (
 k (Ex.exit 0) [(0, x0), (1, x1), (4, x4), (5, x5), (6, x6), (12, x12), (14, x14), (15, x15), (16, x16), (17, v17n5)])
noncomputable def KA_picks_Bits (lf d : Nat) (rec : RT) (dflt : KT) : KT := (kEx 0 (runCur [0, 1, 4, 5, 6, 12, 14, 15, 16, 17] (fun y0 y1 y4 y5 y6 y12 y14 y15 y16 y17 =>
 outK [y6, (Value.int .i64 0)]) (dflt (Ex.exit 0))) dflt)
noncomputable def F_picks_Bits (lf d : Nat) (rec : RT) (a0 a1 : Value) : M Value :=
 (inside (rec 89 #[a0, a1])).bind fun v11n1 =>
 optK (un3 PP .not v11n1) fun v12n2 =>
 ifV v12n2 (
 outK [(Value.int .i64 0), (Value.int .i64 1)]) (
 (inside (rec 90 #[a0])).bind fun v14n3 =>
 optK (len2 PP #[22] [v14n3]) fun v15n4 =>
 LA_picks_Bits lf d rec (KA_picks_Bits lf d rec (kcA_picks_Bits lf d)) lf a0 a1 (Value.int .i64 0) (Value.int .i64 0) (Value.int .i64 18) v12n2 v14n3 v15n4 (Value.int .i64 0))
theorem LQA_picks_Bits (lf d : Nat) (k : KT) : ∀ fu : Nat, LA_picks_Bits lf d (evC lf d) k fu = lpA_picks_Bits lf d fu k
  | 0 => by funext x0 x1 x4 x5 x6 x12 x14 x15 x16; kernel_rfl
  | fu + 1 => by
    have ih := LQA_picks_Bits lf d k fu
    funext x0 x1 x4 x5 x6 x12 x14 x15 x16; simp only [LA_picks_Bits, ih, clash3_eq, evIA3_eq (P := PP) Tryz.underlying22 gs3, evLoad3_eq (P := PP) ga3, insB_eq, q_add_eq (P := PP) nf3, q_lss_eq (P := PP) nf3]; kernel_rfl
set_option maxRecDepth 20000 in
theorem KQA_picks_Bits (lf d : Nat) : KA_picks_Bits lf d (evC lf d) (kcA_picks_Bits lf d) = kcA_picks_Bits lf d := by
  unfold KA_picks_Bits
  refine Eq.trans (kEx_eq ?_) ?_
  · exact (runCur_eq _ _ _ (by intro y0 y1 y4 y5 y6 y12 y14 y15 y16 y17; show _ = _; (try simp only [clash3_eq, insB_eq]); kernel_rfl))
  rfl
theorem fsh_picks_Bits (lf d : Nat) (a0 a1 : Value) : inside (F_picks_Bits lf d (evC lf d) a0 a1) = evC lf (d + 1) 97 #[a0, a1] := by
  unfold F_picks_Bits; (try simp only [KQA_picks_Bits lf d, LQA_picks_Bits, clash3_eq, insB_eq, un3_eq]); kernel_rfl

noncomputable def F_delta_Bits (lf d : Nat) (rec : RT) (a0 : Value) : M Value :=
 (inside (rec 91 #[a0])).bind fun v6n1 =>
 optK (un3 PP .not v6n1) fun v7n2 =>
 ifV v7n2 (
 outK [(Value.int .i64 0), (Value.int .i64 1)]) (
 insB (evAllocZ 3 [Value.int .i64 0]) fun v4n3 =>
 insB (evStore3 PP 3 v4n3 (Value.int .i64 0)) fun u4 =>
 (inside (rec 92 #[a0, (Value.func (Go.Fn.func 143) #[] #[v4n3])])).bind fun v10n5 =>
 insB (evLoad3 PP 3 v4n3) fun v11n6 =>
 outK [v11n6, (Value.int .i64 0)])
theorem fsh_delta_Bits (lf d : Nat) (a0 : Value) : inside (F_delta_Bits lf d (evC lf d) a0) = evC lf (d + 1) 98 #[a0] := by
  unfold F_delta_Bits; (try simp only [az3, clash3_eq, evLoad3_eq (P := PP) ga3, evStore3_eq (P := PP) gs3, insB_eq, un3_eq]); kernel_rfl

noncomputable def lpA_tables_Cost (lf d fu : Nat) (k : KT) (x0 x1 x3 x4 x5 x6 x19 x21 x22 x23 : Value) : M Value := loopK (fun s1 k1 => codeK PP (evC lf d) (gtA 99) lf (codeAt (bodyOf PP 99) [true, true, true, false, true, false, false]) s1 k1) [0, 1, 3, 4, 5, 6, 19, 21, 22, 23] fu [(0, x0), (1, x1), (3, x3), (4, x4), (5, x5), (6, x6), (19, x19), (21, x21), (22, x22), (23, x23)] k
noncomputable def kcA_tables_Cost (lf d : Nat) : KT := contAt PP (evC lf d) (gtA 99) lf (bodyOf PP 99) [true, true, true, false, true, false] (endK PP (resOf PP 99))
noncomputable def LA_tables_Cost (lf d : Nat) (rec : RT) (k : KT) : Nat → Value → Value → Value → Value → Value → Value → Value → Value → Value → Value → M Value
 | 0, _, _, _, _, _, _, _, _, _, _ => M.fail
 | fu + 1, x0, x1, x3, x4, x5, x6, x19, x21, x22, x23 =>
 optK (q_lss PP 3 x23 x22) fun v24n13 =>
 ifV v24n13 (
 optK (evIA3 PP 22 1 x21 x23) fun v26n14 =>
 insB (evLoad3 PP 3 v26n14) fun v27n15 =>
 optK (q_lss PP 3 v27n15 (Value.int .i64 0)) fun v29n16 =>
 ifV v29n16 (
 k Ex.ret [(0, x0), (1, x1), (3, x3), (4, (Value.int .i64 0)), (5, (Value.int .i64 1)), (6, x6), (7, x23), (8, v27n15), (19, x19), (21, x21), (22, x22), (23, x23), (24, v24n13), (36, (Value.bool true))]) (
 optK (evFA3 PP 74 0 x3 0) fun v32n17 =>
 insB (evLoad3 PP 72 v32n17) fun v33n18 =>
 optK (len2 PP #[72] [v33n18]) fun v34n19 =>
 optK (q_geq PP 3 v27n15 v34n19) fun v35n20 =>
 ifV v35n20 (
 k Ex.ret [(0, x0), (1, x1), (3, x3), (4, (Value.int .i64 0)), (5, (Value.int .i64 1)), (6, x6), (7, x23), (8, v27n15), (19, x19), (21, x21), (22, x22), (23, x23), (24, v24n13), (36, v35n20)]) (
 (inside (rec 144 #[x0, x23])).bind fun v40n21 =>
 optK (evExtract v40n21 0) fun v41n22 =>
 optK (evExtract v40n21 1) fun v42n23 =>
 optK (evFA3 PP 74 0 x3 0) fun v45n24 =>
 insB (evLoad3 PP 72 v45n24) fun v46n25 =>
 optK (evIA3 PP 72 1 v46n25 v27n15) fun v48n26 =>
 insB (evLoad3 PP 22 v48n26) fun v49n27 =>
 (inside (rec 145 #[v41n22, v49n27])).bind fun v50n28 =>
 optK (evExtract v50n28 0) fun v51n29 =>
 optK (evExtract v50n28 1) fun v52n30 =>
 optK (q_neq PP 25 v52n30 (Value.int .i64 0)) fun v54n31 =>
 ifV v54n31 (
 k Ex.ret [(0, x0), (1, x1), (3, x3), (4, (Value.int .i64 0)), (5, v52n30), (6, x6), (7, x23), (8, v27n15), (9, v41n22), (11, v51n29), (12, v52n30), (19, x19), (21, x21), (22, x22), (23, x23), (24, v24n13), (36, v35n20), (54, v54n31)]) (
 optK (q_add PP 3 x6 v51n29) fun v58n32 =>
 optK (min2 [v58n32, (Value.int .i64 1099511627776)]) fun v59n33 =>
 optK (q_add PP 3 x23 (Value.int .i64 1)) fun v60n34 =>
 LA_tables_Cost lf d rec k fu x0 x1 x3 x4 x5 v59n33 x19 x21 x22 v60n34)))) (
 k (Ex.exit 0) [(0, x0), (1, x1), (3, x3), (4, x4), (5, x5), (6, x6), (19, x19), (21, x21), (22, x22), (23, x23), (24, v24n13)])
noncomputable def KA_tables_Cost (lf d : Nat) (rec : RT) (dflt : KT) : KT := (kEx 0 (runCur [0, 1, 3, 4, 5, 6, 19, 21, 22, 23, 24] (fun y0 y1 y3 y4 y5 y6 y19 y21 y22 y23 y24 =>
 outK [y6, (Value.int .i64 0)]) (dflt (Ex.exit 0))) (kRt (runCur [0, 1, 3, 4, 5, 6, 7, 8, 9, 11, 12, 19, 21, 22, 23, 24, 36, 54] (fun y0 y1 y3 y4 y5 y6 y7 y8 y9 y11 y12 y19 y21 y22 y23 y24 y36 y54 =>
 outK [y4, y5]) (runCur [0, 1, 3, 4, 5, 6, 7, 8, 19, 21, 22, 23, 24, 36] (fun y0 y1 y3 y4 y5 y6 y7 y8 y19 y21 y22 y23 y24 y36 =>
 outK [y4, y5]) (dflt Ex.ret))) dflt))
noncomputable def F_tables_Cost (lf d : Nat) (rec : RT) (a0 a1 : Value) : M Value :=
 insB (evBox3 PP 74 a1) fun v3n1 =>
 optK (evFA3 PP 74 1 v3n1 1) fun v13n2 =>
 (timed (
 insB (evLoad3 PP 22 v13n2) fun v14n4 => M.ret v14n4)).bind fun vtn3 =>
 optK (len2 PP #[22] [vtn3.1]) fun v15n5 =>
 optK (len2 PP #[22] [a0]) fun v17n6 =>
 (timed (
 (inside (rec 131 #[v17n6])).bind fun v18n8 => M.ret v18n8)).bind fun vtn7 =>
 optK (q_neq PP 3 v15n5 vtn7.1) fun v19n9 =>
 chkT ((!(clash3 vtn3.2 vtn7.2) && true) && true) (
 ifV v19n9 (
 outK [(Value.int .i64 0), (Value.int .i64 1)]) (
 optK (evFA3 PP 74 1 v3n1 1) fun v20n10 =>
 insB (evLoad3 PP 22 v20n10) fun v21n11 =>
 optK (len2 PP #[22] [v21n11]) fun v22n12 =>
 LA_tables_Cost lf d rec (KA_tables_Cost lf d rec (kcA_tables_Cost lf d)) lf a0 a1 v3n1 (Value.int .i64 0) (Value.int .i64 0) (Value.int .i64 0) v19n9 v21n11 v22n12 (Value.int .i64 0)))
theorem LQA_tables_Cost (lf d : Nat) (k : KT) : ∀ fu : Nat, LA_tables_Cost lf d (evC lf d) k fu = lpA_tables_Cost lf d fu k
  | 0 => by funext x0 x1 x3 x4 x5 x6 x19 x21 x22 x23; kernel_rfl
  | fu + 1 => by
    have ih := LQA_tables_Cost lf d k fu
    funext x0 x1 x3 x4 x5 x6 x19 x21 x22 x23; simp only [LA_tables_Cost, ih, clash3_eq, evFA3_eq (P := PP) gf74f0, evIA3_eq (P := PP) Tryz.underlying22 gs3, evIA3_eq (P := PP) Tryz.underlying72 gs22, evLoad3_eq (P := PP) ga22, evLoad3_eq (P := PP) ga3, evLoad3_eq (P := PP) ga72, insB_eq, q_add_eq (P := PP) nf3, q_geq_eq (P := PP) nf3, q_lss_eq (P := PP) nf3, q_neq_eq (P := PP) nf25]; kernel_rfl
set_option maxRecDepth 20000 in
theorem KQA_tables_Cost (lf d : Nat) : KA_tables_Cost lf d (evC lf d) (kcA_tables_Cost lf d) = kcA_tables_Cost lf d := by
  unfold KA_tables_Cost
  refine Eq.trans (kEx_eq ?_) ?_
  · exact (runCur_eq _ _ _ (by intro y0 y1 y3 y4 y5 y6 y19 y21 y22 y23 y24; show _ = _; (try simp only [clash3_eq, insB_eq]); kernel_rfl))
  refine Eq.trans (kRt_eq ?_) ?_
  · refine Eq.trans (runCur_eq _ _ _ (by intro y0 y1 y3 y4 y5 y6 y7 y8 y9 y11 y12 y19 y21 y22 y23 y24 y36 y54; show _ = _; (try simp only [clash3_eq, insB_eq]); kernel_rfl)) ?_
    exact (runCur_eq _ _ _ (by intro y0 y1 y3 y4 y5 y6 y7 y8 y19 y21 y22 y23 y24 y36; show _ = _; (try simp only [clash3_eq, insB_eq]); kernel_rfl))
  rfl
theorem fsh_tables_Cost (lf d : Nat) (a0 a1 : Value) : inside (F_tables_Cost lf d (evC lf d) a0 a1) = evC lf (d + 1) 99 #[a0, a1] := by
  unfold F_tables_Cost; (try simp only [KQA_tables_Cost lf d, LQA_tables_Cost, clash3_eq, evBox3_eq, evFA3_eq (P := PP) gf74f1, evLoad3_eq (P := PP) ga22, insB_eq, q_neq_eq (P := PP) nf3]); kernel_rfl

noncomputable def F_bits_Writer_bit (lf d : Nat) (rec : RT) (a0 a1 : Value) : M Value :=
 optK (nil2 a0) fun v6n1 =>
 optK (evFA3 PP 135 2 v6n1 2) fun v7n2 =>
 insB (evLoad3 PP 3 v7n2) fun v8n3 =>
 optK (q_rem PP 3 v8n3 (Value.int .i64 8)) fun v9n4 =>
 optK (nil2 a0) fun v11n5 =>
 optK (evFA3 PP 135 1 v11n5 1) fun v12n6 =>
 insB (evLoad3 PP 5 v12n6) fun v13n7 =>
 optK (q_sub PP 3 (Value.int .i64 7) v9n4) fun v16n8 =>
 optK (q_shl PP 5 a1 v16n8) fun v17n9 =>
 optK (q_or PP 5 v13n7 v17n9) fun v18n10 =>
 optK (nil2 a0) fun v19n11 =>
 optK (evFA3 PP 135 1 v19n11 1) fun v20n12 =>
 insB (evStore3 PP 5 v20n12 v18n10) fun u13 =>
 optK (nil2 a0) fun v22n14 =>
 optK (evFA3 PP 135 2 v22n14 2) fun v23n15 =>
 insB (evLoad3 PP 3 v23n15) fun v24n16 =>
 optK (q_add PP 3 v24n16 (Value.int .i64 1)) fun v25n17 =>
 optK (nil2 a0) fun v26n18 =>
 optK (evFA3 PP 135 2 v26n18 2) fun v27n19 =>
 insB (evStore3 PP 3 v27n19 v25n17) fun u20 =>
 optK (q_eql PP 3 v9n4 (Value.int .i64 7)) fun v29n21 =>
 ifV v29n21 (
 optK (nil2 a0) fun v32n22 =>
 optK (evFA3 PP 135 0 v32n22 0) fun v33n23 =>
 insB (evLoad3 PP 133 v33n23) fun v34n24 =>
 optK (nil2 a0) fun v36n25 =>
 optK (evFA3 PP 135 1 v36n25 1) fun v37n26 =>
 insB (evLoad3 PP 5 v37n26) fun v38n27 =>
 insB (evBS3 PP 133 1 [(0, v38n27)]) fun v39n28 =>
 insB (evAppend3 PP 133 v34n24 v39n28) fun v40n29 =>
 optK (nil2 a0) fun v41n30 =>
 optK (evFA3 PP 135 0 v41n30 0) fun v42n31 =>
 insB (evStore3 PP 133 v42n31 v40n29) fun u32 =>
 optK (nil2 a0) fun v44n33 =>
 optK (evFA3 PP 135 1 v44n33 1) fun v45n34 =>
 insB (evStore3 PP 5 v45n34 (Value.int .u8 0)) fun u35 =>
 outK []) (
 outK [])
theorem fsh_bits_Writer_bit (lf d : Nat) (a0 a1 : Value) : inside (F_bits_Writer_bit lf d (evC lf d) a0 a1) = evC lf (d + 1) 100 #[a0, a1] := by
  unfold F_bits_Writer_bit; (try simp only [clash3_eq, evAppend3_eq, evBS3_eq, evFA3_eq (P := PP) gf135f0, evFA3_eq (P := PP) gf135f1, evFA3_eq (P := PP) gf135f2, evLoad3_eq (P := PP) ga133, evLoad3_eq (P := PP) ga3, evLoad3_eq (P := PP) ga5, evStore3_eq (P := PP) gs133, evStore3_eq (P := PP) gs3, evStore3_eq (P := PP) gs5, insB_eq, q_add_eq (P := PP) nf3, q_eql_eq (P := PP) nf3, q_or_eq (P := PP) nf5, q_rem_eq (P := PP) nf3, q_shl_eq (P := PP) nf5, q_sub_eq (P := PP) nf3]); kernel_rfl

noncomputable def F_bwt_New (lf d : Nat) (rec : RT) (a0 : Value) : M Value :=
 optK (qS_eql PP 9 a0 (Value.string { data := #[] })) fun v7n1 =>
 ifV v7n1 (
 outK [(Value.pointer none), (Value.int .i64 1)]) (
 (inside (rec 147 #[a0])).bind fun v10n2 =>
 optK (evExtract v10n2 0) fun v11n3 =>
 optK (evExtract v10n2 1) fun v12n4 =>
 optK (q_neq PP 25 v12n4 (Value.int .i64 0)) fun v14n5 =>
 ifV v14n5 (
 outK [(Value.pointer none), v12n4]) (
 insB (evBuildZ PP 170 [Value.string ⟨⟨[]⟩⟩, Value.pointer none, Value.slice none 0 0, Value.slice none 0 0, Value.int .i64 0] [(0, a0), (1, v11n3)]) fun v18n6 =>
 insB (evBox3 PP 170 v18n6) fun v19n7 =>
 outK [v19n7, (Value.int .i64 0)]))
theorem fsh_bwt_New (lf d : Nat) (a0 : Value) : inside (F_bwt_New lf d (evC lf d) a0) = evC lf (d + 1) 102 #[a0] := by
  unfold F_bwt_New; (try simp only [bz170, clash3_eq, evBox3_eq, insB_eq, qS_eql_eq (P := PP) nf9, q_neq_eq (P := PP) nf25]); kernel_rfl

noncomputable def F_bwt_Turner_Done (lf d : Nat) (rec : RT) (a0 : Value) : M Value :=
 optK (qP_neq PP 107 a0 (Value.pointer none)) fun v4n1 =>
 ifV v4n1 (
 optK (nil2 a0) fun v7n2 =>
 optK (evFA3 PP 170 3 v7n2 3) fun v8n3 =>
 insB (evLoad3 PP 133 v8n3) fun v9n4 =>
 optK (len2 PP #[133] [v9n4]) fun v10n5 =>
 optK (nil2 a0) fun v12n6 =>
 optK (evFA3 PP 170 0 v12n6 0) fun v13n7 =>
 insB (evLoad3 PP 9 v13n7) fun v14n8 =>
 optK (len2 PP #[9] [v14n8]) fun v15n9 =>
 optK (q_eql PP 3 v10n5 v15n9) fun v16n10 =>
 outK [v16n10]) (
 outK [(Value.bool false)])
theorem fsh_bwt_Turner_Done (lf d : Nat) (a0 : Value) : inside (F_bwt_Turner_Done lf d (evC lf d) a0) = evC lf (d + 1) 103 #[a0] := by
  unfold F_bwt_Turner_Done; (try simp only [clash3_eq, evFA3_eq (P := PP) gf170f0, evFA3_eq (P := PP) gf170f3, evLoad3_eq (P := PP) ga133, evLoad3_eq (P := PP) ga9, insB_eq, qP_neq_eq (P := PP) Tryz.underlying107, q_eql_eq (P := PP) nf3]); kernel_rfl

noncomputable def lpA_bwt_Turner_Step (lf d fu : Nat) (k : KT) (x0 x1 x4 x5 x11 x29 : Value) : M Value := loopK (fun s1 k1 => codeK PP (evC lf d) (gtA 104) lf (codeAt (bodyOf PP 104) [true, true, true, true, false, false, false]) s1 k1) [0, 1, 4, 5, 11, 29] fu [(0, x0), (1, x1), (4, x4), (5, x5), (11, x11), (29, x29)] k
noncomputable def kcA_bwt_Turner_Step (lf d : Nat) : KT := contAt PP (evC lf d) (gtA 104) lf (bodyOf PP 104) [true, true, true, true, false, false] (endK PP (resOf PP 104))
noncomputable def LA_bwt_Turner_Step (lf d : Nat) (rec : RT) (k : KT) : Nat → Value → Value → Value → Value → Value → Value → M Value
 | 0, _, _, _, _, _, _ => M.fail
 | fu + 1, x0, x1, x4, x5, x11, x29 =>
 optK (nil2 x0) fun v39n22 =>
 optK (evFA3 PP 170 1 v39n22 1) fun v40n23 =>
 insB (evLoad3 PP 168 v40n23) fun v41n24 =>
 (inside (rec 149 #[v41n24])).bind fun v42n25 =>
 ifV v42n25 (
 optK (q_lss PP 3 x5 x1) fun v46n26 =>
 ifV v46n26 (
 (inside (rec 103 #[x0])).bind fun v50n27 =>
 optK (un3 PP .not v50n27) fun v51n28 =>
 ifV v51n28 (
 (inside (rec 151 #[x0])).bind fun v54n29 =>
 optK (q_add PP 3 x5 (Value.int .i64 1)) fun v56n30 =>
 LA_bwt_Turner_Step lf d rec k fu x0 x1 x4 v56n30 x11 x29) (
 k (Ex.exit 0) [(0, x0), (1, x1), (4, x4), (5, x5), (11, x11), (29, x29), (52, v51n28)])) (
 k (Ex.exit 0) [(0, x0), (1, x1), (4, x4), (5, x5), (11, x11), (29, x29), (52, (Value.bool false))])) (
 k (Ex.exit 0) [(0, x0), (1, x1), (4, x4), (5, x5), (11, x11), (29, x29), (52, (Value.bool false))])
noncomputable def KA_bwt_Turner_Step (lf d : Nat) (rec : RT) (dflt : KT) : KT := (kEx 0 (runCur [0, 1, 4, 5, 11, 29, 52] (fun y0 y1 y4 y5 y11 y29 y52 =>
 outK [y5]) (dflt (Ex.exit 0))) dflt)
noncomputable def F_bwt_Turner_Step (lf d : Nat) (rec : RT) (a0 a1 : Value) : M Value :=
 optK (qP_eql PP 107 a0 (Value.pointer none)) fun v7n1 =>
 ifV v7n1 (
 outK [(Value.int .i64 0)]) (
 optK (q_lss PP 3 a1 (Value.int .i64 1)) fun v10n2 =>
 ifV v10n2 (
 outK [(Value.int .i64 0)]) (
 optK (nil2 a0) fun v13n3 =>
 optK (evFA3 PP 170 1 v13n3 1) fun v14n4 =>
 insB (evLoad3 PP 168 v14n4) fun v15n5 =>
 (inside (rec 148 #[v15n5, a1])).bind fun v17n6 =>
 optK (nil2 a0) fun v19n7 =>
 optK (evFA3 PP 170 2 v19n7 2) fun v20n8 =>
 insB (evLoad3 PP 22 v20n8) fun v21n9 =>
 optK (bin2 PP .eql 22 v21n9 (Value.slice none 0 0)) fun v22n10 =>
 ifV v22n10 (
 optK (nil2 a0) fun v25n11 =>
 optK (evFA3 PP 170 1 v25n11 1) fun v26n12 =>
 insB (evLoad3 PP 168 v26n12) fun v27n13 =>
 (inside (rec 149 #[v27n13])).bind fun v28n14 =>
 ifV v28n14 (
 optK (nil2 a0) fun v32n15 =>
 optK (evFA3 PP 170 1 v32n15 1) fun v33n16 =>
 insB (evLoad3 PP 168 v33n16) fun v34n17 =>
 (inside (rec 150 #[v34n17])).bind fun v35n18 =>
 optK (nil2 a0) fun v36n19 =>
 optK (evFA3 PP 170 2 v36n19 2) fun v37n20 =>
 insB (evStore3 PP 22 v37n20 v35n18) fun u21 =>
 LA_bwt_Turner_Step lf d rec (KA_bwt_Turner_Step lf d rec (kcA_bwt_Turner_Step lf d)) lf a0 a1 (Value.int .i64 0) v17n6 v10n2 v28n14) (
 LA_bwt_Turner_Step lf d rec (KA_bwt_Turner_Step lf d rec (kcA_bwt_Turner_Step lf d)) lf a0 a1 (Value.int .i64 0) v17n6 v10n2 v28n14)) (
 LA_bwt_Turner_Step lf d rec (KA_bwt_Turner_Step lf d rec (kcA_bwt_Turner_Step lf d)) lf a0 a1 (Value.int .i64 0) v17n6 v10n2 (Value.bool false))))
theorem LQA_bwt_Turner_Step (lf d : Nat) (k : KT) : ∀ fu : Nat, LA_bwt_Turner_Step lf d (evC lf d) k fu = lpA_bwt_Turner_Step lf d fu k
  | 0 => by funext x0 x1 x4 x5 x11 x29; kernel_rfl
  | fu + 1 => by
    have ih := LQA_bwt_Turner_Step lf d k fu
    funext x0 x1 x4 x5 x11 x29; simp only [LA_bwt_Turner_Step, ih, clash3_eq, evFA3_eq (P := PP) gf170f1, evLoad3_eq (P := PP) ga168, insB_eq, q_add_eq (P := PP) nf3, q_lss_eq (P := PP) nf3, un3_eq]; kernel_rfl
set_option maxRecDepth 20000 in
theorem KQA_bwt_Turner_Step (lf d : Nat) : KA_bwt_Turner_Step lf d (evC lf d) (kcA_bwt_Turner_Step lf d) = kcA_bwt_Turner_Step lf d := by
  unfold KA_bwt_Turner_Step
  refine Eq.trans (kEx_eq ?_) ?_
  · exact (runCur_eq _ _ _ (by intro y0 y1 y4 y5 y11 y29 y52; show _ = _; (try simp only [clash3_eq, insB_eq]); kernel_rfl))
  rfl
theorem fsh_bwt_Turner_Step (lf d : Nat) (a0 a1 : Value) : inside (F_bwt_Turner_Step lf d (evC lf d) a0 a1) = evC lf (d + 1) 104 #[a0, a1] := by
  unfold F_bwt_Turner_Step; (try simp only [KQA_bwt_Turner_Step lf d, LQA_bwt_Turner_Step, clash3_eq, evFA3_eq (P := PP) gf170f1, evFA3_eq (P := PP) gf170f2, evLoad3_eq (P := PP) ga168, evLoad3_eq (P := PP) ga22, evStore3_eq (P := PP) gs22, insB_eq, qP_eql_eq (P := PP) Tryz.underlying107, q_lss_eq (P := PP) nf3]); kernel_rfl

noncomputable def F_bwt_Turner_Result (lf d : Nat) (rec : RT) (a0 : Value) : M Value :=
 (inside (rec 103 #[a0])).bind fun v5n1 =>
 optK (un3 PP .not v5n1) fun v6n2 =>
 ifV v6n2 (
 outK [(Value.string { data := #[] }), (Value.int .i64 0)]) (
 optK (nil2 a0) fun v8n3 =>
 optK (evFA3 PP 170 3 v8n3 3) fun v9n4 =>
 (timed (
 insB (evLoad3 PP 133 v9n4) fun v10n6 => M.ret v10n6)).bind fun vtn5 =>
 (timed (
 insB (evToStr3 vtn5.1) fun v11n8 => M.ret v11n8)).bind fun vtn7 =>
 optK (nil2 a0) fun v13n9 =>
 optK (evFA3 PP 170 4 v13n9 4) fun v14n10 =>
 (timed (
 insB (evLoad3 PP 3 v14n10) fun v15n12 => M.ret v15n12)).bind fun vtn11 =>
 chkT ((!(clash3 vtn7.2 vtn11.2) && true) && true) (
 outK [vtn7.1, vtn11.1]))
theorem fsh_bwt_Turner_Result (lf d : Nat) (a0 : Value) : inside (F_bwt_Turner_Result lf d (evC lf d) a0) = evC lf (d + 1) 105 #[a0] := by
  unfold F_bwt_Turner_Result; (try simp only [clash3_eq, evFA3_eq (P := PP) gf170f3, evFA3_eq (P := PP) gf170f4, evLoad3_eq (P := PP) ga133, evLoad3_eq (P := PP) ga3, evToStr3_eq, insB_eq, un3_eq]); kernel_rfl

noncomputable def lpA_used_Symbols (lf d fu : Nat) (k : KT) (x0 x2 x3 x6 x7 : Value) : M Value := loopK (fun s1 k1 => codeK PP (evC lf d) (gtA 106) lf (codeAt (bodyOf PP 106) [true, true, false, true, false, false]) s1 k1) [0, 2, 3, 6, 7] fu [(0, x0), (2, x2), (3, x3), (6, x6), (7, x7)] k
noncomputable def kcA_used_Symbols (lf d : Nat) : KT := contAt PP (evC lf d) (gtA 106) lf (bodyOf PP 106) [true, true, false, true, false] (endK PP (resOf PP 106))
noncomputable def LA_used_Symbols (lf d : Nat) (rec : RT) (k : KT) : Nat → Value → Value → Value → Value → Value → M Value
 | 0, _, _, _, _, _ => M.fail
 | fu + 1, x0, x2, x3, x6, x7 =>
 optK (q_lss PP 3 x7 x6) fun v8n3 =>
 ifV v8n3 (
 optK (index3 PP 9 x0 x7) fun v12n4 =>
 optK (evIAP3 PP 182 256 1 x3 v12n4) fun v13n5 =>
 insB (evStore3 PP 4 v13n5 (Value.bool true)) fun u6 =>
 optK (q_add PP 3 x7 (Value.int .i64 1)) fun v14n7 =>
 LA_used_Symbols lf d rec k fu x0 x2 x3 x6 v14n7) (
 k (Ex.exit 0) [(0, x0), (2, x2), (3, x3), (6, x6), (7, x7), (8, v8n3)])
noncomputable def KA_used_Symbols (lf d : Nat) (rec : RT) (dflt : KT) : KT := (kEx 0 (runCur [0, 2, 3, 6, 7, 8] (fun y0 y2 y3 y6 y7 y8 =>
 insB (evLoadA3 PP 182 256 y3) fun v15n8 =>
 (inside (rec 152 #[v15n8])).bind fun v16n9 =>
 outK [v16n9]) (dflt (Ex.exit 0))) dflt)
noncomputable def F_used_Symbols (lf d : Nat) (rec : RT) (a0 : Value) : M Value :=
 insB (evAllocZ 182 (repV (Value.bool false) 256)) fun v3n1 =>
 optK (len2 PP #[9] [a0]) fun v6n2 =>
 LA_used_Symbols lf d rec (KA_used_Symbols lf d rec (kcA_used_Symbols lf d)) lf a0 (Value.string { data := #[] }) v3n1 v6n2 (Value.int .i64 0)
theorem LQA_used_Symbols (lf d : Nat) (k : KT) : ∀ fu : Nat, LA_used_Symbols lf d (evC lf d) k fu = lpA_used_Symbols lf d fu k
  | 0 => by funext x0 x2 x3 x6 x7; kernel_rfl
  | fu + 1 => by
    have ih := LQA_used_Symbols lf d k fu
    funext x0 x2 x3 x6 x7; simp only [LA_used_Symbols, ih, clash3_eq, evIAP3_eq (P := PP) Tryz.underlying182 gs4, evStore3_eq (P := PP) gs4, index3_eq (P := PP) Tryz.underlying9, insB_eq, q_add_eq (P := PP) nf3, q_lss_eq (P := PP) nf3]; kernel_rfl
set_option maxRecDepth 20000 in
theorem KQA_used_Symbols (lf d : Nat) : KA_used_Symbols lf d (evC lf d) (kcA_used_Symbols lf d) = kcA_used_Symbols lf d := by
  unfold KA_used_Symbols
  refine Eq.trans (kEx_eq ?_) ?_
  · exact (runCur_eq _ _ _ (by intro y0 y2 y3 y6 y7 y8; show _ = _; (try simp only [clash3_eq, evLoadA3_eq (P := PP) ga182 gs182, insB_eq]); kernel_rfl))
  rfl
theorem fsh_used_Symbols (lf d : Nat) (a0 : Value) : inside (F_used_Symbols lf d (evC lf d) a0) = evC lf (d + 1) 106 #[a0] := by
  unfold F_used_Symbols; (try simp only [KQA_used_Symbols lf d, LQA_used_Symbols, az182, clash3_eq, insB_eq]); kernel_rfl

noncomputable def lpA_mtf_Encode (lf d fu : Nat) (k : KT) (x0 x1 x4 x5 x6 x7 x8 x18 x24 x25 : Value) : M Value := loopK (fun s1 k1 => codeK PP (evC lf d) (gtA 107) lf (codeAt (bodyOf PP 107) [true, true, true, true, false, true, false, false]) s1 k1) [0, 1, 4, 5, 6, 7, 8, 18, 24, 25] fu [(0, x0), (1, x1), (4, x4), (5, x5), (6, x6), (7, x7), (8, x8), (18, x18), (24, x24), (25, x25)] k
noncomputable def kcA_mtf_Encode (lf d : Nat) : KT := contAt PP (evC lf d) (gtA 107) lf (bodyOf PP 107) [true, true, true, true, false, true, false] (endK PP (resOf PP 107))
noncomputable def LA_mtf_Encode (lf d : Nat) (rec : RT) (k : KT) : Nat → Value → Value → Value → Value → Value → Value → Value → Value → Value → Value → M Value
 | 0, _, _, _, _, _, _, _, _, _, _ => M.fail
 | fu + 1, x0, x1, x4, x5, x6, x7, x8, x18, x24, x25 =>
 optK (q_lss PP 3 x25 x24) fun v26n8 =>
 ifV v26n8 (
 optK (index3 PP 9 x0 x25) fun v32n9 =>
 (inside (rec 154 #[x6, v32n9])).bind fun v33n10 =>
 optK (evExtract v33n10 0) fun v34n11 =>
 optK (evExtract v33n10 1) fun v35n12 =>
 optK (q_neq PP 25 v35n12 (Value.int .i64 0)) fun v37n13 =>
 ifV v37n13 (
 k Ex.ret [(0, x0), (1, x1), (4, (Value.slice none 0 0)), (5, v35n12), (6, x6), (7, x7), (8, x8), (9, x25), (10, v34n11), (11, v35n12), (18, x18), (24, x24), (25, x25), (26, v26n8), (37, v37n13)]) (
 optK (evIA3 PP 22 1 x8 x25) fun v42n14 =>
 insB (evStore3 PP 3 v42n14 v34n11) fun u15 =>
 optK (q_add PP 3 x25 (Value.int .i64 1)) fun v43n16 =>
 LA_mtf_Encode lf d rec k fu x0 x1 x4 x5 x6 x7 x8 x18 x24 v43n16)) (
 k (Ex.exit 0) [(0, x0), (1, x1), (4, x4), (5, x5), (6, x6), (7, x7), (8, x8), (18, x18), (24, x24), (25, x25), (26, v26n8)])
noncomputable def KA_mtf_Encode (lf d : Nat) (rec : RT) (dflt : KT) : KT := (kEx 0 (runCur [0, 1, 4, 5, 6, 7, 8, 18, 24, 25, 26] (fun y0 y1 y4 y5 y6 y7 y8 y18 y24 y25 y26 =>
 outK [y8, (Value.int .i64 0)]) (dflt (Ex.exit 0))) (kRt (runCur [0, 1, 4, 5, 6, 7, 8, 9, 10, 11, 18, 24, 25, 26, 37] (fun y0 y1 y4 y5 y6 y7 y8 y9 y10 y11 y18 y24 y25 y26 y37 =>
 outK [y4, y5]) (dflt Ex.ret)) dflt))
noncomputable def F_mtf_Encode (lf d : Nat) (rec : RT) (a0 a1 : Value) : M Value :=
 (inside (rec 153 #[a1])).bind fun v14n1 =>
 optK (evExtract v14n1 0) fun v15n2 =>
 optK (evExtract v14n1 1) fun v16n3 =>
 optK (q_neq PP 25 v16n3 (Value.int .i64 0)) fun v18n4 =>
 ifV v18n4 (
 outK [(Value.slice none 0 0), v16n3]) (
 optK (len2 PP #[9] [a0]) fun v21n5 =>
 insB (evMake3 PP 22 v21n5 v21n5) fun v22n6 =>
 optK (len2 PP #[22] [v22n6]) fun v24n7 =>
 LA_mtf_Encode lf d rec (KA_mtf_Encode lf d rec (kcA_mtf_Encode lf d)) lf a0 a1 (Value.slice none 0 0) (Value.int .i64 0) v15n2 v16n3 v22n6 v18n4 v24n7 (Value.int .i64 0))
theorem LQA_mtf_Encode (lf d : Nat) (k : KT) : ∀ fu : Nat, LA_mtf_Encode lf d (evC lf d) k fu = lpA_mtf_Encode lf d fu k
  | 0 => by funext x0 x1 x4 x5 x6 x7 x8 x18 x24 x25; kernel_rfl
  | fu + 1 => by
    have ih := LQA_mtf_Encode lf d k fu
    funext x0 x1 x4 x5 x6 x7 x8 x18 x24 x25; simp only [LA_mtf_Encode, ih, clash3_eq, evIA3_eq (P := PP) Tryz.underlying22 gs3, evStore3_eq (P := PP) gs3, index3_eq (P := PP) Tryz.underlying9, insB_eq, q_add_eq (P := PP) nf3, q_lss_eq (P := PP) nf3, q_neq_eq (P := PP) nf25]; kernel_rfl
set_option maxRecDepth 20000 in
theorem KQA_mtf_Encode (lf d : Nat) : KA_mtf_Encode lf d (evC lf d) (kcA_mtf_Encode lf d) = kcA_mtf_Encode lf d := by
  unfold KA_mtf_Encode
  refine Eq.trans (kEx_eq ?_) ?_
  · exact (runCur_eq _ _ _ (by intro y0 y1 y4 y5 y6 y7 y8 y18 y24 y25 y26; show _ = _; (try simp only [clash3_eq, insB_eq]); kernel_rfl))
  refine Eq.trans (kRt_eq ?_) ?_
  · exact (runCur_eq _ _ _ (by intro y0 y1 y4 y5 y6 y7 y8 y9 y10 y11 y18 y24 y25 y26 y37; show _ = _; (try simp only [clash3_eq, insB_eq]); kernel_rfl))
  rfl
theorem fsh_mtf_Encode (lf d : Nat) (a0 a1 : Value) : inside (F_mtf_Encode lf d (evC lf d) a0 a1) = evC lf (d + 1) 107 #[a0, a1] := by
  unfold F_mtf_Encode; (try simp only [KQA_mtf_Encode lf d, LQA_mtf_Encode, clash3_eq, evMake3_eq, insB_eq, q_neq_eq (P := PP) nf25]); kernel_rfl

noncomputable def lpA_zeros_Encode (lf d fu : Nat) (k : KT) (x0 x1 x4 x5 x6 x7 x12 x13 x14 x15 : Value) : M Value := loopK (fun s1 k1 => codeK PP (evC lf d) (gtA 108) lf (codeAt (bodyOf PP 108) [true, true, true, true, false, true, false, false]) s1 k1) [0, 1, 4, 5, 6, 7, 12, 13, 14, 15] fu [(0, x0), (1, x1), (4, x4), (5, x5), (6, x6), (7, x7), (12, x12), (13, x13), (14, x14), (15, x15)] k
noncomputable def kcA_zeros_Encode (lf d : Nat) : KT := contAt PP (evC lf d) (gtA 108) lf (bodyOf PP 108) [true, true, true, true, false, true, false] (endK PP (resOf PP 108))
noncomputable def LA_zeros_Encode (lf d : Nat) (rec : RT) (k : KT) : Nat → Value → Value → Value → Value → Value → Value → Value → Value → Value → Value → M Value
 | 0, _, _, _, _, _, _, _, _, _, _ => M.fail
 | fu + 1, x0, x1, x4, x5, x6, x7, x12, x13, x14, x15 =>
 optK (q_lss PP 3 x15 x14) fun v16n4 =>
 ifV v16n4 (
 optK (evIA3 PP 22 1 x13 x15) fun v17n5 =>
 insB (evLoad3 PP 3 v17n5) fun v18n6 =>
 optK (q_lss PP 3 v18n6 (Value.int .i64 0)) fun v21n7 =>
 ifV v21n7 (
 k Ex.ret [(0, x0), (1, x1), (4, (Value.slice none 0 0)), (5, (Value.int .i64 1)), (6, x6), (7, x7), (9, v18n6), (12, x12), (13, x13), (14, x14), (15, x15), (16, v16n4), (19, (Value.bool true))]) (
 optK (q_geq PP 3 v18n6 x1) fun v25n8 =>
 ifV v25n8 (
 k Ex.ret [(0, x0), (1, x1), (4, (Value.slice none 0 0)), (5, (Value.int .i64 1)), (6, x6), (7, x7), (9, v18n6), (12, x12), (13, x13), (14, x14), (15, x15), (16, v16n4), (19, v25n8)]) (
 optK (q_eql PP 3 v18n6 (Value.int .i64 0)) fun v29n9 =>
 ifV v29n9 (
 optK (q_add PP 3 x7 (Value.int .i64 1)) fun v31n10 =>
 optK (q_add PP 3 x15 (Value.int .i64 1)) fun v41n11 =>
 LA_zeros_Encode lf d rec k fu x0 x1 x4 x5 x6 v31n10 x12 x13 x14 v41n11) (
 (inside (rec 156 #[x7])).bind fun v34n12 =>
 insB (evAppend3 PP 22 x6 v34n12) fun v35n13 =>
 optK (q_add PP 3 v18n6 (Value.int .i64 1)) fun v38n14 =>
 insB (evBS3 PP 22 1 [(0, v38n14)]) fun v39n15 =>
 insB (evAppend3 PP 22 v35n13 v39n15) fun v40n16 =>
 optK (q_add PP 3 x15 (Value.int .i64 1)) fun v41n17 =>
 LA_zeros_Encode lf d rec k fu x0 x1 x4 x5 v40n16 (Value.int .i64 0) x12 x13 x14 v41n17)))) (
 k (Ex.exit 0) [(0, x0), (1, x1), (4, x4), (5, x5), (6, x6), (7, x7), (12, x12), (13, x13), (14, x14), (15, x15), (16, v16n4)])
noncomputable def KA_zeros_Encode (lf d : Nat) (rec : RT) (dflt : KT) : KT := (kEx 0 (runCur [0, 1, 4, 5, 6, 7, 12, 13, 14, 15, 16] (fun y0 y1 y4 y5 y6 y7 y12 y13 y14 y15 y16 =>
 (inside (rec 156 #[y7])).bind fun v44n18 =>
 insB (evAppend3 PP 22 y6 v44n18) fun v45n19 =>
 optK (q_add PP 3 y1 (Value.int .i64 1)) fun v48n20 =>
 insB (evBS3 PP 22 1 [(0, v48n20)]) fun v49n21 =>
 insB (evAppend3 PP 22 v45n19 v49n21) fun v50n22 =>
 outK [v50n22, (Value.int .i64 0)]) (dflt (Ex.exit 0))) (kRt (runCur [0, 1, 4, 5, 6, 7, 9, 12, 13, 14, 15, 16, 19] (fun y0 y1 y4 y5 y6 y7 y9 y12 y13 y14 y15 y16 y19 =>
 outK [y4, y5]) (dflt Ex.ret)) dflt))
noncomputable def F_zeros_Encode (lf d : Nat) (rec : RT) (a0 a1 : Value) : M Value :=
 (inside (rec 155 #[a1])).bind fun v11n1 =>
 optK (un3 PP .not v11n1) fun v12n2 =>
 ifV v12n2 (
 outK [(Value.slice none 0 0), (Value.int .i64 1)]) (
 optK (len2 PP #[22] [a0]) fun v14n3 =>
 LA_zeros_Encode lf d rec (KA_zeros_Encode lf d rec (kcA_zeros_Encode lf d)) lf a0 a1 (Value.slice none 0 0) (Value.int .i64 0) (Value.slice none 0 0) (Value.int .i64 0) v12n2 a0 v14n3 (Value.int .i64 0))
theorem LQA_zeros_Encode (lf d : Nat) (k : KT) : ∀ fu : Nat, LA_zeros_Encode lf d (evC lf d) k fu = lpA_zeros_Encode lf d fu k
  | 0 => by funext x0 x1 x4 x5 x6 x7 x12 x13 x14 x15; kernel_rfl
  | fu + 1 => by
    have ih := LQA_zeros_Encode lf d k fu
    funext x0 x1 x4 x5 x6 x7 x12 x13 x14 x15; simp only [LA_zeros_Encode, ih, clash3_eq, evAppend3_eq, evBS3_eq, evIA3_eq (P := PP) Tryz.underlying22 gs3, evLoad3_eq (P := PP) ga3, insB_eq, q_add_eq (P := PP) nf3, q_eql_eq (P := PP) nf3, q_geq_eq (P := PP) nf3, q_lss_eq (P := PP) nf3]; kernel_rfl
set_option maxRecDepth 20000 in
theorem KQA_zeros_Encode (lf d : Nat) : KA_zeros_Encode lf d (evC lf d) (kcA_zeros_Encode lf d) = kcA_zeros_Encode lf d := by
  unfold KA_zeros_Encode
  refine Eq.trans (kEx_eq ?_) ?_
  · exact (runCur_eq _ _ _ (by intro y0 y1 y4 y5 y6 y7 y12 y13 y14 y15 y16; show _ = _; (try simp only [clash3_eq, evAppend3_eq, evBS3_eq, insB_eq, q_add_eq (P := PP) nf3]); kernel_rfl))
  refine Eq.trans (kRt_eq ?_) ?_
  · exact (runCur_eq _ _ _ (by intro y0 y1 y4 y5 y6 y7 y9 y12 y13 y14 y15 y16 y19; show _ = _; (try simp only [clash3_eq, evAppend3_eq, evBS3_eq, insB_eq, q_add_eq (P := PP) nf3]); kernel_rfl))
  rfl
theorem fsh_zeros_Encode (lf d : Nat) (a0 a1 : Value) : inside (F_zeros_Encode lf d (evC lf d) a0 a1) = evC lf (d + 1) 108 #[a0, a1] := by
  unfold F_zeros_Encode; (try simp only [KQA_zeros_Encode lf d, LQA_zeros_Encode, clash3_eq, insB_eq, un3_eq]); kernel_rfl

noncomputable def lpA_used_Write (lf d fu : Nat) (k : KT) (x0 x1 x4 x5 x6 x11 x14 x20 x21 : Value) : M Value := loopK (fun s1 k1 => codeK PP (evC lf d) (gtA 109) lf (codeAt (bodyOf PP 109) [true, true, true, true, false, true, false, false]) s1 k1) [0, 1, 4, 5, 6, 11, 14, 20, 21] fu [(0, x0), (1, x1), (4, x4), (5, x5), (6, x6), (11, x11), (14, x14), (20, x20), (21, x21)] k
noncomputable def kcA_used_Write (lf d : Nat) : KT := contAt PP (evC lf d) (gtA 109) lf (bodyOf PP 109) [true, true, true, true, false, true, false] (endK PP (resOf PP 109))
noncomputable def lpB_used_Write (lf d fu : Nat) (k : KT) (x0 x1 x4 x5 x6 x11 x14 x20 x21 x22 x36 x37 : Value) : M Value := loopK (fun s1 k1 => codeK PP (evC lf d) (gtA 109) lf (codeAt (bodyOf PP 109) [true, true, true, true, true, true, false, true, false, false]) s1 k1) [0, 1, 4, 5, 6, 11, 14, 20, 21, 22, 36, 37] fu [(0, x0), (1, x1), (4, x4), (5, x5), (6, x6), (11, x11), (14, x14), (20, x20), (21, x21), (22, x22), (36, x36), (37, x37)] k
noncomputable def kcB_used_Write (lf d : Nat) : KT := contAt PP (evC lf d) (gtA 109) lf (bodyOf PP 109) [true, true, true, true, true, true, false, true, false] (endK PP (resOf PP 109))
noncomputable def LA_used_Write (lf d : Nat) (rec : RT) (k : KT) : Nat → Value → Value → Value → Value → Value → Value → Value → Value → Value → M Value
 | 0, _, _, _, _, _, _, _, _, _ => M.fail
 | fu + 1, x0, x1, x4, x5, x6, x11, x14, x20, x21 =>
 optK (q_lss PP 3 x21 (Value.int .i64 16)) fun v22n8 =>
 ifV v22n8 (
 optK (index2 PP 190 x20 x21) fun v24n9 =>
 optK (q_neq PP 38 v24n9 (Value.int .u32 0)) fun v26n10 =>
 ifV v26n10 (
 optK (q_sub PP 3 (Value.int .i64 15) x21) fun v29n11 =>
 optK (q_shl PP 38 (Value.int .u32 1) v29n11) fun v30n12 =>
 optK (q_or PP 38 x6 v30n12) fun v31n13 =>
 optK (q_add PP 3 x21 (Value.int .i64 1)) fun v32n14 =>
 LA_used_Write lf d rec k fu x0 x1 x4 x5 v31n13 x11 x14 x20 v32n14) (
 optK (q_add PP 3 x21 (Value.int .i64 1)) fun v32n15 =>
 LA_used_Write lf d rec k fu x0 x1 x4 x5 x6 x11 x14 x20 v32n15)) (
 k (Ex.exit 1) [(0, x0), (1, x1), (4, x4), (5, x5), (6, x6), (11, x11), (14, x14), (20, x20), (21, x21), (22, v22n8)])
noncomputable def LB_used_Write (lf d : Nat) (rec : RT) (k : KT) : Nat → Value → Value → Value → Value → Value → Value → Value → Value → Value → Value → Value → Value → M Value
 | 0, _, _, _, _, _, _, _, _, _, _, _, _ => M.fail
 | fu + 1, x0, x1, x4, x5, x6, x11, x14, x20, x21, x22, x36, x37 =>
 optK (q_lss PP 3 x37 (Value.int .i64 16)) fun v38n18 =>
 ifV v38n18 (
 optK (index2 PP 190 x36 x37) fun v39n19 =>
 optK (q_neq PP 38 v39n19 (Value.int .u32 0)) fun v41n20 =>
 ifV v41n20 (
 (inside (rec 65 #[x0, v39n19, (Value.int .i64 16)])).bind fun v44n21 =>
 optK (q_add PP 3 x37 (Value.int .i64 1)) fun v45n22 =>
 LB_used_Write lf d rec k fu x0 x1 x4 x5 x6 x11 x14 x20 x21 x22 x36 v45n22) (
 optK (q_add PP 3 x37 (Value.int .i64 1)) fun v45n23 =>
 LB_used_Write lf d rec k fu x0 x1 x4 x5 x6 x11 x14 x20 x21 x22 x36 v45n23)) (
 k (Ex.exit 3) [(0, x0), (1, x1), (4, x4), (5, x5), (6, x6), (11, x11), (14, x14), (20, x20), (21, x21), (22, x22), (36, x36), (37, x37), (38, v38n18)])
noncomputable def KB_used_Write (lf d : Nat) (rec : RT) (dflt : KT) : KT := (kEx 3 (runCur [0, 1, 4, 5, 6, 11, 14, 20, 21, 22, 36, 37, 38] (fun y0 y1 y4 y5 y6 y11 y14 y20 y21 y22 y36 y37 y38 =>
 outK [(Value.int .i64 0)]) (dflt (Ex.exit 3))) dflt)
noncomputable def KA_used_Write (lf d : Nat) (rec : RT) (dflt : KT) : KT := (kEx 1 (runCur [0, 1, 4, 5, 6, 11, 14, 20, 21, 22] (fun y0 y1 y4 y5 y6 y11 y14 y20 y21 y22 =>
 (inside (rec 65 #[y0, y6, (Value.int .i64 16)])).bind fun v35n16 =>
 insB (evLoadA3 PP 190 16 y5) fun v36n17 =>
 LB_used_Write lf d rec (KB_used_Write lf d rec (kcB_used_Write lf d)) lf y0 y1 y4 y5 y6 y11 y14 y20 y21 y22 v36n17 (Value.int .i64 0)) (dflt (Ex.exit 1))) dflt)
noncomputable def F_used_Write (lf d : Nat) (rec : RT) (a0 a1 : Value) : M Value :=
 optK (qP_eql PP 71 a0 (Value.pointer none)) fun v13n1 =>
 ifV v13n1 (
 outK [(Value.int .i64 7)]) (
 (inside (rec 157 #[a1])).bind fun v16n2 =>
 optK (un3 PP .not v16n2) fun v17n3 =>
 ifV v17n3 (
 outK [(Value.int .i64 1)]) (
 (inside (rec 158 #[a1])).bind fun v19n4 =>
 insB (evAllocZ 190 (repV (Value.int .u32 0) 16)) fun v5n5 =>
 insB (evStoreA3 PP 190 16 v5n5 v19n4) fun u6 =>
 insB (evLoadA3 PP 190 16 v5n5) fun v20n7 =>
 LA_used_Write lf d rec (KA_used_Write lf d rec (kcA_used_Write lf d)) lf a0 a1 (Value.int .i64 0) v5n5 (Value.int .u32 0) v13n1 v17n3 v20n7 (Value.int .i64 0)))
theorem LQA_used_Write (lf d : Nat) (k : KT) : ∀ fu : Nat, LA_used_Write lf d (evC lf d) k fu = lpA_used_Write lf d fu k
  | 0 => by funext x0 x1 x4 x5 x6 x11 x14 x20 x21; kernel_rfl
  | fu + 1 => by
    have ih := LQA_used_Write lf d k fu
    funext x0 x1 x4 x5 x6 x11 x14 x20 x21; simp only [LA_used_Write, ih, clash3_eq, insB_eq, q_add_eq (P := PP) nf3, q_lss_eq (P := PP) nf3, q_neq_eq (P := PP) nf38, q_or_eq (P := PP) nf38, q_shl_eq (P := PP) nf38, q_sub_eq (P := PP) nf3]; kernel_rfl
theorem LQB_used_Write (lf d : Nat) (k : KT) : ∀ fu : Nat, LB_used_Write lf d (evC lf d) k fu = lpB_used_Write lf d fu k
  | 0 => by funext x0 x1 x4 x5 x6 x11 x14 x20 x21 x22 x36 x37; kernel_rfl
  | fu + 1 => by
    have ih := LQB_used_Write lf d k fu
    funext x0 x1 x4 x5 x6 x11 x14 x20 x21 x22 x36 x37; simp only [LB_used_Write, ih, clash3_eq, insB_eq, q_add_eq (P := PP) nf3, q_lss_eq (P := PP) nf3, q_neq_eq (P := PP) nf38]; kernel_rfl
set_option maxRecDepth 20000 in
theorem KQB_used_Write (lf d : Nat) : KB_used_Write lf d (evC lf d) (kcB_used_Write lf d) = kcB_used_Write lf d := by
  unfold KB_used_Write
  refine Eq.trans (kEx_eq ?_) ?_
  · exact (runCur_eq _ _ _ (by intro y0 y1 y4 y5 y6 y11 y14 y20 y21 y22 y36 y37 y38; show _ = _; (try simp only [clash3_eq, insB_eq]); kernel_rfl))
  rfl
set_option maxRecDepth 20000 in
theorem KQA_used_Write (lf d : Nat) : KA_used_Write lf d (evC lf d) (kcA_used_Write lf d) = kcA_used_Write lf d := by
  unfold KA_used_Write
  refine Eq.trans (kEx_eq ?_) ?_
  · exact (runCur_eq _ _ _ (by intro y0 y1 y4 y5 y6 y11 y14 y20 y21 y22; show _ = _; (try simp only [KQB_used_Write lf d, LQB_used_Write, clash3_eq, evLoadA3_eq (P := PP) ga190 gs190, insB_eq]); kernel_rfl))
  rfl
theorem fsh_used_Write (lf d : Nat) (a0 a1 : Value) : inside (F_used_Write lf d (evC lf d) a0 a1) = evC lf (d + 1) 109 #[a0, a1] := by
  unfold F_used_Write; (try simp only [KQA_used_Write lf d, LQA_used_Write, az190, clash3_eq, evLoadA3_eq (P := PP) ga190 gs190, evStoreA3_eq (P := PP) gs190, insB_eq, qP_eql_eq (P := PP) Tryz.underlying71, un3_eq]); kernel_rfl

noncomputable def F_bits_fits (lf d : Nat) (rec : RT) (a0 a1 : Value) : M Value :=
 optK (q_geq PP 3 a1 (Value.int .i64 0)) fun v6n1 =>
 ifV v6n1 (
 optK (q_leq PP 3 a1 (Value.int .i64 32)) fun v9n2 =>
 ifV v9n2 (
 conv3 PP 38 93 .u32 .u64 a0 fun v13n3 =>
 optK (q_shr PP 93 v13n3 a1) fun v15n4 =>
 optK (q_eql PP 93 v15n4 (Value.int .u64 0)) fun v16n5 =>
 outK [v16n5]) (
 outK [(Value.bool false)])) (
 outK [(Value.bool false)])
theorem fsh_bits_fits (lf d : Nat) (a0 a1 : Value) : inside (F_bits_fits lf d (evC lf d) a0 a1) = evC lf (d + 1) 110 #[a0, a1] := by
  unfold F_bits_fits; (try simp only [clash3_eq, conv3_eq cw38x93, insB_eq, q_eql_eq (P := PP) nf93, q_geq_eq (P := PP) nf3, q_leq_eq (P := PP) nf3, q_shr_eq (P := PP) nf93]); kernel_rfl

noncomputable def F_balerref21_Head (lf d : Nat) (rec : RT) (a0 : Value) : M Value :=
 optK (q_add PP 3 a0 (Value.int .i64 1)) fun v5n1 =>
 slice3 PP 9 (Value.string { data := #[48, 49, 50, 51, 52, 53, 54, 55, 56, 57] }) (some a0) (some v5n1) none fun v6n2 =>
 optK (qS_add PP 9 (Value.string { data := #[66, 90, 104] }) v6n2) fun v7n3 =>
 (inside (rec 159 #[v7n3])).bind fun v8n4 =>
 outK [v8n4]
theorem fsh_balerref21_Head (lf d : Nat) (a0 : Value) : inside (F_balerref21_Head lf d (evC lf d) a0) = evC lf (d + 1) 113 #[a0] := by
  unfold F_balerref21_Head; (try simp only [clash3_eq, insB_eq, qS_add_eq (P := PP) nf9, q_add_eq (P := PP) nf3, slice3_eq (P := PP) Tryz.underlying9]); kernel_rfl

noncomputable def lpA_balerref19_Of (lf d fu : Nat) (k : KT) (x0 x1 x4 x5 x6 x12 x13 x14 : Value) : M Value := loopK (fun s1 k1 => codeK PP (evC lf d) (gtA 114) lf (codeAt (bodyOf PP 114) [true, true, true, false, true, false, false]) s1 k1) [0, 1, 4, 5, 6, 12, 13, 14] fu [(0, x0), (1, x1), (4, x4), (5, x5), (6, x6), (12, x12), (13, x13), (14, x14)] k
noncomputable def kcA_balerref19_Of (lf d : Nat) : KT := contAt PP (evC lf d) (gtA 114) lf (bodyOf PP 114) [true, true, true, false, true, false] (endK PP (resOf PP 114))
noncomputable def lpB_balerref19_Of (lf d fu : Nat) (k : KT) (x0 x1 x4 x5 x6 x8 x9 x12 x13 x14 x15 x27 x39 x40 : Value) : M Value := loopK (fun s1 k1 => codeK PP (evC lf d) (gtA 114) lf (codeAt (bodyOf PP 114) [true, true, true, false, true, false, false, true, true, false, false, true, true, true, true, true, false, false]) s1 k1) [0, 1, 4, 5, 6, 8, 9, 12, 13, 14, 15, 27, 39, 40] fu [(0, x0), (1, x1), (4, x4), (5, x5), (6, x6), (8, x8), (9, x9), (12, x12), (13, x13), (14, x14), (15, x15), (27, x27), (39, x39), (40, x40)] k
noncomputable def kcB_balerref19_Of (lf d fu : Nat) (k : KT) : KT := contAt PP (evC lf d) (gtA 114) lf (codeAt (bodyOf PP 114) [true, true, true, false, true, false, false]) [true, true, false, false, true, true, true, true, true, false] (againK (fun s1 => loopK (fun s1 k1 => codeK PP (evC lf d) (gtA 114) lf (codeAt (bodyOf PP 114) [true, true, true, false, true, false, false]) s1 k1) [0, 1, 4, 5, 6, 12, 13, 14] fu (s1.keep [0, 1, 4, 5, 6, 12, 13, 14]) k) k)
noncomputable def KA_balerref19_Of (lf d : Nat) (rec : RT) (dflt : KT) : KT := (kEx 0 (runCur [0, 1, 4, 5, 6, 12, 13, 14, 15] (fun y0 y1 y4 y5 y6 y12 y13 y14 y15 =>
 optK (evFA3 PP 153 0 y6 0) fun v52n38 =>
 insB (evLoad3 PP 9 v52n38) fun v53n39 =>
 optK (len2 PP #[9] [v53n39]) fun v54n40 =>
 optK (q_gtr PP 3 v54n40 (Value.int .i64 0)) fun v55n41 =>
 ifV v55n41 (
 insB (evLoadA3 PP 153 2 y6) fun v57n42 =>
 insB (evBS3 PP 150 1 [(0, v57n42)]) fun v58n43 =>
 insB (evAppend3 PP 150 y5 v58n43) fun v59n44 =>
 outK [v59n44]) (
 outK [y5])) (dflt (Ex.exit 0))) dflt)
noncomputable def LB_balerref19_Of (lf d : Nat) (rec : RT) (k : KT) : Nat → Value → Value → Value → Value → Value → Value → Value → Value → Value → Value → Value → Value → Value → Value → M Value
 | 0, _, _, _, _, _, _, _, _, _, _, _, _, _, _ => M.fail
 | fu + 1, x0, x1, x4, x5, x6, x8, x9, x12, x13, x14, x15, x27, x39, x40 =>
 optK (q_lss PP 3 x40 x39) fun v41n45 =>
 ifV v41n45 (
 optK (evFA3 PP 153 1 x6 1) fun v42n46 =>
 insB (evLoad3 PP 9 v42n46) fun v43n47 =>
 optK (evFA3 PP 166 0 x8 0) fun v44n48 =>
 insB (evLoad3 PP 5 v44n48) fun v45n49 =>
 insB (evBS3 PP 133 1 [(0, v45n49)]) fun v46n50 =>
 insB (evToStr3 v46n50) fun v47n51 =>
 optK (qS_add PP 9 v43n47 v47n51) fun v48n52 =>
 optK (evFA3 PP 153 1 x6 1) fun v49n53 =>
 insB (evStore3 PP 9 v49n53 v48n52) fun u54 =>
 optK (q_add PP 3 x40 (Value.int .i64 1)) fun v50n55 =>
 LB_balerref19_Of lf d rec k fu x0 x1 x4 x5 x6 x8 x9 x12 x13 x14 x15 x27 x39 v50n55) (
 k (Ex.exit 2) [(0, x0), (1, x1), (4, x4), (5, x5), (6, x6), (8, x8), (9, x9), (12, x12), (13, x13), (14, x14), (15, x15), (27, x27), (39, x39), (40, x40), (41, v41n45)])
noncomputable def KB_balerref19_Of (lf d : Nat) (rec : RT) (fu : Nat) (k : KT) (again : Value → Value → Value → Value → Value → Value → Value → Value → M Value) (dflt : KT) : KT := (kEx 2 (runCur [0, 1, 4, 5, 6, 8, 9, 12, 13, 14, 15, 27, 39, 40, 41] (fun y0 y1 y4 y5 y6 y8 y9 y12 y13 y14 y15 y27 y39 y40 y41 =>
 optK (q_add PP 3 y14 (Value.int .i64 1)) fun v51n56 =>
 again y0 y1 y4 y5 y6 y12 y13 v51n56) (dflt (Ex.exit 2))) dflt)
noncomputable def LA_balerref19_Of (lf d : Nat) (rec : RT) (k : KT) : Nat → Value → Value → Value → Value → Value → Value → Value → Value → M Value
 | 0, _, _, _, _, _, _, _, _ => M.fail
 | fu + 1, x0, x1, x4, x5, x6, x12, x13, x14 =>
 optK (q_lss PP 3 x14 x13) fun v15n6 =>
 ifV v15n6 (
 optK (evIA3 PP 192 2 x12 x14) fun v16n7 =>
 insB (evLoadA3 PP 166 2 v16n7) fun v17n8 =>
 insB (evAllocZ 166 [Value.int .u8 0, Value.int .i64 0]) fun v8n9 =>
 insB (evStoreA3 PP 166 2 v8n9 v17n8) fun u10 =>
 insB (evLoadA3 PP 166 2 v8n9) fun v18n11 =>
 (inside (rec 161 #[v18n11])).bind fun v19n12 =>
 optK (evFA3 PP 153 0 x6 0) fun v20n13 =>
 insB (evLoad3 PP 9 v20n13) fun v21n14 =>
 optK (len2 PP #[9] [v21n14]) fun v22n15 =>
 optK (len2 PP #[9] [v19n12]) fun v24n16 =>
 optK (q_add PP 3 v22n15 v24n16) fun v25n17 =>
 optK (q_gtr PP 3 v25n17 x1) fun v27n18 =>
 ifV v27n18 (
 insB (evLoadA3 PP 153 2 x6) fun v29n19 =>
 insB (evBS3 PP 150 1 [(0, v29n19)]) fun v30n20 =>
 insB (evAppend3 PP 150 x5 v30n20) fun v31n21 =>
 insB (evBuildZ PP 153 [Value.string ⟨⟨[]⟩⟩, Value.string ⟨⟨[]⟩⟩] []) fun v32n22 =>
 insB (evStoreA3 PP 153 2 x6 v32n22) fun u23 =>
 optK (evFA3 PP 153 0 x6 0) fun v33n24 =>
 insB (evLoad3 PP 9 v33n24) fun v34n25 =>
 optK (qS_add PP 9 v34n25 v19n12) fun v36n26 =>
 optK (evFA3 PP 153 0 x6 0) fun v37n27 =>
 insB (evStore3 PP 9 v37n27 v36n26) fun u28 =>
 optK (evFA3 PP 166 1 v8n9 1) fun v38n29 =>
 insB (evLoad3 PP 3 v38n29) fun v39n30 =>
 LB_balerref19_Of lf d rec (KB_balerref19_Of lf d rec fu k (LA_balerref19_Of lf d rec k fu) (kcB_balerref19_Of lf d fu k)) lf x0 x1 x4 v31n21 x6 v8n9 v19n12 x12 x13 x14 v15n6 v27n18 v39n30 (Value.int .i64 0)) (
 optK (evFA3 PP 153 0 x6 0) fun v33n31 =>
 insB (evLoad3 PP 9 v33n31) fun v34n32 =>
 optK (qS_add PP 9 v34n32 v19n12) fun v36n33 =>
 optK (evFA3 PP 153 0 x6 0) fun v37n34 =>
 insB (evStore3 PP 9 v37n34 v36n33) fun u35 =>
 optK (evFA3 PP 166 1 v8n9 1) fun v38n36 =>
 insB (evLoad3 PP 3 v38n36) fun v39n37 =>
 LB_balerref19_Of lf d rec (KB_balerref19_Of lf d rec fu k (LA_balerref19_Of lf d rec k fu) (kcB_balerref19_Of lf d fu k)) lf x0 x1 x4 x5 x6 v8n9 v19n12 x12 x13 x14 v15n6 v27n18 v39n37 (Value.int .i64 0))) (
 k (Ex.exit 0) [(0, x0), (1, x1), (4, x4), (5, x5), (6, x6), (12, x12), (13, x13), (14, x14), (15, v15n6)])
noncomputable def F_balerref19_Of (lf d : Nat) (rec : RT) (a0 a1 : Value) : M Value :=
 insB (evBuildZ PP 153 [Value.string ⟨⟨[]⟩⟩, Value.string ⟨⟨[]⟩⟩] []) fun v10n1 =>
 insB (evAllocZ 153 [Value.string ⟨⟨[]⟩⟩, Value.string ⟨⟨[]⟩⟩]) fun v6n2 =>
 insB (evStoreA3 PP 153 2 v6n2 v10n1) fun u3 =>
 (inside (rec 160 #[a0])).bind fun v12n4 =>
 optK (len2 PP #[192] [v12n4]) fun v13n5 =>
 LA_balerref19_Of lf d rec (KA_balerref19_Of lf d rec (kcA_balerref19_Of lf d)) lf a0 a1 (Value.slice none 0 0) (Value.slice none 0 0) v6n2 v12n4 v13n5 (Value.int .i64 0)
set_option maxRecDepth 20000 in
theorem KQA_balerref19_Of (lf d : Nat) : KA_balerref19_Of lf d (evC lf d) (kcA_balerref19_Of lf d) = kcA_balerref19_Of lf d := by
  unfold KA_balerref19_Of
  refine Eq.trans (kEx_eq ?_) ?_
  · exact (runCur_eq _ _ _ (by intro y0 y1 y4 y5 y6 y12 y13 y14 y15; show _ = _; (try simp only [clash3_eq, evAppend3_eq, evBS3_eq, evFA3_eq (P := PP) gf153f0, evLoad3_eq (P := PP) ga9, evLoadA3_eq (P := PP) ga153 gs153, insB_eq, q_gtr_eq (P := PP) nf3]); kernel_rfl))
  rfl
theorem LQB_balerref19_Of (lf d : Nat) (k : KT) : ∀ fu : Nat, LB_balerref19_Of lf d (evC lf d) k fu = lpB_balerref19_Of lf d fu k
  | 0 => by funext x0 x1 x4 x5 x6 x8 x9 x12 x13 x14 x15 x27 x39 x40; kernel_rfl
  | fu + 1 => by
    have ih := LQB_balerref19_Of lf d k fu
    funext x0 x1 x4 x5 x6 x8 x9 x12 x13 x14 x15 x27 x39 x40; simp only [LB_balerref19_Of, ih, clash3_eq, evBS3_eq, evFA3_eq (P := PP) gf153f1, evFA3_eq (P := PP) gf166f0, evLoad3_eq (P := PP) ga5, evLoad3_eq (P := PP) ga9, evStore3_eq (P := PP) gs9, evToStr3_eq, insB_eq, qS_add_eq (P := PP) nf9, q_add_eq (P := PP) nf3, q_lss_eq (P := PP) nf3]; kernel_rfl
set_option maxRecDepth 20000 in
theorem KQB_balerref19_Of (lf d fu : Nat) (k : KT) (again : Value → Value → Value → Value → Value → Value → Value → Value → M Value) (ha : again = lpA_balerref19_Of lf d fu k) : KB_balerref19_Of lf d (evC lf d) fu k again (kcB_balerref19_Of lf d fu k) = kcB_balerref19_Of lf d fu k := by
  subst ha
  unfold KB_balerref19_Of
  refine Eq.trans (kEx_eq ?_) ?_
  · exact (runCur_eq _ _ _ (by intro y0 y1 y4 y5 y6 y8 y9 y12 y13 y14 y15 y27 y39 y40 y41; show _ = _; (try simp only [clash3_eq, insB_eq, q_add_eq (P := PP) nf3]); kernel_rfl))
  rfl
theorem LQA_balerref19_Of (lf d : Nat) (k : KT) : ∀ fu : Nat, LA_balerref19_Of lf d (evC lf d) k fu = lpA_balerref19_Of lf d fu k
  | 0 => by funext x0 x1 x4 x5 x6 x12 x13 x14; kernel_rfl
  | fu + 1 => by
    have ih := LQA_balerref19_Of lf d k fu
    funext x0 x1 x4 x5 x6 x12 x13 x14; simp only [LA_balerref19_Of, ih, KQB_balerref19_Of lf d fu k _ rfl, LQB_balerref19_Of, az166, bz153, clash3_eq, evAppend3_eq, evBS3_eq, evFA3_eq (P := PP) gf153f0, evFA3_eq (P := PP) gf166f1, evIA3_eq (P := PP) Tryz.underlying192 gs166, evLoad3_eq (P := PP) ga3, evLoad3_eq (P := PP) ga9, evLoadA3_eq (P := PP) ga153 gs153, evLoadA3_eq (P := PP) ga166 gs166, evStore3_eq (P := PP) gs9, evStoreA3_eq (P := PP) gs153, evStoreA3_eq (P := PP) gs166, insB_eq, qS_add_eq (P := PP) nf9, q_add_eq (P := PP) nf3, q_gtr_eq (P := PP) nf3, q_lss_eq (P := PP) nf3]; kernel_rfl
theorem fsh_balerref19_Of (lf d : Nat) (a0 a1 : Value) : inside (F_balerref19_Of lf d (evC lf d) a0 a1) = evC lf (d + 1) 114 #[a0, a1] := by
  unfold F_balerref19_Of; (try simp only [KQA_balerref19_Of lf d, LQA_balerref19_Of, az153, bz153, clash3_eq, evStoreA3_eq (P := PP) gs153, insB_eq]); kernel_rfl

noncomputable def F_balerref20_Write (lf d : Nat) (rec : RT) (a0 a1 : Value) : M Value :=
 (inside (rec 162 #[a0])).bind fun v7n1 =>
 insB (evAllocZ 196 [Value.string ⟨⟨[]⟩⟩, Value.int .i64 0]) fun v5n2 =>
 insB (evStoreA3 PP 196 2 v5n2 v7n1) fun u3 =>
 optK (evFA3 PP 196 0 v5n2 0) fun v8n4 =>
 insB (evLoad3 PP 9 v8n4) fun v9n5 =>
 optK (evFA3 PP 196 1 v5n2 1) fun v10n6 =>
 insB (evLoad3 PP 3 v10n6) fun v11n7 =>
 insB (evBuildZ PP 200 [Value.string ⟨⟨[]⟩⟩, Value.int .i64 0, Value.int .u32 0] [(0, v9n5), (1, v11n7), (2, a1)]) fun v13n8 =>
 (inside (rec 163 #[v13n8])).bind fun v14n9 =>
 outK [v14n9]
theorem fsh_balerref20_Write (lf d : Nat) (a0 a1 : Value) : inside (F_balerref20_Write lf d (evC lf d) a0 a1) = evC lf (d + 1) 115 #[a0, a1] := by
  unfold F_balerref20_Write; (try simp only [az196, bz200, clash3_eq, evFA3_eq (P := PP) gf196f0, evFA3_eq (P := PP) gf196f1, evLoad3_eq (P := PP) ga3, evLoad3_eq (P := PP) ga9, evStoreA3_eq (P := PP) gs196, insB_eq]); kernel_rfl

noncomputable def F_balerref19_Block_Sum (lf d : Nat) (rec : RT) (a0 : Value) : M Value :=
 insB (evBox3 PP 153 a0) fun v1n1 =>
 optK (evFA3 PP 153 1 v1n1 1) fun v3n2 =>
 insB (evLoad3 PP 9 v3n2) fun v4n3 =>
 (inside (rec 164 #[v4n3])).bind fun v5n4 =>
 outK [v5n4]
theorem fsh_balerref19_Block_Sum (lf d : Nat) (a0 : Value) : inside (F_balerref19_Block_Sum lf d (evC lf d) a0) = evC lf (d + 1) 116 #[a0] := by
  unfold F_balerref19_Block_Sum; (try simp only [clash3_eq, evBox3_eq, evFA3_eq (P := PP) gf153f1, evLoad3_eq (P := PP) ga9, insB_eq]); kernel_rfl

noncomputable def F_balerref01_Pack (lf d : Nat) (rec : RT) (a0 : Value) : M Value :=
 (inside (rec 166 #[a0])).bind fun v4n1 =>
 (inside (rec 165 #[v4n1])).bind fun v5n2 =>
 outK [v5n2]
theorem fsh_balerref01_Pack (lf d : Nat) (a0 : Value) : inside (F_balerref01_Pack lf d (evC lf d) a0) = evC lf (d + 1) 117 #[a0] := by
  unfold F_balerref01_Pack; (try simp only [clash3_eq, insB_eq]); kernel_rfl

noncomputable def F_balerref21_Tail (lf d : Nat) (rec : RT) (a0 : Value) : M Value :=
 (inside (rec 168 #[a0])).bind fun v4n1 =>
 (inside (rec 167 #[v4n1, (Value.int .i64 32)])).bind fun v5n2 =>
 optK (qS_add PP 9 (Value.string { data := #[48, 48, 48, 49, 48, 49, 49, 49, 48, 49, 49, 49, 48, 48, 49, 48, 48, 49, 48, 48, 48, 49, 48, 49, 48, 48, 49, 49, 49, 48, 48, 48, 48, 49, 48, 49, 48, 48, 48, 48, 49, 48, 48, 49, 48, 48, 48, 48] }) v5n2) fun v6n3 =>
 outK [v6n3]
theorem fsh_balerref21_Tail (lf d : Nat) (a0 : Value) : inside (F_balerref21_Tail lf d (evC lf d) a0) = evC lf (d + 1) 118 #[a0] := by
  unfold F_balerref21_Tail; (try simp only [clash3_eq, insB_eq, qS_add_eq (P := PP) nf9]); kernel_rfl

noncomputable def F_crc_New (lf d : Nat) (rec : RT) : M Value :=
 (inside (rec 169 #[])).bind fun v1n1 =>
 insB (evBuildZ PP 207 (appV (repV (Value.int .u32 0) 256) [Value.int .u32 0]) [(0, v1n1), (1, (Value.int .u32 4294967295))]) fun v2n2 =>
 insB (evBox3 PP 207 v2n2) fun v3n3 =>
 outK [v3n3]
theorem fsh_crc_New (lf d : Nat) : inside (F_crc_New lf d (evC lf d)) = evC lf (d + 1) 119 #[] := by
  unfold F_crc_New; (try simp only [bz207, clash3_eq, evBox3_eq, insB_eq]); kernel_rfl

noncomputable def F_feed_NewPacker (lf d : Nat) (rec : RT) : M Value :=
 insB (evBuildZ PP 209 [Value.int .u8 0, Value.int .i64 0] []) fun v1n1 =>
 insB (evBox3 PP 209 v1n1) fun v2n2 =>
 outK [v2n2]
theorem fsh_feed_NewPacker (lf d : Nat) : inside (F_feed_NewPacker lf d (evC lf d)) = evC lf (d + 1) 120 #[] := by
  unfold F_feed_NewPacker; (try simp only [bz209, clash3_eq, evBox3_eq, insB_eq]); kernel_rfl

noncomputable def F_feed_Packer_Row (lf d : Nat) (rec : RT) (a0 : Value) : M Value :=
 insB (evAllocZ 166 [Value.int .u8 0, Value.int .i64 0]) fun v2n1 =>
 optK (qP_eql PP 161 a0 (Value.pointer none)) fun v4n2 =>
 ifV v4n2 (
 insB (evBuildZ PP 166 [Value.int .u8 0, Value.int .i64 0] []) fun v5n3 =>
 insB (evStoreA3 PP 166 2 v2n1 v5n3) fun u4 =>
 (evLoad PP 166 v2n1).bind fun vrn5 =>
 outK [vrn5]) (
 optK (nil2 a0) fun v7n6 =>
 optK (evFA3 PP 209 0 v7n6 0) fun v8n7 =>
 insB (evLoadA3 PP 166 2 v8n7) fun v9n8 =>
 insB (evStoreA3 PP 166 2 v2n1 v9n8) fun u9 =>
 (evLoad PP 166 v2n1).bind fun vrn10 =>
 outK [vrn10])
theorem fsh_feed_Packer_Row (lf d : Nat) (a0 : Value) : inside (F_feed_Packer_Row lf d (evC lf d) a0) = evC lf (d + 1) 121 #[a0] := by
  unfold F_feed_Packer_Row; (try simp only [az166, bz166, clash3_eq, evFA3_eq (P := PP) gf209f0, evLoadA3_eq (P := PP) ga166 gs166, evStoreA3_eq (P := PP) gs166, insB_eq, qP_eql_eq (P := PP) Tryz.underlying161]); kernel_rfl

noncomputable def F_split_Splitter_End (lf d : Nat) (rec : RT) (a0 : Value) : M Value :=
 optK (qP_eql PP 101 a0 (Value.pointer none)) fun v11n1 =>
 ifV v11n1 (
 outK [(Value.slice none 0 0)]) (
 optK (nil2 a0) fun v13n2 =>
 optK (evFA3 PP 164 4 v13n2 2) fun v14n3 =>
 insB (evLoad3 PP 161 v14n3) fun v15n4 =>
 (inside (rec 121 #[v15n4])).bind fun v16n5 =>
 insB (evAllocZ 166 [Value.int .u8 0, Value.int .i64 0]) fun v4n6 =>
 insB (evStoreA3 PP 166 2 v4n6 v16n5) fun u7 =>
 optK (nil2 a0) fun v18n8 =>
 optK (evFA3 PP 164 4 v18n8 2) fun v19n9 =>
 insB (evLoad3 PP 161 v19n9) fun v20n10 =>
 (inside (rec 170 #[v20n10])).bind fun v21n11 =>
 optK (qS_neq PP 9 v21n11 (Value.string { data := #[] })) fun v23n12 =>
 ifV v23n12 (
 insB (evLoadA3 PP 166 2 v4n6) fun v26n13 =>
 optK (len2 PP #[9] [v21n11]) fun v28n14 =>
 (inside (rec 171 #[a0, v26n13, v28n14])).bind fun v29n15 =>
 optK (evExtract v29n15 0) fun v30n16 =>
 optK (evExtract v29n15 1) fun v31n17 =>
 insB (evAllocZ 111 [Value.string ⟨⟨[]⟩⟩, Value.int .u32 0, Value.int .i64 0]) fun v6n18 =>
 insB (evStoreA3 PP 111 3 v6n18 v30n16) fun u19 =>
 ifV v31n17 (
 insB (evLoadA3 PP 111 3 v6n18) fun v34n20 =>
 insB (evBS3 PP 106 1 [(0, v34n20)]) fun v35n21 =>
 insB (evAppend3 PP 106 (Value.slice none 0 0) v35n21) fun v36n22 =>
 optK (nil2 a0) fun v39n23 =>
 optK (evFA3 PP 164 0 v39n23 0) fun v40n24 =>
 (inside (rec 172 #[v40n24])).bind fun v41n25 =>
 optK (evExtract v41n25 0) fun v42n26 =>
 optK (evExtract v41n25 1) fun v43n27 =>
 insB (evAllocZ 111 [Value.string ⟨⟨[]⟩⟩, Value.int .u32 0, Value.int .i64 0]) fun v8n28 =>
 insB (evStoreA3 PP 111 3 v8n28 v42n26) fun u29 =>
 ifV v43n27 (
 insB (evLoadA3 PP 111 3 v8n28) fun v46n30 =>
 insB (evBS3 PP 106 1 [(0, v46n30)]) fun v47n31 =>
 insB (evAppend3 PP 106 v36n22 v47n31) fun v48n32 =>
 outK [v48n32]) (
 outK [v36n22])) (
 optK (nil2 a0) fun v39n33 =>
 optK (evFA3 PP 164 0 v39n33 0) fun v40n34 =>
 (inside (rec 172 #[v40n34])).bind fun v41n35 =>
 optK (evExtract v41n35 0) fun v42n36 =>
 optK (evExtract v41n35 1) fun v43n37 =>
 insB (evAllocZ 111 [Value.string ⟨⟨[]⟩⟩, Value.int .u32 0, Value.int .i64 0]) fun v8n38 =>
 insB (evStoreA3 PP 111 3 v8n38 v42n36) fun u39 =>
 ifV v43n37 (
 insB (evLoadA3 PP 111 3 v8n38) fun v46n40 =>
 insB (evBS3 PP 106 1 [(0, v46n40)]) fun v47n41 =>
 insB (evAppend3 PP 106 (Value.slice none 0 0) v47n41) fun v48n42 =>
 outK [v48n42]) (
 outK [(Value.slice none 0 0)]))) (
 optK (nil2 a0) fun v39n43 =>
 optK (evFA3 PP 164 0 v39n43 0) fun v40n44 =>
 (inside (rec 172 #[v40n44])).bind fun v41n45 =>
 optK (evExtract v41n45 0) fun v42n46 =>
 optK (evExtract v41n45 1) fun v43n47 =>
 insB (evAllocZ 111 [Value.string ⟨⟨[]⟩⟩, Value.int .u32 0, Value.int .i64 0]) fun v8n48 =>
 insB (evStoreA3 PP 111 3 v8n48 v42n46) fun u49 =>
 ifV v43n47 (
 insB (evLoadA3 PP 111 3 v8n48) fun v46n50 =>
 insB (evBS3 PP 106 1 [(0, v46n50)]) fun v47n51 =>
 insB (evAppend3 PP 106 (Value.slice none 0 0) v47n51) fun v48n52 =>
 outK [v48n52]) (
 outK [(Value.slice none 0 0)])))
theorem fsh_split_Splitter_End (lf d : Nat) (a0 : Value) : inside (F_split_Splitter_End lf d (evC lf d) a0) = evC lf (d + 1) 123 #[a0] := by
  unfold F_split_Splitter_End; (try simp only [az111, az166, clash3_eq, evAppend3_eq, evBS3_eq, evFA3_eq (P := PP) gf164f0, evFA3_eq (P := PP) gf164f2, evLoad3_eq (P := PP) ga161, evLoadA3_eq (P := PP) ga111 gs111, evLoadA3_eq (P := PP) ga166 gs166, evStoreA3_eq (P := PP) gs111, evStoreA3_eq (P := PP) gs166, insB_eq, qP_eql_eq (P := PP) Tryz.underlying101, qS_neq_eq (P := PP) nf9]); kernel_rfl

noncomputable def F_press_Press_pay (lf d : Nat) (rec : RT) (a0 : Value) : M Value :=
 optK (nil2 a0) fun v5n1 =>
 optK (evFA3 PP 109 7 v5n1 7) fun v6n2 =>
 insB (evLoad3 PP 3 v6n2) fun v7n3 =>
 optK (q_add PP 3 v7n3 (Value.int .i64 1)) fun v8n4 =>
 optK (nil2 a0) fun v9n5 =>
 optK (evFA3 PP 109 7 v9n5 7) fun v10n6 =>
 insB (evStore3 PP 3 v10n6 v8n4) fun u7 =>
 optK (nil2 a0) fun v12n8 =>
 optK (evFA3 PP 109 7 v12n8 7) fun v13n9 =>
 insB (evLoad3 PP 3 v13n9) fun v14n10 =>
 optK (nil2 a0) fun v16n11 =>
 optK (evFA3 PP 109 5 v16n11 5) fun v17n12 =>
 insB (evLoad3 PP 106 v17n12) fun v18n13 =>
 optK (evIA3 PP 106 3 v18n13 (Value.int .i64 0)) fun v19n14 =>
 optK (evFA3 PP 111 0 v19n14 0) fun v20n15 =>
 insB (evLoad3 PP 9 v20n15) fun v21n16 =>
 optK (len2 PP #[9] [v21n16]) fun v22n17 =>
 optK (q_lss PP 3 v14n10 v22n17) fun v23n18 =>
 ifV v23n18 (
 outK []) (
 optK (nil2 a0) fun v26n19 =>
 optK (evFA3 PP 109 6 v26n19 6) fun v27n20 =>
 insB (evLoad3 PP 107 v27n20) fun v28n21 =>
 (inside (rec 105 #[v28n21])).bind fun v29n22 =>
 optK (evExtract v29n22 0) fun v30n23 =>
 optK (evExtract v29n22 1) fun v31n24 =>
 optK (nil2 a0) fun v33n25 =>
 optK (evFA3 PP 109 8 v33n25 8) fun v34n26 =>
 insB (evLoad3 PP 39 v34n26) fun v35n27 =>
 optK (nil2 a0) fun v39n28 =>
 optK (evFA3 PP 109 5 v39n28 5) fun v40n29 =>
 insB (evLoad3 PP 106 v40n29) fun v41n30 =>
 optK (evIA3 PP 106 3 v41n30 (Value.int .i64 0)) fun v42n31 =>
 optK (evFA3 PP 111 1 v42n31 1) fun v43n32 =>
 insB (evLoad3 PP 38 v43n32) fun v44n33 =>
 (inside (rec 19 #[v35n27, v30n23, v31n24, v44n33])).bind fun v45n34 =>
 optK (nil2 a0) fun v47n35 =>
 optK (evFA3 PP 109 9 v47n35 9) fun v48n36 =>
 (timed (
 insB (evLoad3 PP 9 v48n36) fun v49n38 => M.ret v49n38)).bind fun vtn37 =>
 optK (nil2 a0) fun v51n39 =>
 optK (evFA3 PP 109 8 v51n39 8) fun v52n40 =>
 (timed (
 insB (evLoad3 PP 39 v52n40) fun v53n42 => M.ret v53n42)).bind fun vtn41 =>
 (timed (
 (inside (rec 21 #[vtn41.1])).bind fun v54n44 => M.ret v54n44)).bind fun vtn43 =>
 optK (qS_add PP 9 vtn37.1 vtn43.1) fun v55n45 =>
 optK (nil2 a0) fun v56n46 =>
 optK (evFA3 PP 109 9 v56n46 9) fun v57n47 =>
 (timed (
 insB (evStore3 PP 9 v57n47 v55n45) fun u49 => M.ret u49)).bind fun vtn48 =>
 chkT ((!(clash3 vtn37.2 vtn43.2) && true) && true) (
 optK (nil2 a0) fun v60n50 =>
 optK (evFA3 PP 109 5 v60n50 5) fun v61n51 =>
 insB (evLoad3 PP 106 v61n51) fun v62n52 =>
 slice2 PP 106 v62n52 (some (Value.int .i64 1)) none none fun v63n53 =>
 optK (nil2 a0) fun v64n54 =>
 optK (evFA3 PP 109 5 v64n54 5) fun v65n55 =>
 insB (evStore3 PP 106 v65n55 v63n53) fun u56 =>
 optK (nil2 a0) fun v67n57 =>
 optK (evFA3 PP 109 6 v67n57 6) fun v68n58 =>
 insB (evStore3 PP 107 v68n58 (Value.pointer none)) fun u59 =>
 optK (nil2 a0) fun v70n60 =>
 optK (evFA3 PP 109 7 v70n60 7) fun v71n61 =>
 insB (evStore3 PP 3 v71n61 (Value.int .i64 0)) fun u62 =>
 outK []))
theorem fsh_press_Press_pay (lf d : Nat) (a0 : Value) : inside (F_press_Press_pay lf d (evC lf d) a0) = evC lf (d + 1) 124 #[a0] := by
  unfold F_press_Press_pay; (try simp only [clash3_eq, evFA3_eq (P := PP) gf109f5, evFA3_eq (P := PP) gf109f6, evFA3_eq (P := PP) gf109f7, evFA3_eq (P := PP) gf109f8, evFA3_eq (P := PP) gf109f9, evFA3_eq (P := PP) gf111f0, evFA3_eq (P := PP) gf111f1, evIA3_eq (P := PP) Tryz.underlying106 gs111, evLoad3_eq (P := PP) ga106, evLoad3_eq (P := PP) ga107, evLoad3_eq (P := PP) ga3, evLoad3_eq (P := PP) ga38, evLoad3_eq (P := PP) ga39, evLoad3_eq (P := PP) ga9, evStore3_eq (P := PP) gs106, evStore3_eq (P := PP) gs107, evStore3_eq (P := PP) gs3, evStore3_eq (P := PP) gs9, insB_eq, qS_add_eq (P := PP) nf9, q_add_eq (P := PP) nf3, q_lss_eq (P := PP) nf3]); kernel_rfl

noncomputable def F_press_Press_take (lf d : Nat) (rec : RT) (a0 : Value) : M Value :=
 optK (nil2 a0) fun v6n1 =>
 optK (evFA3 PP 109 3 v6n1 3) fun v7n2 =>
 (timed (
 insB (evLoad3 PP 101 v7n2) fun v8n4 => M.ret v8n4)).bind fun vtn3 =>
 optK (nil2 a0) fun v10n5 =>
 optK (evFA3 PP 109 1 v10n5 1) fun v11n6 =>
 (timed (
 insB (evLoad3 PP 9 v11n6) fun v12n8 => M.ret v12n8)).bind fun vtn7 =>
 optK (index3 PP 9 vtn7.1 (Value.int .i64 0)) fun v13n9 =>
 (timed (
 (inside (rec 173 #[vtn3.1, v13n9])).bind fun v14n11 => M.ret v14n11)).bind fun vtn10 =>
 optK (evExtract vtn10.1 0) fun v15n12 =>
 optK (evExtract vtn10.1 1) fun v16n13 =>
 (timed (
 insB (evAllocZ 111 [Value.string ⟨⟨[]⟩⟩, Value.int .u32 0, Value.int .i64 0]) fun v2n15 => M.ret v2n15)).bind fun vtn14 =>
 (timed (
 insB (evStoreA3 PP 111 3 vtn14.1 v15n12) fun u17 => M.ret u17)).bind fun vtn16 =>
 chkT ((!(clash3 vtn10.2 vtn14.2) && true) && true) (
 optK (nil2 a0) fun v19n18 =>
 optK (evFA3 PP 109 1 v19n18 1) fun v20n19 =>
 insB (evLoad3 PP 9 v20n19) fun v21n20 =>
 slice3 PP 9 v21n20 (some (Value.int .i64 1)) none none fun v22n21 =>
 optK (nil2 a0) fun v23n22 =>
 optK (evFA3 PP 109 1 v23n22 1) fun v24n23 =>
 insB (evStore3 PP 9 v24n23 v22n21) fun u24 =>
 ifV v16n13 (
 optK (nil2 a0) fun v28n25 =>
 optK (evFA3 PP 109 5 v28n25 5) fun v29n26 =>
 insB (evLoad3 PP 106 v29n26) fun v30n27 =>
 insB (evLoadA3 PP 111 3 vtn14.1) fun v31n28 =>
 insB (evBS3 PP 106 1 [(0, v31n28)]) fun v32n29 =>
 insB (evAppend3 PP 106 v30n27 v32n29) fun v33n30 =>
 optK (nil2 a0) fun v34n31 =>
 optK (evFA3 PP 109 5 v34n31 5) fun v35n32 =>
 insB (evStore3 PP 106 v35n32 v33n30) fun u33 =>
 (inside (rec 77 #[a0])).bind fun v37n34 =>
 outK []) (
 (inside (rec 77 #[a0])).bind fun v37n35 =>
 outK []))
theorem fsh_press_Press_take (lf d : Nat) (a0 : Value) : inside (F_press_Press_take lf d (evC lf d) a0) = evC lf (d + 1) 125 #[a0] := by
  unfold F_press_Press_take; (try simp only [az111, clash3_eq, evAppend3_eq, evBS3_eq, evFA3_eq (P := PP) gf109f1, evFA3_eq (P := PP) gf109f3, evFA3_eq (P := PP) gf109f5, evLoad3_eq (P := PP) ga101, evLoad3_eq (P := PP) ga106, evLoad3_eq (P := PP) ga9, evLoadA3_eq (P := PP) ga111 gs111, evStore3_eq (P := PP) gs106, evStore3_eq (P := PP) gs9, evStoreA3_eq (P := PP) gs111, index3_eq (P := PP) Tryz.underlying9, insB_eq, slice3_eq (P := PP) Tryz.underlying9]); kernel_rfl

noncomputable def lpA_freq_Counts (lf d fu : Nat) (k : KT) (x0 x1 x4 x5 x6 x14 x17 x18 x19 : Value) : M Value := loopK (fun s1 k1 => codeK PP (evC lf d) (gtA 130) lf (codeAt (bodyOf PP 130) [true, true, true, false, true, false, false]) s1 k1) [0, 1, 4, 5, 6, 14, 17, 18, 19] fu [(0, x0), (1, x1), (4, x4), (5, x5), (6, x6), (14, x14), (17, x17), (18, x18), (19, x19)] k
noncomputable def kcA_freq_Counts (lf d : Nat) : KT := contAt PP (evC lf d) (gtA 130) lf (bodyOf PP 130) [true, true, true, false, true, false] (endK PP (resOf PP 130))
noncomputable def LA_freq_Counts (lf d : Nat) (rec : RT) (k : KT) : Nat → Value → Value → Value → Value → Value → Value → Value → Value → Value → M Value
 | 0, _, _, _, _, _, _, _, _, _ => M.fail
 | fu + 1, x0, x1, x4, x5, x6, x14, x17, x18, x19 =>
 optK (q_lss PP 3 x19 x18) fun v20n5 =>
 ifV v20n5 (
 optK (evIA3 PP 22 1 x17 x19) fun v21n6 =>
 insB (evLoad3 PP 3 v21n6) fun v22n7 =>
 optK (q_lss PP 3 v22n7 (Value.int .i64 0)) fun v24n8 =>
 ifV v24n8 (
 k Ex.ret [(0, x0), (1, x1), (4, (Value.slice none 0 0)), (5, (Value.int .i64 1)), (6, x6), (8, v22n7), (14, x14), (17, x17), (18, x18), (19, x19), (20, v20n5), (29, (Value.bool true))]) (
 optK (q_geq PP 3 v22n7 x1) fun v28n9 =>
 ifV v28n9 (
 k Ex.ret [(0, x0), (1, x1), (4, (Value.slice none 0 0)), (5, (Value.int .i64 1)), (6, x6), (8, v22n7), (14, x14), (17, x17), (18, x18), (19, x19), (20, v20n5), (29, v28n9)]) (
 optK (evIA3 PP 22 1 x6 v22n7) fun v32n10 =>
 insB (evLoad3 PP 3 v32n10) fun v33n11 =>
 optK (q_add PP 3 v33n11 (Value.int .i64 1)) fun v34n12 =>
 optK (evIA3 PP 22 1 x6 v22n7) fun v35n13 =>
 insB (evStore3 PP 3 v35n13 v34n12) fun u14 =>
 optK (q_add PP 3 x19 (Value.int .i64 1)) fun v36n15 =>
 LA_freq_Counts lf d rec k fu x0 x1 x4 x5 x6 x14 x17 x18 v36n15))) (
 k (Ex.exit 0) [(0, x0), (1, x1), (4, x4), (5, x5), (6, x6), (14, x14), (17, x17), (18, x18), (19, x19), (20, v20n5)])
noncomputable def KA_freq_Counts (lf d : Nat) (rec : RT) (dflt : KT) : KT := (kEx 0 (runCur [0, 1, 4, 5, 6, 14, 17, 18, 19, 20] (fun y0 y1 y4 y5 y6 y14 y17 y18 y19 y20 =>
 outK [y6, (Value.int .i64 0)]) (dflt (Ex.exit 0))) (kRt (runCur [0, 1, 4, 5, 6, 8, 14, 17, 18, 19, 20, 29] (fun y0 y1 y4 y5 y6 y8 y14 y17 y18 y19 y20 y29 =>
 outK [y4, y5]) (dflt Ex.ret)) dflt))
noncomputable def F_freq_Counts (lf d : Nat) (rec : RT) (a0 a1 : Value) : M Value :=
 optK (q_lss PP 3 a1 (Value.int .i64 3)) fun v10n1 =>
 ifV v10n1 (
 outK [(Value.slice none 0 0), (Value.int .i64 1)]) (
 optK (q_gtr PP 3 a1 (Value.int .i64 258)) fun v13n2 =>
 ifV v13n2 (
 outK [(Value.slice none 0 0), (Value.int .i64 1)]) (
 insB (evMake3 PP 22 a1 a1) fun v16n3 =>
 optK (len2 PP #[22] [a0]) fun v18n4 =>
 LA_freq_Counts lf d rec (KA_freq_Counts lf d rec (kcA_freq_Counts lf d)) lf a0 a1 (Value.slice none 0 0) (Value.int .i64 0) v16n3 v13n2 a0 v18n4 (Value.int .i64 0)))
theorem LQA_freq_Counts (lf d : Nat) (k : KT) : ∀ fu : Nat, LA_freq_Counts lf d (evC lf d) k fu = lpA_freq_Counts lf d fu k
  | 0 => by funext x0 x1 x4 x5 x6 x14 x17 x18 x19; kernel_rfl
  | fu + 1 => by
    have ih := LQA_freq_Counts lf d k fu
    funext x0 x1 x4 x5 x6 x14 x17 x18 x19; simp only [LA_freq_Counts, ih, clash3_eq, evIA3_eq (P := PP) Tryz.underlying22 gs3, evLoad3_eq (P := PP) ga3, evStore3_eq (P := PP) gs3, insB_eq, q_add_eq (P := PP) nf3, q_geq_eq (P := PP) nf3, q_lss_eq (P := PP) nf3]; kernel_rfl
set_option maxRecDepth 20000 in
theorem KQA_freq_Counts (lf d : Nat) : KA_freq_Counts lf d (evC lf d) (kcA_freq_Counts lf d) = kcA_freq_Counts lf d := by
  unfold KA_freq_Counts
  refine Eq.trans (kEx_eq ?_) ?_
  · exact (runCur_eq _ _ _ (by intro y0 y1 y4 y5 y6 y14 y17 y18 y19 y20; show _ = _; (try simp only [clash3_eq, insB_eq]); kernel_rfl))
  refine Eq.trans (kRt_eq ?_) ?_
  · exact (runCur_eq _ _ _ (by intro y0 y1 y4 y5 y6 y8 y14 y17 y18 y19 y20 y29; show _ = _; (try simp only [clash3_eq, insB_eq]); kernel_rfl))
  rfl
theorem fsh_freq_Counts (lf d : Nat) (a0 a1 : Value) : inside (F_freq_Counts lf d (evC lf d) a0 a1) = evC lf (d + 1) 130 #[a0, a1] := by
  unfold F_freq_Counts; (try simp only [KQA_freq_Counts lf d, LQA_freq_Counts, clash3_eq, evMake3_eq, insB_eq, q_gtr_eq (P := PP) nf3, q_lss_eq (P := PP) nf3]); kernel_rfl

noncomputable def F_freq_Groups (lf d : Nat) (rec : RT) (a0 : Value) : M Value :=
 optK (q_leq PP 3 a0 (Value.int .i64 0)) fun v4n1 =>
 ifV v4n1 (
 outK [(Value.int .i64 0)]) (
 optK (q_sub PP 3 a0 (Value.int .i64 1)) fun v6n2 =>
 optK (q_quo PP 3 v6n2 (Value.int .i64 50)) fun v7n3 =>
 optK (q_add PP 3 v7n3 (Value.int .i64 1)) fun v8n4 =>
 outK [v8n4])
theorem fsh_freq_Groups (lf d : Nat) (a0 : Value) : inside (F_freq_Groups lf d (evC lf d) a0) = evC lf (d + 1) 131 #[a0] := by
  unfold F_freq_Groups; (try simp only [clash3_eq, insB_eq, q_add_eq (P := PP) nf3, q_leq_eq (P := PP) nf3, q_quo_eq (P := PP) nf3, q_sub_eq (P := PP) nf3]); kernel_rfl

noncomputable def lpA_tables_groupsOf (lf d fu : Nat) (k : KT) (x0 x2 x3 x9 x10 : Value) : M Value := loopK (fun s1 k1 => codeK PP (evC lf d) (gtA 132) lf (codeAt (bodyOf PP 132) [true, true, false, true, false, false]) s1 k1) [0, 2, 3, 9, 10] fu [(0, x0), (2, x2), (3, x3), (9, x9), (10, x10)] k
noncomputable def kcA_tables_groupsOf (lf d : Nat) : KT := contAt PP (evC lf d) (gtA 132) lf (bodyOf PP 132) [true, true, false, true, false] (endK PP (resOf PP 132))
noncomputable def LA_tables_groupsOf (lf d : Nat) (rec : RT) (k : KT) : Nat → Value → Value → Value → Value → Value → M Value
 | 0, _, _, _, _, _ => M.fail
 | fu + 1, x0, x2, x3, x9, x10 =>
 optK (q_lss PP 3 x10 x9) fun v11n3 =>
 ifV v11n3 (
 (inside (rec 144 #[x0, x10])).bind fun v16n4 =>
 optK (evExtract v16n4 0) fun v17n5 =>
 optK (evExtract v16n4 1) fun v18n6 =>
 insB (evBS3 PP 72 1 [(0, v17n5)]) fun v21n7 =>
 insB (evAppend3 PP 72 x3 v21n7) fun v22n8 =>
 optK (q_add PP 3 x10 (Value.int .i64 1)) fun v23n9 =>
 LA_tables_groupsOf lf d rec k fu x0 x2 v22n8 x9 v23n9) (
 k (Ex.exit 0) [(0, x0), (2, x2), (3, x3), (9, x9), (10, x10), (11, v11n3)])
noncomputable def KA_tables_groupsOf (lf d : Nat) (rec : RT) (dflt : KT) : KT := (kEx 0 (runCur [0, 2, 3, 9, 10, 11] (fun y0 y2 y3 y9 y10 y11 =>
 outK [y3]) (dflt (Ex.exit 0))) dflt)
noncomputable def F_tables_groupsOf (lf d : Nat) (rec : RT) (a0 : Value) : M Value :=
 optK (len2 PP #[22] [a0]) fun v8n1 =>
 (inside (rec 131 #[v8n1])).bind fun v9n2 =>
 LA_tables_groupsOf lf d rec (KA_tables_groupsOf lf d rec (kcA_tables_groupsOf lf d)) lf a0 (Value.slice none 0 0) (Value.slice none 0 0) v9n2 (Value.int .i64 0)
theorem LQA_tables_groupsOf (lf d : Nat) (k : KT) : ∀ fu : Nat, LA_tables_groupsOf lf d (evC lf d) k fu = lpA_tables_groupsOf lf d fu k
  | 0 => by funext x0 x2 x3 x9 x10; kernel_rfl
  | fu + 1 => by
    have ih := LQA_tables_groupsOf lf d k fu
    funext x0 x2 x3 x9 x10; simp only [LA_tables_groupsOf, ih, clash3_eq, evAppend3_eq, evBS3_eq, insB_eq, q_add_eq (P := PP) nf3, q_lss_eq (P := PP) nf3]; kernel_rfl
set_option maxRecDepth 20000 in
theorem KQA_tables_groupsOf (lf d : Nat) : KA_tables_groupsOf lf d (evC lf d) (kcA_tables_groupsOf lf d) = kcA_tables_groupsOf lf d := by
  unfold KA_tables_groupsOf
  refine Eq.trans (kEx_eq ?_) ?_
  · exact (runCur_eq _ _ _ (by intro y0 y2 y3 y9 y10 y11; show _ = _; (try simp only [clash3_eq, insB_eq]); kernel_rfl))
  rfl
theorem fsh_tables_groupsOf (lf d : Nat) (a0 : Value) : inside (F_tables_groupsOf lf d (evC lf d) a0) = evC lf (d + 1) 132 #[a0] := by
  unfold F_tables_groupsOf; (try simp only [KQA_tables_groupsOf lf d, LQA_tables_groupsOf, clash3_eq, insB_eq]); kernel_rfl

noncomputable def lpA_tables_first (lf d fu : Nat) (k : KT) (x0 x1 x4 x5 x6 x18 x19 : Value) : M Value := loopK (fun s1 k1 => codeK PP (evC lf d) (gtA 133) lf (codeAt (bodyOf PP 133) [true, true, true, false, true, false, false]) s1 k1) [0, 1, 4, 5, 6, 18, 19] fu [(0, x0), (1, x1), (4, x4), (5, x5), (6, x6), (18, x18), (19, x19)] k
noncomputable def kcA_tables_first (lf d : Nat) : KT := contAt PP (evC lf d) (gtA 133) lf (bodyOf PP 133) [true, true, true, false, true, false] (endK PP (resOf PP 133))
noncomputable def lpB_tables_first (lf d fu : Nat) (k : KT) (x0 x1 x4 x5 x6 x8 x18 x19 x20 x29 x30 x31 : Value) : M Value := loopK (fun s1 k1 => codeK PP (evC lf d) (gtA 133) lf (codeAt (bodyOf PP 133) [true, true, true, true, true, false, true, false, false]) s1 k1) [0, 1, 4, 5, 6, 8, 18, 19, 20, 29, 30, 31] fu [(0, x0), (1, x1), (4, x4), (5, x5), (6, x6), (8, x8), (18, x18), (19, x19), (20, x20), (29, x29), (30, x30), (31, x31)] k
noncomputable def kcB_tables_first (lf d : Nat) : KT := contAt PP (evC lf d) (gtA 133) lf (bodyOf PP 133) [true, true, true, true, true, false, true, false] (endK PP (resOf PP 133))
noncomputable def lpC_tables_first (lf d fu : Nat) (k : KT) (x0 x1 x4 x5 x6 x8 x9 x10 x11 x18 x19 x20 x29 x30 x31 x32 x42 x43 : Value) : M Value := loopK (fun s1 k1 => codeK PP (evC lf d) (gtA 133) lf (codeAt (bodyOf PP 133) [true, true, true, true, true, false, true, false, false, true, true, false, false, true, true, false, true, false, false]) s1 k1) [0, 1, 4, 5, 6, 8, 9, 10, 11, 18, 19, 20, 29, 30, 31, 32, 42, 43] fu [(0, x0), (1, x1), (4, x4), (5, x5), (6, x6), (8, x8), (9, x9), (10, x10), (11, x11), (18, x18), (19, x19), (20, x20), (29, x29), (30, x30), (31, x31), (32, x32), (42, x42), (43, x43)] k
noncomputable def kcC_tables_first (lf d fu : Nat) (k : KT) : KT := contAt PP (evC lf d) (gtA 133) lf (codeAt (bodyOf PP 133) [true, true, true, true, true, false, true, false, false]) [true, true, false, false, true, true, false, true, false] (againK (fun s1 => loopK (fun s1 k1 => codeK PP (evC lf d) (gtA 133) lf (codeAt (bodyOf PP 133) [true, true, true, true, true, false, true, false, false]) s1 k1) [0, 1, 4, 5, 6, 8, 18, 19, 20, 29, 30, 31] fu (s1.keep [0, 1, 4, 5, 6, 8, 18, 19, 20, 29, 30, 31]) k) k)
noncomputable def LA_tables_first (lf d : Nat) (rec : RT) (k : KT) : Nat → Value → Value → Value → Value → Value → Value → Value → M Value
 | 0, _, _, _, _, _, _, _ => M.fail
 | fu + 1, x0, x1, x4, x5, x6, x18, x19 =>
 optK (q_lss PP 3 x19 x18) fun v20n4 =>
 ifV v20n4 (
 optK (len2 PP #[22] [x0]) fun v25n5 =>
 insB (evMake3 PP 22 v25n5 v25n5) fun v26n6 =>
 optK (evIA3 PP 72 1 x6 x19) fun v27n7 =>
 insB (evStore3 PP 22 v27n7 v26n6) fun u8 =>
 optK (q_add PP 3 x19 (Value.int .i64 1)) fun v28n9 =>
 LA_tables_first lf d rec k fu x0 x1 x4 x5 x6 x18 v28n9) (
 k (Ex.exit 0) [(0, x0), (1, x1), (4, x4), (5, x5), (6, x6), (18, x18), (19, x19), (20, v20n4)])
noncomputable def KB_tables_first (lf d : Nat) (rec : RT) (dflt : KT) : KT := (kEx 2 (runCur [0, 1, 4, 5, 6, 8, 18, 19, 20, 29, 30, 31, 32] (fun y0 y1 y4 y5 y6 y8 y18 y19 y20 y29 y30 y31 y32 =>
 outK [y6]) (dflt (Ex.exit 2))) dflt)
noncomputable def LC_tables_first (lf d : Nat) (rec : RT) (k : KT) : Nat → Value → Value → Value → Value → Value → Value → Value → Value → Value → Value → Value → Value → Value → Value → Value → Value → Value → Value → M Value
 | 0, _, _, _, _, _, _, _, _, _, _, _, _, _, _, _, _, _, _ => M.fail
 | fu + 1, x0, x1, x4, x5, x6, x8, x9, x10, x11, x18, x19, x20, x29, x30, x31, x32, x42, x43 =>
 optK (q_lss PP 3 x43 x42) fun v44n17 =>
 ifV v44n17 (
 optK (q_neq PP 3 x43 x11) fun v48n18 =>
 ifV v48n18 (
 optK (evIA3 PP 72 1 x6 x43) fun v51n19 =>
 insB (evLoad3 PP 22 v51n19) fun v52n20 =>
 optK (evIA3 PP 22 1 v52n20 x9) fun v54n21 =>
 insB (evStore3 PP 3 v54n21 (Value.int .i64 15)) fun u22 =>
 optK (q_add PP 3 x43 (Value.int .i64 1)) fun v55n23 =>
 LC_tables_first lf d rec k fu x0 x1 x4 x5 x6 x8 x9 x10 x11 x18 x19 x20 x29 x30 x31 x32 x42 v55n23) (
 optK (q_add PP 3 x43 (Value.int .i64 1)) fun v55n24 =>
 LC_tables_first lf d rec k fu x0 x1 x4 x5 x6 x8 x9 x10 x11 x18 x19 x20 x29 x30 x31 x32 x42 v55n24)) (
 k (Ex.exit 4) [(0, x0), (1, x1), (4, x4), (5, x5), (6, x6), (8, x8), (9, x9), (10, x10), (11, x11), (18, x18), (19, x19), (20, x20), (29, x29), (30, x30), (31, x31), (32, x32), (42, x42), (43, x43), (44, v44n17)])
noncomputable def KC_tables_first (lf d : Nat) (rec : RT) (fu : Nat) (k : KT) (again : Value → Value → Value → Value → Value → Value → Value → Value → Value → Value → Value → Value → M Value) (dflt : KT) : KT := (kEx 4 (runCur [0, 1, 4, 5, 6, 8, 9, 10, 11, 18, 19, 20, 29, 30, 31, 32, 42, 43, 44] (fun y0 y1 y4 y5 y6 y8 y9 y10 y11 y18 y19 y20 y29 y30 y31 y32 y42 y43 y44 =>
 optK (q_add PP 3 y8 y10) fun v58n25 =>
 optK (q_sub PP 3 y1 (Value.int .i64 1)) fun v60n26 =>
 optK (min2 [v58n25, v60n26]) fun v61n27 =>
 optK (q_add PP 3 y31 (Value.int .i64 1)) fun v62n28 =>
 again y0 y1 y4 y5 y6 v61n27 y18 y19 y20 y29 y30 v62n28) (dflt (Ex.exit 4))) dflt)
noncomputable def LB_tables_first (lf d : Nat) (rec : RT) (k : KT) : Nat → Value → Value → Value → Value → Value → Value → Value → Value → Value → Value → Value → Value → M Value
 | 0, _, _, _, _, _, _, _, _, _, _, _, _ => M.fail
 | fu + 1, x0, x1, x4, x5, x6, x8, x18, x19, x20, x29, x30, x31 =>
 optK (q_lss PP 3 x31 x30) fun v32n11 =>
 ifV v32n11 (
 optK (evIA3 PP 22 1 x29 x31) fun v34n12 =>
 insB (evLoad3 PP 3 v34n12) fun v35n13 =>
 optK (q_mul PP 3 x8 x5) fun v38n14 =>
 optK (q_quo PP 3 v38n14 x1) fun v40n15 =>
 optK (len2 PP #[72] [x6]) fun v42n16 =>
 LC_tables_first lf d rec (KC_tables_first lf d rec fu k (LB_tables_first lf d rec k fu) (kcC_tables_first lf d fu k)) lf x0 x1 x4 x5 x6 x8 x31 v35n13 v40n15 x18 x19 x20 x29 x30 x31 v32n11 v42n16 (Value.int .i64 0)) (
 k (Ex.exit 2) [(0, x0), (1, x1), (4, x4), (5, x5), (6, x6), (8, x8), (18, x18), (19, x19), (20, x20), (29, x29), (30, x30), (31, x31), (32, v32n11)])
noncomputable def KA_tables_first (lf d : Nat) (rec : RT) (dflt : KT) : KT := (kEx 0 (runCur [0, 1, 4, 5, 6, 18, 19, 20] (fun y0 y1 y4 y5 y6 y18 y19 y20 =>
 optK (len2 PP #[22] [y0]) fun v30n10 =>
 LB_tables_first lf d rec (KB_tables_first lf d rec (kcB_tables_first lf d)) lf y0 y1 y4 y5 y6 (Value.int .i64 0) y18 y19 y20 y0 v30n10 (Value.int .i64 0)) (dflt (Ex.exit 0))) dflt)
noncomputable def F_tables_first (lf d : Nat) (rec : RT) (a0 a1 : Value) : M Value :=
 (inside (rec 178 #[a1])).bind fun v14n1 =>
 insB (evMake3 PP 72 v14n1 v14n1) fun v16n2 =>
 optK (len2 PP #[72] [v16n2]) fun v18n3 =>
 LA_tables_first lf d rec (KA_tables_first lf d rec (kcA_tables_first lf d)) lf a0 a1 (Value.slice none 0 0) v14n1 v16n2 v18n3 (Value.int .i64 0)
theorem LQA_tables_first (lf d : Nat) (k : KT) : ∀ fu : Nat, LA_tables_first lf d (evC lf d) k fu = lpA_tables_first lf d fu k
  | 0 => by funext x0 x1 x4 x5 x6 x18 x19; kernel_rfl
  | fu + 1 => by
    have ih := LQA_tables_first lf d k fu
    funext x0 x1 x4 x5 x6 x18 x19; simp only [LA_tables_first, ih, clash3_eq, evIA3_eq (P := PP) Tryz.underlying72 gs22, evMake3_eq, evStore3_eq (P := PP) gs22, insB_eq, q_add_eq (P := PP) nf3, q_lss_eq (P := PP) nf3]; kernel_rfl
set_option maxRecDepth 20000 in
theorem KQB_tables_first (lf d : Nat) : KB_tables_first lf d (evC lf d) (kcB_tables_first lf d) = kcB_tables_first lf d := by
  unfold KB_tables_first
  refine Eq.trans (kEx_eq ?_) ?_
  · exact (runCur_eq _ _ _ (by intro y0 y1 y4 y5 y6 y8 y18 y19 y20 y29 y30 y31 y32; show _ = _; (try simp only [clash3_eq, insB_eq]); kernel_rfl))
  rfl
theorem LQC_tables_first (lf d : Nat) (k : KT) : ∀ fu : Nat, LC_tables_first lf d (evC lf d) k fu = lpC_tables_first lf d fu k
  | 0 => by funext x0 x1 x4 x5 x6 x8 x9 x10 x11 x18 x19 x20 x29 x30 x31 x32 x42 x43; kernel_rfl
  | fu + 1 => by
    have ih := LQC_tables_first lf d k fu
    funext x0 x1 x4 x5 x6 x8 x9 x10 x11 x18 x19 x20 x29 x30 x31 x32 x42 x43; simp only [LC_tables_first, ih, clash3_eq, evIA3_eq (P := PP) Tryz.underlying22 gs3, evIA3_eq (P := PP) Tryz.underlying72 gs22, evLoad3_eq (P := PP) ga22, evStore3_eq (P := PP) gs3, insB_eq, q_add_eq (P := PP) nf3, q_lss_eq (P := PP) nf3, q_neq_eq (P := PP) nf3]; kernel_rfl
set_option maxRecDepth 20000 in
theorem KQC_tables_first (lf d fu : Nat) (k : KT) (again : Value → Value → Value → Value → Value → Value → Value → Value → Value → Value → Value → Value → M Value) (ha : again = lpB_tables_first lf d fu k) : KC_tables_first lf d (evC lf d) fu k again (kcC_tables_first lf d fu k) = kcC_tables_first lf d fu k := by
  subst ha
  unfold KC_tables_first
  refine Eq.trans (kEx_eq ?_) ?_
  · exact (runCur_eq _ _ _ (by intro y0 y1 y4 y5 y6 y8 y9 y10 y11 y18 y19 y20 y29 y30 y31 y32 y42 y43 y44; show _ = _; (try simp only [clash3_eq, insB_eq, q_add_eq (P := PP) nf3, q_sub_eq (P := PP) nf3]); kernel_rfl))
  rfl
theorem LQB_tables_first (lf d : Nat) (k : KT) : ∀ fu : Nat, LB_tables_first lf d (evC lf d) k fu = lpB_tables_first lf d fu k
  | 0 => by funext x0 x1 x4 x5 x6 x8 x18 x19 x20 x29 x30 x31; kernel_rfl
  | fu + 1 => by
    have ih := LQB_tables_first lf d k fu
    funext x0 x1 x4 x5 x6 x8 x18 x19 x20 x29 x30 x31; simp only [LB_tables_first, ih, KQC_tables_first lf d fu k _ rfl, LQC_tables_first, clash3_eq, evIA3_eq (P := PP) Tryz.underlying22 gs3, evLoad3_eq (P := PP) ga3, insB_eq, q_lss_eq (P := PP) nf3, q_mul_eq (P := PP) nf3, q_quo_eq (P := PP) nf3]; kernel_rfl
set_option maxRecDepth 20000 in
theorem KQA_tables_first (lf d : Nat) : KA_tables_first lf d (evC lf d) (kcA_tables_first lf d) = kcA_tables_first lf d := by
  unfold KA_tables_first
  refine Eq.trans (kEx_eq ?_) ?_
  · exact (runCur_eq _ _ _ (by intro y0 y1 y4 y5 y6 y18 y19 y20; show _ = _; (try simp only [KQB_tables_first lf d, LQB_tables_first, clash3_eq, insB_eq]); kernel_rfl))
  rfl
theorem fsh_tables_first (lf d : Nat) (a0 a1 : Value) : inside (F_tables_first lf d (evC lf d) a0 a1) = evC lf (d + 1) 133 #[a0, a1] := by
  unfold F_tables_first; (try simp only [KQA_tables_first lf d, LQA_tables_first, clash3_eq, evMake3_eq, insB_eq]); kernel_rfl

noncomputable def lpA_tables_round (lf d fu : Nat) (k : KT) (x0 x1 x2 x6 x7 x8 x9 x27 x28 : Value) : M Value := loopK (fun s1 k1 => codeK PP (evC lf d) (gtA 134) lf (codeAt (bodyOf PP 134) [true, true, true, false, true, false, false]) s1 k1) [0, 1, 2, 6, 7, 8, 9, 27, 28] fu [(0, x0), (1, x1), (2, x2), (6, x6), (7, x7), (8, x8), (9, x9), (27, x27), (28, x28)] k
noncomputable def kcA_tables_round (lf d : Nat) : KT := contAt PP (evC lf d) (gtA 134) lf (bodyOf PP 134) [true, true, true, false, true, false] (endK PP (resOf PP 134))
noncomputable def lpB_tables_round (lf d fu : Nat) (k : KT) (x0 x1 x2 x6 x7 x8 x9 x27 x28 x29 x37 x38 x39 : Value) : M Value := loopK (fun s1 k1 => codeK PP (evC lf d) (gtA 134) lf (codeAt (bodyOf PP 134) [true, true, true, true, false, true, false, false]) s1 k1) [0, 1, 2, 6, 7, 8, 9, 27, 28, 29, 37, 38, 39] fu [(0, x0), (1, x1), (2, x2), (6, x6), (7, x7), (8, x8), (9, x9), (27, x27), (28, x28), (29, x29), (37, x37), (38, x38), (39, x39)] k
noncomputable def kcB_tables_round (lf d : Nat) : KT := contAt PP (evC lf d) (gtA 134) lf (bodyOf PP 134) [true, true, true, true, false, true, false] (endK PP (resOf PP 134))
noncomputable def lpC_tables_round (lf d fu : Nat) (k : KT) (x0 x1 x2 x6 x7 x8 x9 x18 x27 x28 x29 x37 x38 x39 x40 x70 x71 x72 : Value) : M Value := loopK (fun s1 k1 => codeK PP (evC lf d) (gtA 134) lf (codeAt (bodyOf PP 134) [true, true, true, true, true, true, false, true, false, false]) s1 k1) [0, 1, 2, 6, 7, 8, 9, 18, 27, 28, 29, 37, 38, 39, 40, 70, 71, 72] fu [(0, x0), (1, x1), (2, x2), (6, x6), (7, x7), (8, x8), (9, x9), (18, x18), (27, x27), (28, x28), (29, x29), (37, x37), (38, x38), (39, x39), (40, x40), (70, x70), (71, x71), (72, x72)] k
noncomputable def kcC_tables_round (lf d : Nat) : KT := contAt PP (evC lf d) (gtA 134) lf (bodyOf PP 134) [true, true, true, true, true, true, false, true, false] (endK PP (resOf PP 134))
noncomputable def LA_tables_round (lf d : Nat) (rec : RT) (k : KT) : Nat → Value → Value → Value → Value → Value → Value → Value → Value → Value → M Value
 | 0, _, _, _, _, _, _, _, _, _ => M.fail
 | fu + 1, x0, x1, x2, x6, x7, x8, x9, x27, x28 =>
 optK (q_lss PP 3 x28 x27) fun v29n4 =>
 ifV v29n4 (
 insB (evMake3 PP 22 x2 x2) fun v34n5 =>
 optK (evIA3 PP 72 1 x9 x28) fun v35n6 =>
 insB (evStore3 PP 22 v35n6 v34n5) fun u7 =>
 optK (q_add PP 3 x28 (Value.int .i64 1)) fun v36n8 =>
 LA_tables_round lf d rec k fu x0 x1 x2 x6 x7 x8 x9 x27 v36n8) (
 k (Ex.exit 0) [(0, x0), (1, x1), (2, x2), (6, x6), (7, x7), (8, x8), (9, x9), (27, x27), (28, x28), (29, v29n4)])
noncomputable def LB_tables_round (lf d : Nat) (rec : RT) (k : KT) : Nat → Value → Value → Value → Value → Value → Value → Value → Value → Value → Value → Value → Value → Value → M Value
 | 0, _, _, _, _, _, _, _, _, _, _, _, _, _ => M.fail
 | fu + 1, x0, x1, x2, x6, x7, x8, x9, x27, x28, x29, x37, x38, x39 =>
 optK (q_lss PP 3 x39 x38) fun v40n10 =>
 ifV v40n10 (
 optK (evIA3 PP 72 1 x37 x39) fun v41n11 =>
 insB (evLoad3 PP 22 v41n11) fun v42n12 =>
 (inside (rec 179 #[v42n12, x1])).bind fun v45n13 =>
 insB (evBS3 PP 22 1 [(0, v45n13)]) fun v48n14 =>
 insB (evAppend3 PP 22 x8 v48n14) fun v49n15 =>
 (inside (rec 130 #[v42n12, x2])).bind fun v53n16 =>
 optK (evExtract v53n16 0) fun v54n17 =>
 optK (evExtract v53n16 1) fun v55n18 =>
 optK (evIA3 PP 72 1 x9 v45n13) fun v59n19 =>
 insB (evLoad3 PP 22 v59n19) fun v60n20 =>
 (inside (rec 180 #[v60n20, v54n17])).bind fun v62n21 =>
 optK (evExtract v62n21 0) fun v63n22 =>
 optK (evExtract v62n21 1) fun v64n23 =>
 optK (evIA3 PP 72 1 x9 v45n13) fun v68n24 =>
 insB (evStore3 PP 22 v68n24 v63n22) fun u25 =>
 optK (q_add PP 3 x39 (Value.int .i64 1)) fun v69n26 =>
 LB_tables_round lf d rec k fu x0 x1 x2 x6 x7 v49n15 x9 x27 x28 x29 x37 x38 v69n26) (
 k (Ex.exit 2) [(0, x0), (1, x1), (2, x2), (6, x6), (7, x7), (8, x8), (9, x9), (27, x27), (28, x28), (29, x29), (37, x37), (38, x38), (39, x39), (40, v40n10)])
noncomputable def LC_tables_round (lf d : Nat) (rec : RT) (k : KT) : Nat → Value → Value → Value → Value → Value → Value → Value → Value → Value → Value → Value → Value → Value → Value → Value → Value → Value → Value → M Value
 | 0, _, _, _, _, _, _, _, _, _, _, _, _, _, _, _, _, _, _ => M.fail
 | fu + 1, x0, x1, x2, x6, x7, x8, x9, x18, x27, x28, x29, x37, x38, x39, x40, x70, x71, x72 =>
 optK (q_lss PP 3 x72 x71) fun v73n28 =>
 ifV v73n28 (
 optK (evIA3 PP 72 1 x70 x72) fun v74n29 =>
 insB (evLoad3 PP 22 v74n29) fun v75n30 =>
 (inside (rec 181 #[v75n30])).bind fun v78n31 =>
 optK (evExtract v78n31 0) fun v79n32 =>
 optK (evExtract v78n31 1) fun v80n33 =>
 insB (evBS3 PP 72 1 [(0, v79n32)]) fun v83n34 =>
 insB (evAppend3 PP 72 x18 v83n34) fun v84n35 =>
 optK (q_add PP 3 x72 (Value.int .i64 1)) fun v85n36 =>
 LC_tables_round lf d rec k fu x0 x1 x2 x6 x7 x8 x9 v84n35 x27 x28 x29 x37 x38 x39 x40 x70 x71 v85n36) (
 k (Ex.exit 4) [(0, x0), (1, x1), (2, x2), (6, x6), (7, x7), (8, x8), (9, x9), (18, x18), (27, x27), (28, x28), (29, x29), (37, x37), (38, x38), (39, x39), (40, x40), (70, x70), (71, x71), (72, x72), (73, v73n28)])
noncomputable def KC_tables_round (lf d : Nat) (rec : RT) (dflt : KT) : KT := (kEx 4 (runCur [0, 1, 2, 6, 7, 8, 9, 18, 27, 28, 29, 37, 38, 39, 40, 70, 71, 72, 73] (fun y0 y1 y2 y6 y7 y8 y9 y18 y27 y28 y29 y37 y38 y39 y40 y70 y71 y72 y73 =>
 outK [y8, y18]) (dflt (Ex.exit 4))) dflt)
noncomputable def KB_tables_round (lf d : Nat) (rec : RT) (dflt : KT) : KT := (kEx 2 (runCur [0, 1, 2, 6, 7, 8, 9, 27, 28, 29, 37, 38, 39, 40] (fun y0 y1 y2 y6 y7 y8 y9 y27 y28 y29 y37 y38 y39 y40 =>
 optK (len2 PP #[72] [y9]) fun v71n27 =>
 LC_tables_round lf d rec (KC_tables_round lf d rec (kcC_tables_round lf d)) lf y0 y1 y2 y6 y7 y8 y9 (Value.slice none 0 0) y27 y28 y29 y37 y38 y39 y40 y9 v71n27 (Value.int .i64 0)) (dflt (Ex.exit 2))) dflt)
noncomputable def KA_tables_round (lf d : Nat) (rec : RT) (dflt : KT) : KT := (kEx 0 (runCur [0, 1, 2, 6, 7, 8, 9, 27, 28, 29] (fun y0 y1 y2 y6 y7 y8 y9 y27 y28 y29 =>
 optK (len2 PP #[72] [y0]) fun v38n9 =>
 LB_tables_round lf d rec (KB_tables_round lf d rec (kcB_tables_round lf d)) lf y0 y1 y2 y6 y7 y8 y9 y27 y28 y29 y0 v38n9 (Value.int .i64 0)) (dflt (Ex.exit 0))) dflt)
noncomputable def F_tables_round (lf d : Nat) (rec : RT) (a0 a1 a2 : Value) : M Value :=
 optK (len2 PP #[72] [a1]) fun v24n1 =>
 insB (evMake3 PP 72 v24n1 v24n1) fun v25n2 =>
 optK (len2 PP #[72] [v25n2]) fun v27n3 =>
 LA_tables_round lf d rec (KA_tables_round lf d rec (kcA_tables_round lf d)) lf a0 a1 a2 (Value.slice none 0 0) (Value.slice none 0 0) (Value.slice none 0 0) v25n2 v27n3 (Value.int .i64 0)
theorem LQA_tables_round (lf d : Nat) (k : KT) : ∀ fu : Nat, LA_tables_round lf d (evC lf d) k fu = lpA_tables_round lf d fu k
  | 0 => by funext x0 x1 x2 x6 x7 x8 x9 x27 x28; kernel_rfl
  | fu + 1 => by
    have ih := LQA_tables_round lf d k fu
    funext x0 x1 x2 x6 x7 x8 x9 x27 x28; simp only [LA_tables_round, ih, clash3_eq, evIA3_eq (P := PP) Tryz.underlying72 gs22, evMake3_eq, evStore3_eq (P := PP) gs22, insB_eq, q_add_eq (P := PP) nf3, q_lss_eq (P := PP) nf3]; kernel_rfl
theorem LQB_tables_round (lf d : Nat) (k : KT) : ∀ fu : Nat, LB_tables_round lf d (evC lf d) k fu = lpB_tables_round lf d fu k
  | 0 => by funext x0 x1 x2 x6 x7 x8 x9 x27 x28 x29 x37 x38 x39; kernel_rfl
  | fu + 1 => by
    have ih := LQB_tables_round lf d k fu
    funext x0 x1 x2 x6 x7 x8 x9 x27 x28 x29 x37 x38 x39; simp only [LB_tables_round, ih, clash3_eq, evAppend3_eq, evBS3_eq, evIA3_eq (P := PP) Tryz.underlying72 gs22, evLoad3_eq (P := PP) ga22, evStore3_eq (P := PP) gs22, insB_eq, q_add_eq (P := PP) nf3, q_lss_eq (P := PP) nf3]; kernel_rfl
theorem LQC_tables_round (lf d : Nat) (k : KT) : ∀ fu : Nat, LC_tables_round lf d (evC lf d) k fu = lpC_tables_round lf d fu k
  | 0 => by funext x0 x1 x2 x6 x7 x8 x9 x18 x27 x28 x29 x37 x38 x39 x40 x70 x71 x72; kernel_rfl
  | fu + 1 => by
    have ih := LQC_tables_round lf d k fu
    funext x0 x1 x2 x6 x7 x8 x9 x18 x27 x28 x29 x37 x38 x39 x40 x70 x71 x72; simp only [LC_tables_round, ih, clash3_eq, evAppend3_eq, evBS3_eq, evIA3_eq (P := PP) Tryz.underlying72 gs22, evLoad3_eq (P := PP) ga22, insB_eq, q_add_eq (P := PP) nf3, q_lss_eq (P := PP) nf3]; kernel_rfl
set_option maxRecDepth 20000 in
theorem KQC_tables_round (lf d : Nat) : KC_tables_round lf d (evC lf d) (kcC_tables_round lf d) = kcC_tables_round lf d := by
  unfold KC_tables_round
  refine Eq.trans (kEx_eq ?_) ?_
  · exact (runCur_eq _ _ _ (by intro y0 y1 y2 y6 y7 y8 y9 y18 y27 y28 y29 y37 y38 y39 y40 y70 y71 y72 y73; show _ = _; (try simp only [clash3_eq, insB_eq]); kernel_rfl))
  rfl
set_option maxRecDepth 20000 in
theorem KQB_tables_round (lf d : Nat) : KB_tables_round lf d (evC lf d) (kcB_tables_round lf d) = kcB_tables_round lf d := by
  unfold KB_tables_round
  refine Eq.trans (kEx_eq ?_) ?_
  · exact (runCur_eq _ _ _ (by intro y0 y1 y2 y6 y7 y8 y9 y27 y28 y29 y37 y38 y39 y40; show _ = _; (try simp only [KQC_tables_round lf d, LQC_tables_round, clash3_eq, insB_eq]); kernel_rfl))
  rfl
set_option maxRecDepth 20000 in
theorem KQA_tables_round (lf d : Nat) : KA_tables_round lf d (evC lf d) (kcA_tables_round lf d) = kcA_tables_round lf d := by
  unfold KA_tables_round
  refine Eq.trans (kEx_eq ?_) ?_
  · exact (runCur_eq _ _ _ (by intro y0 y1 y2 y6 y7 y8 y9 y27 y28 y29; show _ = _; (try simp only [KQB_tables_round lf d, LQB_tables_round, clash3_eq, insB_eq]); kernel_rfl))
  rfl
theorem fsh_tables_round (lf d : Nat) (a0 a1 a2 : Value) : inside (F_tables_round lf d (evC lf d) a0 a1 a2) = evC lf (d + 1) 134 #[a0, a1, a2] := by
  unfold F_tables_round; (try simp only [KQA_tables_round lf d, LQA_tables_round, clash3_eq, evMake3_eq, insB_eq]); kernel_rfl

noncomputable def F_picks_tabled (lf d : Nat) (rec : RT) (a0 : Value) : M Value :=
 optK (q_geq PP 3 a0 (Value.int .i64 2)) fun v4n1 =>
 ifV v4n1 (
 optK (q_leq PP 3 a0 (Value.int .i64 6)) fun v7n2 =>
 outK [v7n2]) (
 outK [(Value.bool false)])
theorem fsh_picks_tabled (lf d : Nat) (a0 : Value) : inside (F_picks_tabled lf d (evC lf d) a0) = evC lf (d + 1) 135 #[a0] := by
  unfold F_picks_tabled; (try simp only [clash3_eq, insB_eq, q_geq_eq (P := PP) nf3, q_leq_eq (P := PP) nf3]); kernel_rfl

noncomputable def F_slices_ContainsFunc_int_int (lf d : Nat) (rec : RT) (a0 a1 : Value) : M Value :=
 (inside (rec 182 #[a0, a1])).bind fun v7n1 =>
 optK (q_geq PP 3 v7n1 (Value.int .i64 0)) fun v8n2 =>
 outK [v8n2]
theorem fsh_slices_ContainsFunc_int_int (lf d : Nat) (a0 a1 : Value) : inside (F_slices_ContainsFunc_int_int lf d (evC lf d) a0 a1) = evC lf (d + 1) 136 #[a0, a1] := by
  unfold F_slices_ContainsFunc_int_int; (try simp only [clash3_eq, insB_eq, q_geq_eq (P := PP) nf3]); kernel_rfl

noncomputable def F_picks_may_1 (lf d : Nat) (rec : RT) (a0 a1 : Value) : M Value :=
 optK (q_lss PP 3 a0 (Value.int .i64 0)) fun v5n1 =>
 ifV v5n1 (
 outK [(Value.bool true)]) (
 insB (evLoad3 PP 3 a1) fun v8n2 =>
 optK (q_geq PP 3 a0 v8n2) fun v9n3 =>
 outK [v9n3])
theorem fsh_picks_may_1 (lf d : Nat) (a0 a1 : Value) : inside (F_picks_may_1 lf d (evC lf d) a0 a1) = evC lf (d + 1) 137 #[a0, a1] := by
  unfold F_picks_may_1; (try simp only [clash3_eq, evLoad3_eq (P := PP) ga3, insB_eq, q_geq_eq (P := PP) nf3, q_lss_eq (P := PP) nf3]); kernel_rfl

noncomputable def lpA_picks_order_find (lf d fu : Nat) (k : KT) (x0 x1 x4 x5 : Value) : M Value := loopK (fun s1 k1 => codeK PP (evC lf d) (gtA 138) lf (codeAt (bodyOf PP 138) [true, true, false, false, false]) s1 k1) [0, 1, 4, 5] fu [(0, x0), (1, x1), (4, x4), (5, x5)] k
noncomputable def kcA_picks_order_find (lf d : Nat) : KT := contAt PP (evC lf d) (gtA 138) lf (bodyOf PP 138) [true, true, false, false] (endK PP (resOf PP 138))
noncomputable def LA_picks_order_find (lf d : Nat) (rec : RT) (k : KT) : Nat → Value → Value → Value → Value → M Value
 | 0, _, _, _, _ => M.fail
 | fu + 1, x0, x1, x4, x5 =>
 optK (nil2 x0) fun v8n1 =>
 optK (evIAP3 PP 115 6 1 v8n1 x5) fun v9n2 =>
 insB (evLoad3 PP 3 v9n2) fun v10n3 =>
 optK (q_neq PP 3 v10n3 x1) fun v12n4 =>
 ifV v12n4 (
 optK (q_add PP 3 x5 (Value.int .i64 1)) fun v14n5 =>
 LA_picks_order_find lf d rec k fu x0 x1 x4 v14n5) (
 k (Ex.exit 0) [(0, x0), (1, x1), (4, x4), (5, x5), (12, v12n4)])
noncomputable def KA_picks_order_find (lf d : Nat) (rec : RT) (dflt : KT) : KT := (kEx 0 (runCur [0, 1, 4, 5, 12] (fun y0 y1 y4 y5 y12 =>
 (inside (rec 175 #[y0, y5])).bind fun v17n6 =>
 outK [y5]) (dflt (Ex.exit 0))) dflt)
noncomputable def F_picks_order_find (lf d : Nat) (rec : RT) (a0 a1 : Value) : M Value :=
 LA_picks_order_find lf d rec (KA_picks_order_find lf d rec (kcA_picks_order_find lf d)) lf a0 a1 (Value.int .i64 0) (Value.int .i64 0)
theorem LQA_picks_order_find (lf d : Nat) (k : KT) : ∀ fu : Nat, LA_picks_order_find lf d (evC lf d) k fu = lpA_picks_order_find lf d fu k
  | 0 => by funext x0 x1 x4 x5; kernel_rfl
  | fu + 1 => by
    have ih := LQA_picks_order_find lf d k fu
    funext x0 x1 x4 x5; simp only [LA_picks_order_find, ih, clash3_eq, evIAP3_eq (P := PP) Tryz.underlying115 gs3, evLoad3_eq (P := PP) ga3, insB_eq, q_add_eq (P := PP) nf3, q_neq_eq (P := PP) nf3]; kernel_rfl
set_option maxRecDepth 20000 in
theorem KQA_picks_order_find (lf d : Nat) : KA_picks_order_find lf d (evC lf d) (kcA_picks_order_find lf d) = kcA_picks_order_find lf d := by
  unfold KA_picks_order_find
  refine Eq.trans (kEx_eq ?_) ?_
  · exact (runCur_eq _ _ _ (by intro y0 y1 y4 y5 y12; show _ = _; (try simp only [clash3_eq, insB_eq]); kernel_rfl))
  rfl
theorem fsh_picks_order_find (lf d : Nat) (a0 a1 : Value) : inside (F_picks_order_find lf d (evC lf d) a0 a1) = evC lf (d + 1) 138 #[a0, a1] := by
  unfold F_picks_order_find; (try simp only [KQA_picks_order_find lf d, LQA_picks_order_find, clash3_eq, insB_eq]); kernel_rfl

noncomputable def F_delta_may_1 (lf d : Nat) (rec : RT) (a0 : Value) : M Value :=
 (inside (rec 140 #[a0])).bind fun v4n1 =>
 optK (un3 PP .not v4n1) fun v5n2 =>
 outK [v5n2]
theorem fsh_delta_may_1 (lf d : Nat) (a0 : Value) : inside (F_delta_may_1 lf d (evC lf d) a0) = evC lf (d + 1) 139 #[a0] := by
  unfold F_delta_may_1; (try simp only [clash3_eq, insB_eq, un3_eq]); kernel_rfl

noncomputable def F_delta_length (lf d : Nat) (rec : RT) (a0 : Value) : M Value :=
 optK (q_geq PP 3 a0 (Value.int .i64 1)) fun v4n1 =>
 ifV v4n1 (
 optK (q_leq PP 3 a0 (Value.int .i64 20)) fun v7n2 =>
 outK [v7n2]) (
 outK [(Value.bool false)])
theorem fsh_delta_length (lf d : Nat) (a0 : Value) : inside (F_delta_length lf d (evC lf d) a0) = evC lf (d + 1) 140 #[a0] := by
  unfold F_delta_length; (try simp only [clash3_eq, insB_eq, q_geq_eq (P := PP) nf3, q_leq_eq (P := PP) nf3]); kernel_rfl

end Go.Proofs.YthhhkplbjcknkaaGreatDoor.Fa

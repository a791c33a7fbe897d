import Derived.Test.YtdagfcflbphoiaaGreatDoorMaf
namespace Go.Proofs.YtdagfcflbphoiaaGreatDoor.Fa
set_option linter.unusedVariables false
set_option linter.unusedSimpArgs false
open Go Go.RowKit Ev
noncomputable abbrev PP : Program := Tryz.prog
abbrev RT := FuncId → Array Value → M Value
abbrev KT := Ex → Fr → M Value
def gtAL : List (List Nat) := [[], [], [], [], [], [], [], [], [0, 1, 2, 3, 4, 5, 6, 7], [0], [0, 1, 2, 6, 7, 8, 11, 16, 17, 18], [0, 1, 2, 6, 7, 8, 9, 11, 12, 14, 15, 17, 25, 35, 36, 37, 38, 54, 55, 56, 57], [0, 1, 4, 5, 6, 7, 8, 11, 12, 14, 23, 35, 36, 37, 38], [], [0, 2, 4], [], [0, 11], [0, 2, 3, 5], [], [], [0, 2], [0, 1, 4, 5, 8], [0, 1, 2, 6, 7, 8, 9, 10, 11, 13, 24, 35], [], [0, 2, 4], [], [], [0, 1, 4, 5, 10, 12, 13, 14, 24], [0, 2, 3, 4, 5, 12], [], [0, 1, 4, 5, 6, 7, 8, 9, 22, 34, 43, 64, 68], [], [], [], [0, 1, 4], [0, 1, 4, 29], [0, 1, 4, 5, 18], [0, 1, 2, 6, 8, 9, 12, 27, 28, 29, 30], [0, 1, 2, 4, 5, 8], [0, 2, 3, 4, 5, 6, 7, 8, 9, 18, 30, 51, 52, 53, 54, 60], [0, 1, 2, 6, 7, 8, 9, 11, 20], [0, 1, 4, 5, 6, 8, 12, 14, 15, 16, 17], [0, 2, 3, 4, 7], [0, 1, 3, 4, 5, 6, 7, 8, 9, 11, 12, 19, 21, 22, 23, 24, 36, 54], [], [], [], [], [], [], [], [0, 2], [0, 1, 2, 6, 7, 8, 9, 10, 15, 22, 26, 29], [], [], [], [0, 2, 3, 6], [0], [0, 1, 4, 5, 6, 7, 8, 20, 40], [0, 2], [0, 1, 4, 5, 6, 17], [0, 2, 4], [0, 1, 4, 5, 6, 7, 8, 9, 26, 38], [0, 2, 4], [0, 1, 4, 5, 7, 8, 9, 16], [0, 1, 4, 5, 6, 7, 8, 9, 10, 11, 18, 27, 40, 41], [0, 1, 3, 4, 17], [0, 2, 3, 4, 5, 6, 11, 12, 13, 14], [0, 2], [0, 1, 4, 6, 13, 14, 15, 16, 21, 28], [0, 1, 2], [0, 2, 3, 4], [0, 2, 4], [0, 1, 4, 5, 6, 7, 10], [1, 2], [0, 2, 4], [0, 1, 4, 5, 14], [0, 1, 4, 5, 6, 8, 11, 12, 13, 14, 15, 25], [], [], [], [], [], [], [], [], [], [], [], [], [], [0, 2], [0, 1, 2, 3, 4], [0, 1, 4, 5, 6, 7, 8, 14, 24], [0, 1, 4, 5, 6, 7, 8, 19, 32, 39], [0, 1, 4, 5, 6, 7, 18, 29], [0, 2], [0, 2, 4], [0, 1, 4, 5, 6, 8, 14, 17, 18, 19, 20, 29], [0, 2, 3, 4, 5, 9, 10, 11], [0, 1, 4, 5, 6, 7, 8, 9, 10, 11, 12, 18, 19, 20, 29, 30, 31, 32, 42, 43, 44, 48], [0, 1, 2, 6, 7, 8, 9, 10, 12, 13, 14, 16, 18, 20, 21, 27, 28, 29, 37, 38, 39, 40, 70, 71, 72, 73], [0, 2], [0, 1, 4], [0, 1, 3], [0, 1, 4, 5, 12], [0, 2], [0, 2], [0, 2, 3, 4, 6, 14, 15, 16, 17, 18], [0, 1, 4], [0, 1, 2, 6], [0, 2], [0, 1, 4], [], [], [], [], [], [], [], [0, 1, 4, 5, 6, 7, 8, 9, 10, 12, 21, 51], [0, 1, 4, 5, 6, 7, 11, 12, 13, 21, 24], [0, 1, 4, 5, 6, 7, 8, 15, 29], [0, 1, 4, 5, 6, 7, 8, 13, 20, 32, 35, 55], [0, 2, 3, 5, 6, 7, 8, 12], [0, 1, 4, 5, 6, 7, 8, 9, 11, 12, 13, 14, 26], [0, 1, 4, 5, 6, 7, 22, 27, 28, 29], [0, 2, 3, 4, 5, 6, 7, 20, 24, 25, 26, 27, 41], [0, 1, 4, 5, 7, 8, 9, 16], [0, 1, 4, 5, 6, 14], [0, 1, 2, 4, 5, 6], [0, 2], [0, 2], [], [], [], [0, 1, 4, 5, 6, 7, 10, 17, 22, 23, 24], [0, 2], [0, 1, 4, 7], [0, 2, 3, 4, 5, 6, 11, 12, 13, 32], [0, 2, 3, 5, 6, 7, 8, 9], [0, 2, 3, 4, 5, 9, 10, 11, 12], [0, 1, 2, 4], [], [0, 2, 4], [0, 1, 4, 5], [0, 1, 2, 3, 4, 12, 13, 14], [0, 2, 3, 46], [0, 1, 2], [0, 1], [0, 1, 2, 5], [0, 1, 4, 5, 6, 11, 12, 13, 16, 19], [0, 1, 2, 6, 7, 8, 9, 13, 30, 35, 54], [0, 2], [0, 1, 2, 3, 8, 9, 14, 34], [0, 1, 2, 3, 4, 10, 11, 12, 13, 14, 15, 16, 17, 18, 19, 20, 21, 22, 23, 24, 28, 33, 50, 58, 80, 85, 103, 110, 140, 151, 171, 185, 199, 213], [0, 1, 2, 3, 4, 10, 11, 20, 23], [0, 1, 2, 3, 10, 13], [], [], [], [], [], [], [], [], [], [], [], [], [], [], [], [], [], [], [], [], [], [], []]
def gtA (f : Nat) : List Nat := gtAL.getD f []
noncomputable def evC (lf : Nat) : Nat → RT := evCallN kn0 PP gtA lf
theorem az132 : evAllocZ 132 (repV (Value.int .i64 0) 6) = evAlloc PP 132 := by refine zbao (z := .agg ⟨(repV (Value.int .i64 0) 6)⟩) ?_ ?_ <;> kernel_rfl
theorem az3 : evAllocZ 3 [Value.int .i64 0] = evAlloc PP 3 := by refine zbao (z := (Value.int .i64 0)) ?_ ?_ <;> kernel_rfl
theorem az67 : evAllocZ 67 [Value.slice none 0 0, Value.slice none 0 0] = evAlloc PP 67 := by refine zbao (z := .agg ⟨[Value.slice none 0 0, Value.slice none 0 0]⟩) ?_ ?_ <;> kernel_rfl
theorem bz100 : evBuildZ PP 100 [Value.int .i64 0, Value.pointer none, Value.slice none 0 0, Value.pointer none, Value.slice none 0 0, Value.int .i64 0, Value.bool false, Value.int .i64 0] = evBuild PP 100 := by refine zagp (z := .agg ⟨[Value.int .i64 0, Value.pointer none, Value.slice none 0 0, Value.pointer none, Value.slice none 0 0, Value.int .i64 0, Value.bool false, Value.int .i64 0]⟩) ?_ ?_ <;> kernel_rfl
theorem bz111 : evBuildZ PP 111 (appV [Value.slice none 0 0] (appV [Value.slice none 0 0] (appV [Value.slice none 0 0] (appV (repV (Value.int .i64 0) 21) (repV (Value.int .i64 0) 22))))) = evBuild PP 111 := by refine zagp (z := .agg ⟨(appV [Value.slice none 0 0] (appV [Value.slice none 0 0] (appV [Value.slice none 0 0] (appV (repV (Value.int .i64 0) 21) (repV (Value.int .i64 0) 22)))))⟩) ?_ ?_ <;> kernel_rfl
theorem bz130 : evBuildZ PP 130 [Value.int .i64 0, Value.int .i64 0, Value.slice none 0 0, Value.bool false] = evBuild PP 130 := by refine zagp (z := .agg ⟨[Value.int .i64 0, Value.int .i64 0, Value.slice none 0 0, Value.bool false]⟩) ?_ ?_ <;> kernel_rfl
theorem bz135 : evBuildZ PP 135 (appV [Value.int .i64 0] (appV [Value.int .i64 0] (appV (repV (Value.int .i64 0) 6) (appV [Value.slice none 0 0] [Value.bool false])))) = evBuild PP 135 := by refine zagp (z := .agg ⟨(appV [Value.int .i64 0] (appV [Value.int .i64 0] (appV (repV (Value.int .i64 0) 6) (appV [Value.slice none 0 0] [Value.bool false]))))⟩) ?_ ?_ <;> kernel_rfl
theorem bz164 : evBuildZ PP 164 [Value.slice none 0 0, Value.slice none 0 0, Value.slice none 0 0, Value.int .i64 0] = evBuild PP 164 := by refine zagp (z := .agg ⟨[Value.slice none 0 0, Value.slice none 0 0, Value.slice none 0 0, Value.int .i64 0]⟩) ?_ ?_ <;> kernel_rfl
theorem bz63 : evBuildZ PP 63 [Value.slice none 0 0, Value.int .u8 0, Value.int .i64 0] = evBuild PP 63 := by refine zagp (z := .agg ⟨[Value.slice none 0 0, Value.int .u8 0, Value.int .i64 0]⟩) ?_ ?_ <;> kernel_rfl
theorem bz67 : evBuildZ PP 67 [Value.slice none 0 0, Value.slice none 0 0] = evBuild PP 67 := by refine zagp (z := .agg ⟨[Value.slice none 0 0, Value.slice none 0 0]⟩) ?_ ?_ <;> kernel_rfl
theorem bz85 : evBuildZ PP 85 [Value.string ⟨⟨[]⟩⟩, Value.int .i64 0, Value.int .i64 0] = evBuild PP 85 := by refine zagp (z := .agg ⟨[Value.string ⟨⟨[]⟩⟩, Value.int .i64 0, Value.int .i64 0]⟩) ?_ ?_ <;> kernel_rfl
theorem zbjb (x : Int) (k : Value → M Value) : conv2 PP 157 3 (.int .u64 x) k = k (.int .i64 (IntKind.i64.wrap x)) := by kernel_rfl
theorem zbtl (x : Int) (k : Value → M Value) : conv2 PP 23 3 (.int .u32 x) k = k (.int .i64 (IntKind.i64.wrap x)) := by kernel_rfl
theorem zckf (x : Int) (k : Value → M Value) : conv2 PP 23 5 (.int .u32 x) k = k (.int .u8 (IntKind.u8.wrap x)) := by kernel_rfl
theorem zchl (x : Int) (k : Value → M Value) : conv2 PP 23 60 (.int .u32 x) k = k (.int .u64 (IntKind.u64.wrap x)) := by kernel_rfl
theorem zbjg (x : Int) (k : Value → M Value) : conv2 PP 3 157 (.int .i64 x) k = k (.int .u64 (IntKind.u64.wrap x)) := by kernel_rfl
theorem zbrz (x : Int) (k : Value → M Value) : conv2 PP 3 23 (.int .i64 x) k = k (.int .u32 (IntKind.u32.wrap x)) := by kernel_rfl
theorem zcjs (x : Int) (k : Value → M Value) : conv2 PP 5 23 (.int .u8 x) k = k (.int .u32 (IntKind.u32.wrap x)) := by kernel_rfl
theorem ga107 : agg? PP 107 = some false := by kernel_rfl
theorem ga132 : agg? PP 132 = some true := by kernel_rfl
theorem ga158 : agg? PP 158 = some true := by kernel_rfl
theorem ga22 : agg? PP 22 = some false := by kernel_rfl
theorem ga23 : agg? PP 23 = some false := by kernel_rfl
theorem ga27 : agg? PP 27 = some false := by kernel_rfl
theorem ga29 : agg? PP 29 = some false := by kernel_rfl
theorem ga3 : agg? PP 3 = some false := by kernel_rfl
theorem ga4 : agg? PP 4 = some false := by kernel_rfl
theorem ga5 : agg? PP 5 = some false := by kernel_rfl
theorem ga61 : agg? PP 61 = some false := by kernel_rfl
theorem ga65 : agg? PP 65 = some false := by kernel_rfl
theorem ga67 : agg? PP 67 = some true := by kernel_rfl
theorem ga70 : agg? PP 70 = some false := by kernel_rfl
theorem ga72 : agg? PP 72 = some false := by kernel_rfl
theorem ga9 : agg? PP 9 = some false := by kernel_rfl
theorem ga94 : agg? PP 94 = some false := by kernel_rfl
theorem ga97 : agg? PP 97 = some false := by kernel_rfl
theorem zbyy (b off : Nat) : evFieldAddr PP 100 (.pointer (some ⟨b, off, none⟩)) 0 = some (.pointer (some ⟨b, off + 0, none⟩)) := by kernel_rfl
theorem zbyj (b off : Nat) : evFieldAddr PP 100 (.pointer (some ⟨b, off, none⟩)) 1 = some (.pointer (some ⟨b, off + 1, none⟩)) := by kernel_rfl
theorem zbym (b off : Nat) : evFieldAddr PP 100 (.pointer (some ⟨b, off, none⟩)) 2 = some (.pointer (some ⟨b, off + 2, none⟩)) := by kernel_rfl
theorem zchj (b off : Nat) : evFieldAddr PP 100 (.pointer (some ⟨b, off, none⟩)) 3 = some (.pointer (some ⟨b, off + 3, none⟩)) := by kernel_rfl
theorem zbpj (b off : Nat) : evFieldAddr PP 100 (.pointer (some ⟨b, off, none⟩)) 4 = some (.pointer (some ⟨b, off + 4, none⟩)) := by kernel_rfl
theorem zcig (b off : Nat) : evFieldAddr PP 100 (.pointer (some ⟨b, off, none⟩)) 5 = some (.pointer (some ⟨b, off + 5, none⟩)) := by kernel_rfl
theorem zbop (b off : Nat) : evFieldAddr PP 100 (.pointer (some ⟨b, off, none⟩)) 6 = some (.pointer (some ⟨b, off + 6, none⟩)) := by kernel_rfl
theorem zcid (b off : Nat) : evFieldAddr PP 100 (.pointer (some ⟨b, off, none⟩)) 7 = some (.pointer (some ⟨b, off + 7, none⟩)) := by kernel_rfl
theorem zcix (b off : Nat) : evFieldAddr PP 111 (.pointer (some ⟨b, off, none⟩)) 0 = some (.pointer (some ⟨b, off + 0, none⟩)) := by kernel_rfl
theorem zbxo (b off : Nat) : evFieldAddr PP 111 (.pointer (some ⟨b, off, none⟩)) 1 = some (.pointer (some ⟨b, off + 1, none⟩)) := by kernel_rfl
theorem zbjh (b off : Nat) : evFieldAddr PP 111 (.pointer (some ⟨b, off, none⟩)) 2 = some (.pointer (some ⟨b, off + 2, none⟩)) := by kernel_rfl
theorem zbwo (b off : Nat) : evFieldAddr PP 111 (.pointer (some ⟨b, off, none⟩)) 3 = some (.pointer (some ⟨b, off + 3, none⟩)) := by kernel_rfl
theorem zbpg (b off : Nat) : evFieldAddr PP 111 (.pointer (some ⟨b, off, none⟩)) 4 = some (.pointer (some ⟨b, off + 24, none⟩)) := by kernel_rfl
theorem zche (b off : Nat) : evFieldAddr PP 130 (.pointer (some ⟨b, off, none⟩)) 0 = some (.pointer (some ⟨b, off + 0, none⟩)) := by kernel_rfl
theorem zbxu (b off : Nat) : evFieldAddr PP 130 (.pointer (some ⟨b, off, none⟩)) 1 = some (.pointer (some ⟨b, off + 1, none⟩)) := by kernel_rfl
theorem zboy (b off : Nat) : evFieldAddr PP 130 (.pointer (some ⟨b, off, none⟩)) 2 = some (.pointer (some ⟨b, off + 2, none⟩)) := by kernel_rfl
theorem zbvd (b off : Nat) : evFieldAddr PP 130 (.pointer (some ⟨b, off, none⟩)) 3 = some (.pointer (some ⟨b, off + 3, none⟩)) := by kernel_rfl
theorem zboa (b off : Nat) : evFieldAddr PP 135 (.pointer (some ⟨b, off, none⟩)) 0 = some (.pointer (some ⟨b, off + 0, none⟩)) := by kernel_rfl
theorem zbpl (b off : Nat) : evFieldAddr PP 135 (.pointer (some ⟨b, off, none⟩)) 1 = some (.pointer (some ⟨b, off + 1, none⟩)) := by kernel_rfl
theorem zcgs (b off : Nat) : evFieldAddr PP 135 (.pointer (some ⟨b, off, none⟩)) 2 = some (.pointer (some ⟨b, off + 2, none⟩)) := by kernel_rfl
theorem zbor (b off : Nat) : evFieldAddr PP 135 (.pointer (some ⟨b, off, none⟩)) 3 = some (.pointer (some ⟨b, off + 8, none⟩)) := by kernel_rfl
theorem zbxz (b off : Nat) : evFieldAddr PP 135 (.pointer (some ⟨b, off, none⟩)) 4 = some (.pointer (some ⟨b, off + 9, none⟩)) := by kernel_rfl
theorem zbpd (b off : Nat) : evFieldAddr PP 164 (.pointer (some ⟨b, off, none⟩)) 0 = some (.pointer (some ⟨b, off + 0, none⟩)) := by kernel_rfl
theorem zbow (b off : Nat) : evFieldAddr PP 164 (.pointer (some ⟨b, off, none⟩)) 1 = some (.pointer (some ⟨b, off + 1, none⟩)) := by kernel_rfl
theorem zbok (b off : Nat) : evFieldAddr PP 164 (.pointer (some ⟨b, off, none⟩)) 2 = some (.pointer (some ⟨b, off + 2, none⟩)) := by kernel_rfl
theorem zcht (b off : Nat) : evFieldAddr PP 164 (.pointer (some ⟨b, off, none⟩)) 3 = some (.pointer (some ⟨b, off + 3, none⟩)) := by kernel_rfl
theorem zcdu (b off : Nat) : evFieldAddr PP 63 (.pointer (some ⟨b, off, none⟩)) 0 = some (.pointer (some ⟨b, off + 0, none⟩)) := by kernel_rfl
theorem zckm (b off : Nat) : evFieldAddr PP 63 (.pointer (some ⟨b, off, none⟩)) 1 = some (.pointer (some ⟨b, off + 1, none⟩)) := by kernel_rfl
theorem zbtg (b off : Nat) : evFieldAddr PP 63 (.pointer (some ⟨b, off, none⟩)) 2 = some (.pointer (some ⟨b, off + 2, none⟩)) := by kernel_rfl
theorem zbmk (b off : Nat) : evFieldAddr PP 67 (.pointer (some ⟨b, off, none⟩)) 0 = some (.pointer (some ⟨b, off + 0, none⟩)) := by kernel_rfl
theorem zbno (b off : Nat) : evFieldAddr PP 67 (.pointer (some ⟨b, off, none⟩)) 1 = some (.pointer (some ⟨b, off + 1, none⟩)) := by kernel_rfl
theorem zcbp (b off : Nat) : evFieldAddr PP 85 (.pointer (some ⟨b, off, none⟩)) 0 = some (.pointer (some ⟨b, off + 0, none⟩)) := by kernel_rfl
theorem zbta (b off : Nat) : evFieldAddr PP 85 (.pointer (some ⟨b, off, none⟩)) 1 = some (.pointer (some ⟨b, off + 1, none⟩)) := by kernel_rfl
theorem zbmq (b off : Nat) : evFieldAddr PP 85 (.pointer (some ⟨b, off, none⟩)) 2 = some (.pointer (some ⟨b, off + 2, none⟩)) := by kernel_rfl
theorem gs132 : size? PP 132 = some 6 := by kernel_rfl
theorem gs158 : size? PP 158 = some 4 := by kernel_rfl
theorem gs22 : size? PP 22 = some 1 := by kernel_rfl
theorem gs23 : size? PP 23 = some 1 := by kernel_rfl
theorem gs29 : size? PP 29 = some 1 := by kernel_rfl
theorem gs3 : size? PP 3 = some 1 := by kernel_rfl
theorem gs4 : size? PP 4 = some 1 := by kernel_rfl
theorem gs5 : size? PP 5 = some 1 := by kernel_rfl
theorem gs61 : size? PP 61 = some 1 := by kernel_rfl
theorem gs67 : size? PP 67 = some 2 := by kernel_rfl
theorem gs70 : size? PP 70 = some 1 := by kernel_rfl
theorem gs72 : size? PP 72 = some 1 := by kernel_rfl
theorem gs94 : size? PP 94 = some 1 := by kernel_rfl
theorem nf157 : isNilT PP 157 = false := by kernel_rfl
theorem nf23 : isNilT PP 23 = false := by kernel_rfl
theorem nf29 : isNilT PP 29 = false := by kernel_rfl
theorem nf3 : isNilT PP 3 = false := by kernel_rfl
theorem nf5 : isNilT PP 5 = false := by kernel_rfl
theorem nf60 : isNilT PP 60 = false := by kernel_rfl

noncomputable def F_balerlaw14_two (lf d : Nat) (rec : RT) : M Value :=
 (inside (rec 9 #[])).bind fun v8n1 =>
 insB (evBS3 PP 22 2 [(0, (Value.int .i64 0)), (1, (Value.int .i64 2))]) fun v10n2 =>
 (inside (rec 11 #[v8n1, v10n2, (Value.int .i64 3)])).bind fun v11n3 =>
 insB (evBS3 PP 22 2 [(0, (Value.int .i64 0)), (1, (Value.int .i64 2))]) fun v13n4 =>
 (inside (rec 12 #[v13n4, (Value.int .i64 3)])).bind fun v14n5 =>
 optK (evExtract v14n5 0) fun v15n6 =>
 optK (evExtract v14n5 1) fun v16n7 =>
 (inside (rec 14 #[v8n1])).bind fun v18n8 =>
 (inside (rec 16 #[v8n1])).bind fun v20n9 =>
 (inside (rec 17 #[v8n1])).bind fun v23n10 =>
 (inside (rec 20 #[v23n10])).bind fun v24n11 =>
 (inside (rec 22 #[v24n11, (Value.int .i64 3), (Value.int .i64 2)])).bind fun v25n12 =>
 optK (evExtract v25n12 0) fun v26n13 =>
 optK (evExtract v25n12 1) fun v27n14 =>
 optK (q_eql PP 29 v11n3 (Value.int .i64 0)) fun v29n15 =>
 ifV v29n15 (
  optK (q_eql PP 29 v16n7 (Value.int .i64 0)) fun v32n16 =>
  ifV v32n16 (
   optK (q_eql PP 29 v27n14 (Value.int .i64 0)) fun v36n17 =>
   ifV v36n17 (
    optK (q_eql PP 3 v15n6 v18n8) fun v41n18 =>
    ifV v41n18 (
     insB (evBS3 PP 22 2 [(0, (Value.int .i64 0)), (1, (Value.int .i64 2))]) fun v45n19 =>
     (inside (rec 27 #[v26n13, v45n19])).bind fun v46n20 =>
     outK [v46n20]) (
     outK [(Value.bool false)])) (
    outK [(Value.bool false)])) (
   outK [(Value.bool false)])) (
  outK [(Value.bool false)])
theorem fsh_balerlaw14_two (lf d : Nat) : inside (F_balerlaw14_two lf d (evC lf d)) = evC lf (d + 1) 8 #[] := by
 unfold F_balerlaw14_two; (try simp only [zaag, zaeh, zaah, zabk (P := PP) nf29, zabk (P := PP) nf3]); kernel_rfl

noncomputable def zaor (lf d : Nat) (rec : RT) : M Value :=
 insB (evBuildZ PP 63 [Value.slice none 0 0, Value.int .u8 0, Value.int .i64 0] []) fun v1n1 =>
 insB (zagy PP 63 v1n1) fun v2n2 =>
 outK [v2n2]
theorem zbhc (lf d : Nat) : inside (zaor lf d (evC lf d)) = evC lf (d + 1) 9 #[] := by
 unfold zaor; (try simp only [bz63, zaag, zafd, zaah]); kernel_rfl

noncomputable def zarv (lf d fu : Nat) (k : KT) (x0 x1 x2 x6 x8 x11 x16 x17 : Value) : M Value := loopK (fun s1 k1 => codeK PP (evC lf d) (gtA 10) lf (codeAt (bodyOf PP 10) [true, true, false, true, false, false]) s1 k1) [0, 1, 2, 6, 8, 11, 16, 17] fu [(0, x0), (1, x1), (2, x2), (6, x6), (8, x8), (11, x11), (16, x16), (17, x17)] k
noncomputable def zahg (lf d : Nat) : KT := contAt PP (evC lf d) (gtA 10) lf (bodyOf PP 10) [true, true, false, true, false] (endK PP (resOf PP 10))
noncomputable def zaic (lf d : Nat) (rec : RT) (k : KT) : Nat → Value → Value → Value → Value → Value → Value → Value → Value → M Value
 | 0, _, _, _, _, _, _, _, _ => M.fail
 | fu + 1, x0, x1, x2, x6, x8, x11, x16, x17 =>
  optK (q_lss PP 3 x17 x16) fun v18n4 =>
  ifV v18n4 (
   optK (q_sub PP 3 x2 (Value.int .i64 1)) fun v23n5 =>
   optK (q_sub PP 3 v23n5 x17) fun v25n6 =>
   optK (q_shr PP 23 x1 v25n6) fun v26n7 =>
   optK (q_and PP 23 v26n7 (Value.int .u32 1)) fun v27n8 =>
   conv3 PP 23 5 .u32 .u8 v27n8 fun v28n9 =>
   (inside (rec 35 #[x0, v28n9])).bind fun v29n10 =>
   optK (q_add PP 3 x17 (Value.int .i64 1)) fun v30n11 =>
   zaic lf d rec k fu x0 x1 x2 x6 x8 x11 x16 v30n11) (
   k (Ex.exit 1) [(0, x0), (1, x1), (2, x2), (6, x6), (8, x8), (11, x11), (16, x16), (17, x17), (18, v18n4)])
noncomputable def zamd (lf d : Nat) (rec : RT) (dflt : KT) : KT := (kEx 1 (runCur [0, 1, 2, 6, 8, 11, 16, 17, 18] (fun y0 y1 y2 y6 y8 y11 y16 y17 y18 =>
 outK [(Value.int .i64 0)]) (dflt (Ex.exit 1))) dflt)
noncomputable def zani (lf d : Nat) (rec : RT) (a0 a1 a2 : Value) : M Value :=
 optK (zacg PP 27 a0 (Value.pointer none)) fun v10n1 =>
 ifV v10n1 (
  outK [(Value.int .i64 7)]) (
  (inside (rec 34 #[a1, a2])).bind fun v14n2 =>
  optK (un3 PP .not v14n2) fun v15n3 =>
  ifV v15n3 (
   outK [(Value.int .i64 1)]) (
   zaic lf d rec (zamd lf d rec (zahg lf d)) lf a0 a1 a2 (Value.int .i64 0) v10n1 v15n3 a2 (Value.int .i64 0)))
theorem zasc (lf d : Nat) (k : KT) : ∀ fu : Nat, zaic lf d (evC lf d) k fu = zarv lf d fu k
 | 0 => by funext x0 x1 x2 x6 x8 x11 x16 x17; kernel_rfl
 | fu + 1 => by
  have ih := zasc lf d k fu
  funext x0 x1 x2 x6 x8 x11 x16 x17; simp only [zaic, ih, zaag, zade zckf, zaah, zaap (P := PP) nf3, zbky (P := PP) nf23, zaat (P := PP) nf3, zalq (P := PP) nf23, zabd (P := PP) nf3]; kernel_rfl
set_option maxRecDepth 20000 in
theorem zbfz (lf d : Nat) : zamd lf d (evC lf d) (zahg lf d) = zahg lf d := by
  unfold zamd
  refine Eq.trans (zaba ?_) ?_
  · exact (zaam _ _ _ (by intro y0 y1 y2 y6 y8 y11 y16 y17 y18; show _ = _; (try simp only [zaag, zaah]); kernel_rfl))
  rfl
theorem zbfv (lf d : Nat) (a0 a1 a2 : Value) : inside (zani lf d (evC lf d) a0 a1 a2) = evC lf (d + 1) 10 #[a0, a1, a2] := by
 unfold zani; (try simp only [zbfz lf d, zasc, zaag, zaah, zabc (P := PP) Tryz.underlying27, zack]); kernel_rfl

noncomputable def zbbt (lf d fu : Nat) (k : KT) (x0 x1 x2 x6 x7 x8 x9 x17 x25 x35 x36 x37 : Value) : M Value := loopK (fun s1 k1 => codeK PP (evC lf d) (gtA 11) lf (codeAt (bodyOf PP 11) [true, true, true, true, true, true, false, true, false, false]) s1 k1) [0, 1, 2, 6, 7, 8, 9, 17, 25, 35, 36, 37] fu [(0, x0), (1, x1), (2, x2), (6, x6), (7, x7), (8, x8), (9, x9), (17, x17), (25, x25), (35, x35), (36, x36), (37, x37)] k
noncomputable def zams (lf d : Nat) : KT := contAt PP (evC lf d) (gtA 11) lf (bodyOf PP 11) [true, true, true, true, true, true, false, true, false] (endK PP (resOf PP 11))
noncomputable def zbbr (lf d fu : Nat) (k : KT) (x0 x1 x2 x6 x7 x8 x9 x17 x25 x35 x36 x37 x38 x54 x55 x56 : Value) : M Value := loopK (fun s1 k1 => codeK PP (evC lf d) (gtA 11) lf (codeAt (bodyOf PP 11) [true, true, true, true, true, true, true, false, true, false, false]) s1 k1) [0, 1, 2, 6, 7, 8, 9, 17, 25, 35, 36, 37, 38, 54, 55, 56] fu [(0, x0), (1, x1), (2, x2), (6, x6), (7, x7), (8, x8), (9, x9), (17, x17), (25, x25), (35, x35), (36, x36), (37, x37), (38, x38), (54, x54), (55, x55), (56, x56)] k
noncomputable def zamq (lf d : Nat) : KT := contAt PP (evC lf d) (gtA 11) lf (bodyOf PP 11) [true, true, true, true, true, true, true, false, true, false] (endK PP (resOf PP 11))
noncomputable def zaok (lf d : Nat) (rec : RT) (k : KT) : Nat → Value → Value → Value → Value → Value → Value → Value → Value → Value → Value → Value → Value → M Value
 | 0, _, _, _, _, _, _, _, _, _, _, _, _ => M.fail
 | fu + 1, x0, x1, x2, x6, x7, x8, x9, x17, x25, x35, x36, x37 =>
  optK (q_lss PP 3 x37 x36) fun v38n17 =>
  ifV v38n17 (
   optK (evIA3 PP 65 1 x35 x37) fun v39n18 =>
   insB (zaai PP 22 v39n18) fun v40n19 =>
   (inside (rec 38 #[x0, v40n19])).bind fun v43n20 =>
   (inside (rec 39 #[v40n19])).bind fun v46n21 =>
   optK (evExtract v46n21 0) fun v47n22 =>
   optK (evExtract v46n21 1) fun v48n23 =>
   insB (evBS3 PP 70 1 [(0, v47n22)]) fun v51n24 =>
   insB (zach PP 70 x9 v51n24) fun v52n25 =>
   optK (q_add PP 3 x37 (Value.int .i64 1)) fun v53n26 =>
   zaok lf d rec k fu x0 x1 x2 x6 x7 x8 v52n25 x17 x25 x35 x36 v53n26) (
   k (Ex.exit 0) [(0, x0), (1, x1), (2, x2), (6, x6), (7, x7), (8, x8), (9, x9), (17, x17), (25, x25), (35, x35), (36, x36), (37, x37), (38, v38n17)])
noncomputable def zaoj (lf d : Nat) (rec : RT) (k : KT) : Nat → Value → Value → Value → Value → Value → Value → Value → Value → Value → Value → Value → Value → Value → Value → Value → Value → M Value
 | 0, _, _, _, _, _, _, _, _, _, _, _, _, _, _, _, _ => M.fail
 | fu + 1, x0, x1, x2, x6, x7, x8, x9, x17, x25, x35, x36, x37, x38, x54, x55, x56 =>
  optK (q_lss PP 3 x56 x55) fun v57n28 =>
  ifV v57n28 (
   optK (evIA3 PP 22 1 x54 x56) fun v59n29 =>
   insB (zaai PP 3 v59n29) fun v60n30 =>
   optK (evFA3 PP 67 1 x7 1) fun v62n31 =>
   insB (zaai PP 22 v62n31) fun v63n32 =>
   optK (q_quo PP 3 x56 (Value.int .i64 50)) fun v65n33 =>
   optK (evIA3 PP 22 1 v63n32 v65n33) fun v66n34 =>
   insB (zaai PP 3 v66n34) fun v67n35 =>
   optK (evIA3 PP 70 1 x9 v67n35) fun v68n36 =>
   insB (zaai PP 72 v68n36) fun v69n37 =>
   (inside (rec 40 #[v69n37, x0, v60n30])).bind fun v72n38 =>
   optK (q_add PP 3 x56 (Value.int .i64 1)) fun v73n39 =>
   zaoj lf d rec k fu x0 x1 x2 x6 x7 x8 x9 x17 x25 x35 x36 x37 x38 x54 x55 v73n39) (
   k (Ex.exit 2) [(0, x0), (1, x1), (2, x2), (6, x6), (7, x7), (8, x8), (9, x9), (17, x17), (25, x25), (35, x35), (36, x36), (37, x37), (38, x38), (54, x54), (55, x55), (56, x56), (57, v57n28)])
noncomputable def zavf (lf d : Nat) (rec : RT) (dflt : KT) : KT := (kEx 2 (runCur [0, 1, 2, 6, 7, 8, 9, 17, 25, 35, 36, 37, 38, 54, 55, 56, 57] (fun y0 y1 y2 y6 y7 y8 y9 y17 y25 y35 y36 y37 y38 y54 y55 y56 y57 =>
 outK [(Value.int .i64 0)]) (dflt (Ex.exit 2))) dflt)
noncomputable def zauy (lf d : Nat) (rec : RT) (dflt : KT) : KT := (kEx 0 (runCur [0, 1, 2, 6, 7, 8, 9, 17, 25, 35, 36, 37, 38] (fun y0 y1 y2 y6 y7 y8 y9 y17 y25 y35 y36 y37 y38 =>
 optK (len2 PP #[22] [y1]) fun v55n27 =>
 zaoj lf d rec (zavf lf d rec (zamq lf d)) lf y0 y1 y2 y6 y7 y8 y9 y17 y25 y35 y36 y37 y38 y1 v55n27 (Value.int .i64 0)) (dflt (Ex.exit 0))) dflt)
noncomputable def zaxz (lf d : Nat) (rec : RT) (a0 a1 a2 : Value) : M Value :=
 optK (zacg PP 27 a0 (Value.pointer none)) fun v17n1 =>
 ifV v17n1 (
  outK [(Value.int .i64 7)]) (
  (inside (rec 36 #[a1, a2])).bind fun v21n2 =>
  optK (evExtract v21n2 0) fun v22n3 =>
  optK (evExtract v21n2 1) fun v23n4 =>
  insB (evAllocZ 67 [Value.slice none 0 0, Value.slice none 0 0]) fun v7n5 =>
  insB (zadg PP 67 2 v7n5 v22n3) fun u6 =>
  optK (q_neq PP 29 v23n4 (Value.int .i64 0)) fun v25n7 =>
  ifV v25n7 (
   outK [v23n4]) (
   optK (evFA3 PP 67 1 v7n5 1) fun v28n8 =>
   insB (zaai PP 22 v28n8) fun v29n9 =>
   optK (evFA3 PP 67 0 v7n5 0) fun v30n10 =>
   insB (zaai PP 65 v30n10) fun v31n11 =>
   optK (len2 PP #[65] [v31n11]) fun v32n12 =>
   (inside (rec 37 #[a0, v29n9, v32n12])).bind fun v33n13 =>
   optK (evFA3 PP 67 0 v7n5 0) fun v34n14 =>
   insB (zaai PP 65 v34n14) fun v35n15 =>
   optK (len2 PP #[65] [v35n15]) fun v36n16 =>
   zaok lf d rec (zauy lf d rec (zams lf d)) lf a0 a1 a2 (Value.int .i64 0) v7n5 v23n4 (Value.slice none 0 0) v17n1 v25n7 v35n15 v36n16 (Value.int .i64 0)))
theorem zbcl (lf d : Nat) (k : KT) : ∀ fu : Nat, zaok lf d (evC lf d) k fu = zbbt lf d fu k
 | 0 => by funext x0 x1 x2 x6 x7 x8 x9 x17 x25 x35 x36 x37; kernel_rfl
 | fu + 1 => by
  have ih := zbcl lf d k fu
  funext x0 x1 x2 x6 x7 x8 x9 x17 x25 x35 x36 x37; simp only [zaok, ih, zaag, zacd, zaeh, zaax (P := PP) Tryz.underlying65 gs22, zaaj (P := PP) ga22, zaah, zaap (P := PP) nf3, zaat (P := PP) nf3]; kernel_rfl
theorem zbbf (lf d : Nat) (k : KT) : ∀ fu : Nat, zaoj lf d (evC lf d) k fu = zbbr lf d fu k
 | 0 => by funext x0 x1 x2 x6 x7 x8 x9 x17 x25 x35 x36 x37 x38 x54 x55 x56; kernel_rfl
 | fu + 1 => by
  have ih := zbbf lf d k fu
  funext x0 x1 x2 x6 x7 x8 x9 x17 x25 x35 x36 x37 x38 x54 x55 x56; simp only [zaoj, ih, zaag, zaal (P := PP) zbno, zaax (P := PP) Tryz.underlying22 gs3, zaax (P := PP) Tryz.underlying70 gs72, zaaj (P := PP) ga22, zaaj (P := PP) ga3, zaaj (P := PP) ga72, zaah, zaap (P := PP) nf3, zaat (P := PP) nf3, zato (P := PP) nf3]; kernel_rfl
set_option maxRecDepth 20000 in
theorem zboi (lf d : Nat) : zavf lf d (evC lf d) (zamq lf d) = zamq lf d := by
  unfold zavf
  refine Eq.trans (zaba ?_) ?_
  · exact (zaam _ _ _ (by intro y0 y1 y2 y6 y7 y8 y9 y17 y25 y35 y36 y37 y38 y54 y55 y56 y57; show _ = _; (try simp only [zaag, zaah]); kernel_rfl))
  rfl
set_option maxRecDepth 20000 in
theorem zboo (lf d : Nat) : zauy lf d (evC lf d) (zams lf d) = zams lf d := by
  unfold zauy
  refine Eq.trans (zaba ?_) ?_
  · exact (zaam _ _ _ (by intro y0 y1 y2 y6 y7 y8 y9 y17 y25 y35 y36 y37 y38; show _ = _; (try simp only [zboi lf d, zbbf, zaag, zaah]); kernel_rfl))
  rfl
theorem zbov (lf d : Nat) (a0 a1 a2 : Value) : inside (zaxz lf d (evC lf d) a0 a1 a2) = evC lf (d + 1) 11 #[a0, a1, a2] := by
 unfold zaxz; (try simp only [zboo lf d, zbcl, az67, zaag, zaal (P := PP) zbmk, zaal (P := PP) zbno, zaaj (P := PP) ga22, zaaj (P := PP) ga65, zafe (P := PP) gs67, zaah, zabc (P := PP) Tryz.underlying27, zabg (P := PP) nf29]); kernel_rfl

noncomputable def zbfn (lf d fu : Nat) (k : KT) (x0 x1 x4 x5 x6 x7 x8 x23 x35 x36 x37 : Value) : M Value := loopK (fun s1 k1 => codeK PP (evC lf d) (gtA 12) lf (codeAt (bodyOf PP 12) [true, true, true, true, false, true, false, false]) s1 k1) [0, 1, 4, 5, 6, 7, 8, 23, 35, 36, 37] fu [(0, x0), (1, x1), (4, x4), (5, x5), (6, x6), (7, x7), (8, x8), (23, x23), (35, x35), (36, x36), (37, x37)] k
noncomputable def zaoh (lf d : Nat) : KT := contAt PP (evC lf d) (gtA 12) lf (bodyOf PP 12) [true, true, true, true, false, true, false] (endK PP (resOf PP 12))
noncomputable def zaqr (lf d : Nat) (rec : RT) (k : KT) : Nat → Value → Value → Value → Value → Value → Value → Value → Value → Value → Value → Value → M Value
 | 0, _, _, _, _, _, _, _, _, _, _, _ => M.fail
 | fu + 1, x0, x1, x4, x5, x6, x7, x8, x23, x35, x36, x37 =>
  optK (q_lss PP 3 x37 x36) fun v38n18 =>
  ifV v38n18 (
   optK (evIA3 PP 65 1 x35 x37) fun v39n19 =>
   insB (zaai PP 22 v39n19) fun v40n20 =>
   (inside (rec 42 #[v40n20])).bind fun v43n21 =>
   optK (evExtract v43n21 0) fun v44n22 =>
   optK (evExtract v43n21 1) fun v45n23 =>
   optK (q_add PP 3 x8 v44n22) fun v48n24 =>
   optK (q_add PP 3 x37 (Value.int .i64 1)) fun v49n25 =>
   zaqr lf d rec k fu x0 x1 x4 x5 x6 x7 v48n24 x23 x35 x36 v49n25) (
   k (Ex.exit 0) [(0, x0), (1, x1), (4, x4), (5, x5), (6, x6), (7, x7), (8, x8), (23, x23), (35, x35), (36, x36), (37, x37), (38, v38n18)])
noncomputable def zaym (lf d : Nat) (rec : RT) (dflt : KT) : KT := (kEx 0 (runCur [0, 1, 4, 5, 6, 7, 8, 23, 35, 36, 37, 38] (fun y0 y1 y4 y5 y6 y7 y8 y23 y35 y36 y37 y38 =>
 insB (zats PP 67 2 y6) fun v52n26 =>
 (inside (rec 43 #[y0, v52n26])).bind fun v53n27 =>
 optK (evExtract v53n27 0) fun v54n28 =>
 optK (evExtract v53n27 1) fun v55n29 =>
 optK (q_add PP 3 y8 v54n28) fun v58n30 =>
 outK [v58n30, (Value.int .i64 0)]) (dflt (Ex.exit 0))) dflt)
noncomputable def zbaz (lf d : Nat) (rec : RT) (a0 a1 : Value) : M Value :=
 (inside (rec 36 #[a0, a1])).bind fun v19n1 =>
 optK (evExtract v19n1 0) fun v20n2 =>
 optK (evExtract v19n1 1) fun v21n3 =>
 insB (evAllocZ 67 [Value.slice none 0 0, Value.slice none 0 0]) fun v6n4 =>
 insB (zadg PP 67 2 v6n4 v20n2) fun u5 =>
 optK (q_neq PP 29 v21n3 (Value.int .i64 0)) fun v23n6 =>
 ifV v23n6 (
  outK [(Value.int .i64 0), v21n3]) (
  optK (evFA3 PP 67 1 v6n4 1) fun v26n7 =>
  insB (zaai PP 22 v26n7) fun v27n8 =>
  optK (evFA3 PP 67 0 v6n4 0) fun v28n9 =>
  insB (zaai PP 65 v28n9) fun v29n10 =>
  optK (len2 PP #[65] [v29n10]) fun v30n11 =>
  (inside (rec 41 #[v27n8, v30n11])).bind fun v31n12 =>
  optK (evExtract v31n12 0) fun v32n13 =>
  optK (evExtract v31n12 1) fun v33n14 =>
  optK (evFA3 PP 67 0 v6n4 0) fun v34n15 =>
  insB (zaai PP 65 v34n15) fun v35n16 =>
  optK (len2 PP #[65] [v35n16]) fun v36n17 =>
  zaqr lf d rec (zaym lf d rec (zaoh lf d)) lf a0 a1 (Value.int .i64 0) (Value.int .i64 0) v6n4 v21n3 v32n13 v23n6 v35n16 v36n17 (Value.int .i64 0))
theorem zbfg (lf d : Nat) (k : KT) : ∀ fu : Nat, zaqr lf d (evC lf d) k fu = zbfn lf d fu k
 | 0 => by funext x0 x1 x4 x5 x6 x7 x8 x23 x35 x36 x37; kernel_rfl
 | fu + 1 => by
  have ih := zbfg lf d k fu
  funext x0 x1 x4 x5 x6 x7 x8 x23 x35 x36 x37; simp only [zaqr, ih, zaag, zaax (P := PP) Tryz.underlying65 gs22, zaaj (P := PP) ga22, zaah, zaap (P := PP) nf3, zaat (P := PP) nf3]; kernel_rfl
set_option maxRecDepth 20000 in
theorem zbrb (lf d : Nat) : zaym lf d (evC lf d) (zaoh lf d) = zaoh lf d := by
  unfold zaym
  refine Eq.trans (zaba ?_) ?_
  · exact (zaam _ _ _ (by intro y0 y1 y4 y5 y6 y7 y8 y23 y35 y36 y37 y38; show _ = _; (try simp only [zaag, zauc (P := PP) ga67 gs67, zaah, zaap (P := PP) nf3]); kernel_rfl))
  rfl
theorem zbrh (lf d : Nat) (a0 a1 : Value) : inside (zbaz lf d (evC lf d) a0 a1) = evC lf (d + 1) 12 #[a0, a1] := by
 unfold zbaz; (try simp only [zbrb lf d, zbfg, az67, zaag, zaal (P := PP) zbmk, zaal (P := PP) zbno, zaaj (P := PP) ga22, zaaj (P := PP) ga65, zafe (P := PP) gs67, zaah, zabg (P := PP) nf29]); kernel_rfl

noncomputable def zanp (lf d : Nat) (rec : RT) (a0 : Value) : M Value :=
 optK (zacg PP 27 a0 (Value.pointer none)) fun v4n1 =>
 ifV v4n1 (
  outK [(Value.int .i64 0)]) (
  optK (nil2 a0) fun v6n2 =>
  optK (evFA3 PP 63 2 v6n2 2) fun v7n3 =>
  insB (zaai PP 3 v7n3) fun v8n4 =>
  outK [v8n4])
theorem zbge (lf d : Nat) (a0 : Value) : inside (zanp lf d (evC lf d) a0) = evC lf (d + 1) 14 #[a0] := by
 unfold zanp; (try simp only [zaag, zaal (P := PP) zbtg, zaaj (P := PP) ga3, zaah, zabc (P := PP) Tryz.underlying27]); kernel_rfl

noncomputable def zasg (lf d fu : Nat) (k : KT) (x0 : Value) : M Value := loopK (fun s1 k1 => codeK PP (evC lf d) (gtA 16) lf (codeAt (bodyOf PP 16) [false, false]) s1 k1) [0] fu [(0, x0)] k
noncomputable def zahd (lf d : Nat) : KT := contAt PP (evC lf d) (gtA 16) lf (bodyOf PP 16) [false] (endK PP (resOf PP 16))
noncomputable def zahx (lf d : Nat) (rec : RT) (k : KT) : Nat → Value → M Value
 | 0, _ => M.fail
 | fu + 1, x0 =>
  optK (zbig PP 27 x0 (Value.pointer none)) fun v3n1 =>
  ifV v3n1 (
   optK (nil2 x0) fun v6n2 =>
   optK (evFA3 PP 63 2 v6n2 2) fun v7n3 =>
   insB (zaai PP 3 v7n3) fun v8n4 =>
   optK (q_rem PP 3 v8n4 (Value.int .i64 8)) fun v9n5 =>
   optK (q_neq PP 3 v9n5 (Value.int .i64 0)) fun v10n6 =>
   ifV v10n6 (
    (inside (rec 35 #[x0, (Value.int .u8 0)])).bind fun v13n7 =>
    zahx lf d rec k fu x0) (
    k (Ex.exit 0) [(0, x0), (11, v10n6)])) (
   k (Ex.exit 0) [(0, x0), (11, (Value.bool false))])
noncomputable def zama (lf d : Nat) (rec : RT) (dflt : KT) : KT := (kEx 0 (runCur [0, 11] (fun y0 y11 =>
 outK []) (dflt (Ex.exit 0))) dflt)
noncomputable def zanl (lf d : Nat) (rec : RT) (a0 : Value) : M Value :=
 zahx lf d rec (zama lf d rec (zahd lf d)) lf a0
theorem zasa (lf d : Nat) (k : KT) : ∀ fu : Nat, zahx lf d (evC lf d) k fu = zasg lf d fu k
 | 0 => by funext x0; kernel_rfl
 | fu + 1 => by
  have ih := zasa lf d k fu
  funext x0; simp only [zahx, ih, zaag, zaal (P := PP) zbtg, zaaj (P := PP) ga3, zaah, zbhw (P := PP) Tryz.underlying27, zabg (P := PP) nf3, zbkr (P := PP) nf3]; kernel_rfl
set_option maxRecDepth 20000 in
theorem zbgm (lf d : Nat) : zama lf d (evC lf d) (zahd lf d) = zahd lf d := by
  unfold zama
  refine Eq.trans (zaba ?_) ?_
  · exact (zaam _ _ _ (by intro y0 y11; show _ = _; (try simp only [zaag, zaah]); kernel_rfl))
  rfl
theorem zbft (lf d : Nat) (a0 : Value) : inside (zanl lf d (evC lf d) a0) = evC lf (d + 1) 16 #[a0] := by
 unfold zanl; (try simp only [zbgm lf d, zasa, zaag, zaah]); kernel_rfl

noncomputable def zamc (lf d : Nat) (rec : RT) (a0 : Value) : M Value :=
 optK (zacg PP 27 a0 (Value.pointer none)) fun v5n1 =>
 ifV v5n1 (
  outK [(Value.string { data := #[] })]) (
  optK (nil2 a0) fun v7n2 =>
  optK (evFA3 PP 63 0 v7n2 0) fun v8n3 =>
  insB (zaai PP 61 v8n3) fun v9n4 =>
  insB (zbkm v9n4) fun v10n5 =>
  optK (nil2 a0) fun v12n6 =>
  optK (evFA3 PP 63 0 v12n6 0) fun v13n7 =>
  insB (zaaq PP 61 v13n7 (Value.slice none 0 0)) fun u8 =>
  outK [v10n5])
theorem zbdi (lf d : Nat) (a0 : Value) : inside (zamc lf d (evC lf d) a0) = evC lf (d + 1) 17 #[a0] := by
 unfold zamc; (try simp only [zaag, zaal (P := PP) zcdu, zaaj (P := PP) ga61, zaao (P := PP) gs61, zbus, zaah, zabc (P := PP) Tryz.underlying27]); kernel_rfl

noncomputable def zaox (lf d : Nat) (rec : RT) (a0 : Value) : M Value :=
 insB (evBuildZ PP 85 [Value.string ⟨⟨[]⟩⟩, Value.int .i64 0, Value.int .i64 0] [(0, a0)]) fun v4n1 =>
 insB (zagy PP 85 v4n1) fun v5n2 =>
 outK [v5n2]
theorem zbid (lf d : Nat) (a0 : Value) : inside (zaox lf d (evC lf d) a0) = evC lf (d + 1) 20 #[a0] := by
 unfold zaox; (try simp only [bz85, zaag, zafd, zaah]); kernel_rfl

noncomputable def zalo (lf d : Nat) (rec : RT) (a0 a1 : Value) : M Value :=
 optK (zacg PP 42 a0 (Value.pointer none)) fun v7n1 =>
 ifV v7n1 (
  outK [(Value.int .i64 7)]) (
  optK (nil2 a0) fun v11n2 =>
  optK (evFA3 PP 85 1 v11n2 1) fun v12n3 =>
  insB (zaai PP 3 v12n3) fun v13n4 =>
  optK (q_mul PP 3 (Value.int .i64 8) v13n4) fun v14n5 =>
  optK (q_lss PP 3 a1 v14n5) fun v15n6 =>
  ifV v15n6 (
   outK [(Value.int .i64 1)]) (
   (inside (rec 51 #[a0])).bind fun v19n7 =>
   optK (q_gtr PP 3 a1 v19n7) fun v20n8 =>
   ifV v20n8 (
    outK [(Value.int .i64 1)]) (
    optK (nil2 a0) fun v24n9 =>
    optK (evFA3 PP 85 2 v24n9 2) fun v25n10 =>
    insB (zaaq PP 3 v25n10 a1) fun u11 =>
    outK [(Value.int .i64 0)])))
theorem zbct (lf d : Nat) (a0 a1 : Value) : inside (zalo lf d (evC lf d) a0 a1) = evC lf (d + 1) 21 #[a0, a1] := by
 unfold zalo; (try simp only [zaag, zaal (P := PP) zbta, zaal (P := PP) zbmq, zaaj (P := PP) ga3, zaao (P := PP) gs3, zaah, zabc (P := PP) Tryz.underlying42, zacq (P := PP) nf3, zaat (P := PP) nf3, zain (P := PP) nf3]); kernel_rfl

noncomputable def zbaj (lf d : Nat) (rec : RT) (a0 a1 a2 : Value) : M Value :=
 optK (zacg PP 42 a0 (Value.pointer none)) fun v13n1 =>
 ifV v13n1 (
  outK [(Value.slice none 0 0), (Value.int .i64 7)]) (
  (inside (rec 28 #[a1])).bind fun v16n2 =>
  optK (evExtract v16n2 0) fun v17n3 =>
  optK (evExtract v16n2 1) fun v18n4 =>
  optK (q_neq PP 29 v18n4 (Value.int .i64 0)) fun v20n5 =>
  ifV v20n5 (
   outK [(Value.slice none 0 0), (Value.int .i64 1)]) (
   optK (q_lss PP 3 a2 (Value.int .i64 0)) fun v23n6 =>
   ifV v23n6 (
    outK [(Value.slice none 0 0), (Value.int .i64 1)]) (
    (inside (rec 24 #[a0])).bind fun v26n7 =>
    (inside (rec 52 #[v17n3, a0, a2])).bind fun v31n8 =>
    optK (evExtract v31n8 0) fun v32n9 =>
    optK (evExtract v31n8 1) fun v33n10 =>
    optK (q_neq PP 29 v33n10 (Value.int .i64 0)) fun v35n11 =>
    ifV v35n11 (
     (inside (rec 21 #[a0, v26n7])).bind fun v38n12 =>
     outK [v32n9, v33n10]) (
     outK [v32n9, v33n10]))))
theorem zbrc (lf d : Nat) (a0 a1 a2 : Value) : inside (zbaj lf d (evC lf d) a0 a1 a2) = evC lf (d + 1) 22 #[a0, a1, a2] := by
 unfold zbaj; (try simp only [zaag, zaah, zabc (P := PP) Tryz.underlying42, zaat (P := PP) nf3, zabg (P := PP) nf29]); kernel_rfl

noncomputable def zaoo (lf d : Nat) (rec : RT) (a0 : Value) : M Value :=
 optK (zacg PP 42 a0 (Value.pointer none)) fun v4n1 =>
 ifV v4n1 (
  outK [(Value.int .i64 0)]) (
  optK (nil2 a0) fun v6n2 =>
  optK (evFA3 PP 85 2 v6n2 2) fun v7n3 =>
  insB (zaai PP 3 v7n3) fun v8n4 =>
  outK [v8n4])
theorem zbhx (lf d : Nat) (a0 : Value) : inside (zaoo lf d (evC lf d) a0) = evC lf (d + 1) 24 #[a0] := by
 unfold zaoo; (try simp only [zaag, zaal (P := PP) zbmq, zaaj (P := PP) ga3, zaah, zabc (P := PP) Tryz.underlying42]); kernel_rfl

noncomputable def zadx (lf d fu : Nat) (k : KT) (x0 x1 x4 x10 x12 x13 : Value) : M Value := loopK (fun s1 k1 => codeK PP (evC lf d) (gtA 27) lf (codeAt (bodyOf PP 27) [true, true, false, true, false, false]) s1 k1) [0, 1, 4, 10, 12, 13] fu [(0, x0), (1, x1), (4, x4), (10, x10), (12, x12), (13, x13)] k
noncomputable def zabx (lf d : Nat) : KT := contAt PP (evC lf d) (gtA 27) lf (bodyOf PP 27) [true, true, false, true, false] (endK PP (resOf PP 27))
noncomputable def zaia (lf d : Nat) (rec : RT) (k : KT) : Nat → Value → Value → Value → Value → Value → Value → M Value
 | 0, _, _, _, _, _, _ => M.fail
 | fu + 1, x0, x1, x4, x10, x12, x13 =>
  optK (q_lss PP 3 x13 x12) fun v14n5 =>
  ifV v14n5 (
   optK (evIA3 PP 22 1 x0 x13) fun v18n6 =>
   insB (zaai PP 3 v18n6) fun v19n7 =>
   optK (evIA3 PP 22 1 x1 x13) fun v22n8 =>
   insB (zaai PP 3 v22n8) fun v23n9 =>
   optK (q_neq PP 3 v19n7 v23n9) fun v24n10 =>
   ifV v24n10 (
    k Ex.ret [(0, x0), (1, x1), (4, (Value.bool false)), (5, x13), (10, x10), (12, x12), (13, x13), (14, v14n5), (24, v24n10)]) (
    optK (q_add PP 3 x13 (Value.int .i64 1)) fun v25n11 =>
    zaia lf d rec k fu x0 x1 x4 x10 x12 v25n11)) (
   k (Ex.exit 0) [(0, x0), (1, x1), (4, x4), (10, x10), (12, x12), (13, x13), (14, v14n5)])
noncomputable def zaln (lf d : Nat) (rec : RT) (dflt : KT) : KT := (kEx 0 (runCur [0, 1, 4, 10, 12, 13, 14] (fun y0 y1 y4 y10 y12 y13 y14 =>
 outK [(Value.bool true)]) (dflt (Ex.exit 0))) (kRt (runCur [0, 1, 4, 5, 10, 12, 13, 14, 24] (fun y0 y1 y4 y5 y10 y12 y13 y14 y24 =>
 outK [y4]) (dflt Ex.ret)) dflt))
noncomputable def zanj (lf d : Nat) (rec : RT) (a0 a1 : Value) : M Value :=
 optK (len2 PP #[22] [a0]) fun v7n1 =>
 optK (len2 PP #[22] [a1]) fun v9n2 =>
 optK (q_neq PP 3 v7n1 v9n2) fun v10n3 =>
 ifV v10n3 (
  outK [(Value.bool false)]) (
  optK (len2 PP #[22] [a0]) fun v12n4 =>
  zaia lf d rec (zaln lf d rec (zabx lf d)) lf a0 a1 (Value.bool false) v10n3 v12n4 (Value.int .i64 0))
theorem zaru (lf d : Nat) (k : KT) : ∀ fu : Nat, zaia lf d (evC lf d) k fu = zadx lf d fu k
 | 0 => by funext x0 x1 x4 x10 x12 x13; kernel_rfl
 | fu + 1 => by
  have ih := zaru lf d k fu
  funext x0 x1 x4 x10 x12 x13; simp only [zaia, ih, zaag, zaax (P := PP) Tryz.underlying22 gs3, zaaj (P := PP) ga3, zaah, zaap (P := PP) nf3, zaat (P := PP) nf3, zabg (P := PP) nf3]; kernel_rfl
set_option maxRecDepth 20000 in
theorem zbgu (lf d : Nat) : zaln lf d (evC lf d) (zabx lf d) = zabx lf d := by
  unfold zaln
  refine Eq.trans (zaba ?_) ?_
  · exact (zaam _ _ _ (by intro y0 y1 y4 y10 y12 y13 y14; show _ = _; (try simp only [zaag, zaah]); kernel_rfl))
  refine Eq.trans (zant ?_) ?_
  · exact (zaam _ _ _ (by intro y0 y1 y4 y5 y10 y12 y13 y14 y24; show _ = _; (try simp only [zaag, zaah]); kernel_rfl))
  rfl
theorem zbgb (lf d : Nat) (a0 a1 : Value) : inside (zanj lf d (evC lf d) a0 a1) = evC lf (d + 1) 27 #[a0, a1] := by
 unfold zanj; (try simp only [zbgu lf d, zaru, zaag, zaah, zabg (P := PP) nf3]); kernel_rfl

noncomputable def zaoq (lf d : Nat) (rec : RT) (a0 : Value) : M Value :=
 (inside (rec 56 #[a0])).bind fun v8n1 =>
 optK (evExtract v8n1 0) fun v9n2 =>
 optK (evExtract v8n1 1) fun v10n3 =>
 optK (q_neq PP 29 v10n3 (Value.int .i64 0)) fun v12n4 =>
 ifV v12n4 (
  outK [(Value.pointer none), v10n3]) (
  (inside (rec 57 #[])).bind fun v15n5 =>
  insB (evBuildZ PP 100 [Value.int .i64 0, Value.pointer none, Value.slice none 0 0, Value.pointer none, Value.slice none 0 0, Value.int .i64 0, Value.bool false, Value.int .i64 0] [(0, a0), (1, v15n5), (3, v9n2)]) fun v17n6 =>
  insB (zagy PP 100 v17n6) fun v18n7 =>
  outK [v18n7, (Value.int .i64 0)])
theorem zbii (lf d : Nat) (a0 : Value) : inside (zaoq lf d (evC lf d) a0) = evC lf (d + 1) 28 #[a0] := by
 unfold zaoq; (try simp only [bz100, zaag, zafd, zaah, zabg (P := PP) nf29]); kernel_rfl

noncomputable def zalm (lf d : Nat) (rec : RT) (a0 a1 : Value) : M Value :=
 optK (zacg PP 54 a0 (Value.pointer none)) fun v11n1 =>
 ifV v11n1 (
  outK [(Value.int .i64 0), (Value.int .i64 7)]) (
  optK (zacg PP 42 a1 (Value.pointer none)) fun v14n2 =>
  ifV v14n2 (
   outK [(Value.int .i64 0), (Value.int .i64 7)]) (
   optK (nil2 a0) fun v18n3 =>
   optK (evFA3 PP 100 6 v18n3 6) fun v19n4 =>
   insB (zaai PP 4 v19n4) fun v20n5 =>
   ifV v20n5 (
    outK [(Value.int .i64 0), (Value.int .i64 7)]) (
    optK (nil2 a0) fun v24n6 =>
    optK (evFA3 PP 100 7 v24n6 7) fun v25n7 =>
    insB (zaai PP 29 v25n7) fun v26n8 =>
    optK (q_neq PP 29 v26n8 (Value.int .i64 0)) fun v27n9 =>
    ifV v27n9 (
     optK (nil2 a0) fun v29n10 =>
     optK (evFA3 PP 100 7 v29n10 7) fun v30n11 =>
     insB (zaai PP 29 v30n11) fun v31n12 =>
     outK [(Value.int .i64 0), v31n12]) (
     optK (nil2 a0) fun v36n13 =>
     optK (evFA3 PP 100 1 v36n13 1) fun v37n14 =>
     insB (zaai PP 97 v37n14) fun v38n15 =>
     (inside (rec 59 #[v38n15])).bind fun v39n16 =>
     optK (un3 PP .not v39n16) fun v40n17 =>
     ifV v40n17 (
      callV PP rec (Value.func (Go.Fn.func 60) #[a0] #[]) [a1] fun v60n18 =>
      optK (evExtract v60n18 0) fun v61n19 =>
      optK (evExtract v60n18 1) fun v62n20 =>
      optK (q_eql PP 29 v62n20 (Value.int .i64 0)) fun v64n21 =>
      ifV v64n21 (
       outK [v61n19, v62n20]) (
       optK (q_neq PP 29 v62n20 (Value.int .i64 3)) fun v68n22 =>
       ifV v68n22 (
        optK (nil2 a0) fun v71n23 =>
        optK (evFA3 PP 100 7 v71n23 7) fun v72n24 =>
        insB (zaaq PP 29 v72n24 v62n20) fun u25 =>
        outK [(Value.int .i64 0), v62n20]) (
        outK [(Value.int .i64 0), v62n20]))) (
      optK (nil2 a0) fun v45n26 =>
      optK (evFA3 PP 100 4 v45n26 4) fun v46n27 =>
      (timed (
       insB (zaai PP 70 v46n27) fun v47n29 => M.ret v47n29)).bind fun vtn28 =>
      optK (len2 PP #[70] [vtn28.1]) fun v48n30 =>
      optK (nil2 a0) fun v50n31 =>
      optK (evFA3 PP 100 1 v50n31 1) fun v51n32 =>
      (timed (
       insB (zaai PP 97 v51n32) fun v52n34 => M.ret v52n34)).bind fun vtn33 =>
      (timed (
       (inside (rec 61 #[vtn33.1])).bind fun v53n36 => M.ret v53n36)).bind fun vtn35 =>
      optK (q_lss PP 3 v48n30 vtn35.1) fun v54n37 =>
      chkT ((!(zauw vtn28.2 vtn35.2) && true) && true) (
       ifV v54n37 (
        callV PP rec (Value.func (Go.Fn.func 62) #[a0] #[]) [a1] fun v60n38 =>
        optK (evExtract v60n38 0) fun v61n39 =>
        optK (evExtract v60n38 1) fun v62n40 =>
        optK (q_eql PP 29 v62n40 (Value.int .i64 0)) fun v64n41 =>
        ifV v64n41 (
         outK [v61n39, v62n40]) (
         optK (q_neq PP 29 v62n40 (Value.int .i64 3)) fun v68n42 =>
         ifV v68n42 (
          optK (nil2 a0) fun v71n43 =>
          optK (evFA3 PP 100 7 v71n43 7) fun v72n44 =>
          insB (zaaq PP 29 v72n44 v62n40) fun u45 =>
          outK [(Value.int .i64 0), v62n40]) (
          outK [(Value.int .i64 0), v62n40]))) (
        callV PP rec (Value.func (Go.Fn.func 58) #[a0] #[]) [a1] fun v60n46 =>
        optK (evExtract v60n46 0) fun v61n47 =>
        optK (evExtract v60n46 1) fun v62n48 =>
        optK (q_eql PP 29 v62n48 (Value.int .i64 0)) fun v64n49 =>
        ifV v64n49 (
         outK [v61n47, v62n48]) (
         optK (q_neq PP 29 v62n48 (Value.int .i64 3)) fun v68n50 =>
         ifV v68n50 (
          optK (nil2 a0) fun v71n51 =>
          optK (evFA3 PP 100 7 v71n51 7) fun v72n52 =>
          insB (zaaq PP 29 v72n52 v62n48) fun u53 =>
          outK [(Value.int .i64 0), v62n48]) (
          outK [(Value.int .i64 0), v62n48])))))))))
theorem zbdr (lf d : Nat) (a0 a1 : Value) : inside (zalm lf d (evC lf d) a0 a1) = evC lf (d + 1) 30 #[a0, a1] := by
 unfold zalm; (try simp only [zaag, zaal (P := PP) zbyj, zaal (P := PP) zbpj, zaal (P := PP) zbop, zaal (P := PP) zcid, zaaj (P := PP) ga29, zaaj (P := PP) ga4, zaaj (P := PP) ga70, zaaj (P := PP) ga97, zaao (P := PP) gs29, zaah, zabc (P := PP) Tryz.underlying42, zabc (P := PP) Tryz.underlying54, zabk (P := PP) nf29, zaat (P := PP) nf3, zabg (P := PP) nf29, zack]); kernel_rfl

noncomputable def zbaw (lf d : Nat) (rec : RT) (a0 a1 : Value) : M Value :=
 optK (q_geq PP 3 a1 (Value.int .i64 0)) fun v6n1 =>
 ifV v6n1 (
  optK (q_leq PP 3 a1 (Value.int .i64 32)) fun v9n2 =>
  ifV v9n2 (
   conv3 PP 23 60 .u32 .u64 a0 fun v13n3 =>
   optK (q_shr PP 60 v13n3 a1) fun v15n4 =>
   optK (q_eql PP 60 v15n4 (Value.int .u64 0)) fun v16n5 =>
   outK [v16n5]) (
   outK [(Value.bool false)])) (
  outK [(Value.bool false)])
theorem zbro (lf d : Nat) (a0 a1 : Value) : inside (zbaw lf d (evC lf d) a0 a1) = evC lf (d + 1) 34 #[a0, a1] := by
 unfold zbaw; (try simp only [zaag, zade zchl, zaah, zabk (P := PP) nf60, zadp (P := PP) nf3, zafx (P := PP) nf3, zalq (P := PP) nf60]); kernel_rfl

noncomputable def zanf (lf d : Nat) (rec : RT) (a0 a1 : Value) : M Value :=
 optK (nil2 a0) fun v6n1 =>
 optK (evFA3 PP 63 2 v6n1 2) fun v7n2 =>
 insB (zaai PP 3 v7n2) fun v8n3 =>
 optK (q_rem PP 3 v8n3 (Value.int .i64 8)) fun v9n4 =>
 optK (nil2 a0) fun v11n5 =>
 optK (evFA3 PP 63 1 v11n5 1) fun v12n6 =>
 insB (zaai PP 5 v12n6) fun v13n7 =>
 optK (q_sub PP 3 (Value.int .i64 7) v9n4) fun v16n8 =>
 optK (q_shl PP 5 a1 v16n8) fun v17n9 =>
 optK (q_or PP 5 v13n7 v17n9) fun v18n10 =>
 optK (nil2 a0) fun v19n11 =>
 optK (evFA3 PP 63 1 v19n11 1) fun v20n12 =>
 insB (zaaq PP 5 v20n12 v18n10) fun u13 =>
 optK (nil2 a0) fun v22n14 =>
 optK (evFA3 PP 63 2 v22n14 2) fun v23n15 =>
 insB (zaai PP 3 v23n15) fun v24n16 =>
 optK (q_add PP 3 v24n16 (Value.int .i64 1)) fun v25n17 =>
 optK (nil2 a0) fun v26n18 =>
 optK (evFA3 PP 63 2 v26n18 2) fun v27n19 =>
 insB (zaaq PP 3 v27n19 v25n17) fun u20 =>
 optK (q_eql PP 3 v9n4 (Value.int .i64 7)) fun v29n21 =>
 ifV v29n21 (
  optK (nil2 a0) fun v32n22 =>
  optK (evFA3 PP 63 0 v32n22 0) fun v33n23 =>
  insB (zaai PP 61 v33n23) fun v34n24 =>
  optK (nil2 a0) fun v36n25 =>
  optK (evFA3 PP 63 1 v36n25 1) fun v37n26 =>
  insB (zaai PP 5 v37n26) fun v38n27 =>
  insB (evBS3 PP 61 1 [(0, v38n27)]) fun v39n28 =>
  insB (zach PP 61 v34n24 v39n28) fun v40n29 =>
  optK (nil2 a0) fun v41n30 =>
  optK (evFA3 PP 63 0 v41n30 0) fun v42n31 =>
  insB (zaaq PP 61 v42n31 v40n29) fun u32 =>
  optK (nil2 a0) fun v44n33 =>
  optK (evFA3 PP 63 1 v44n33 1) fun v45n34 =>
  insB (zaaq PP 5 v45n34 (Value.int .u8 0)) fun u35 =>
  outK []) (
  outK [])
theorem zbgf (lf d : Nat) (a0 a1 : Value) : inside (zanf lf d (evC lf d) a0 a1) = evC lf (d + 1) 35 #[a0, a1] := by
 unfold zanf; (try simp only [zaag, zacd, zaeh, zaal (P := PP) zcdu, zaal (P := PP) zckm, zaal (P := PP) zbtg, zaaj (P := PP) ga3, zaaj (P := PP) ga5, zaaj (P := PP) ga61, zaao (P := PP) gs3, zaao (P := PP) gs5, zaao (P := PP) gs61, zaah, zaap (P := PP) nf3, zabk (P := PP) nf3, zbwr (P := PP) nf5, zbkr (P := PP) nf3, zbet (P := PP) nf5, zabd (P := PP) nf3]); kernel_rfl

noncomputable def zavr (lf d : Nat) (rec : RT) (a0 a1 : Value) : M Value :=
 insB (evAllocZ 67 [Value.slice none 0 0, Value.slice none 0 0]) fun v4n1 =>
 optK (len2 PP #[22] [a0]) fun v7n2 =>
 optK (q_eql PP 3 v7n2 (Value.int .i64 0)) fun v8n3 =>
 ifV v8n3 (
  insB (evBuildZ PP 67 [Value.slice none 0 0, Value.slice none 0 0] []) fun v19n4 =>
  insB (zadg PP 67 2 v4n1 v19n4) fun u5 =>
  (evLoad PP 67 v4n1).bind fun vrn6 =>
  outK [vrn6, (Value.int .i64 1)]) (
  optK (q_sub PP 3 a1 (Value.int .i64 1)) fun v12n7 =>
  (inside (rec 64 #[a0, v12n7])).bind fun v13n8 =>
  optK (len2 PP #[22] [a0]) fun v15n9 =>
  optK (q_sub PP 3 v15n9 (Value.int .i64 1)) fun v16n10 =>
  optK (q_neq PP 3 v13n8 v16n10) fun v17n11 =>
  ifV v17n11 (
   insB (evBuildZ PP 67 [Value.slice none 0 0, Value.slice none 0 0] []) fun v19n12 =>
   insB (zadg PP 67 2 v4n1 v19n12) fun u13 =>
   (evLoad PP 67 v4n1).bind fun vrn14 =>
   outK [vrn14, (Value.int .i64 1)]) (
   (inside (rec 65 #[a0, a1])).bind fun v22n15 =>
   optK (evExtract v22n15 0) fun v23n16 =>
   optK (evExtract v22n15 1) fun v24n17 =>
   insB (zadg PP 67 2 v4n1 v23n16) fun u18 =>
   (evLoad PP 67 v4n1).bind fun vrn19 =>
   outK [vrn19, v24n17]))
theorem zbme (lf d : Nat) (a0 a1 : Value) : inside (zavr lf d (evC lf d) a0 a1) = evC lf (d + 1) 36 #[a0, a1] := by
 unfold zavr; (try simp only [az67, bz67, zaag, zafe (P := PP) gs67, zaah, zabk (P := PP) nf3, zabg (P := PP) nf3, zabd (P := PP) nf3]); kernel_rfl

noncomputable def zazp (lf d fu : Nat) (k : KT) (x0 x1 x2 x6 x9 x12 x27 x28 x29 : Value) : M Value := loopK (fun s1 k1 => codeK PP (evC lf d) (gtA 37) lf (codeAt (bodyOf PP 37) [true, true, true, true, false, true, false, false]) s1 k1) [0, 1, 2, 6, 9, 12, 27, 28, 29] fu [(0, x0), (1, x1), (2, x2), (6, x6), (9, x9), (12, x12), (27, x27), (28, x28), (29, x29)] k
noncomputable def zakw (lf d : Nat) : KT := contAt PP (evC lf d) (gtA 37) lf (bodyOf PP 37) [true, true, true, true, false, true, false] (endK PP (resOf PP 37))
noncomputable def zamm (lf d : Nat) (rec : RT) (k : KT) : Nat → Value → Value → Value → Value → Value → Value → Value → Value → Value → M Value
 | 0, _, _, _, _, _, _, _, _, _ => M.fail
 | fu + 1, x0, x1, x2, x6, x9, x12, x27, x28, x29 =>
  optK (q_lss PP 3 x29 x28) fun v30n11 =>
  ifV v30n11 (
   optK (evIA3 PP 22 1 x27 x29) fun v31n12 =>
   insB (zaai PP 3 v31n12) fun v32n13 =>
   optK (q_add PP 3 v32n13 (Value.int .i64 1)) fun v35n14 =>
   optK (q_shl PP 23 (Value.int .u32 1) v35n14) fun v36n15 =>
   optK (q_sub PP 23 v36n15 (Value.int .u32 2)) fun v37n16 =>
   optK (q_add PP 3 v32n13 (Value.int .i64 1)) fun v39n17 =>
   (inside (rec 10 #[x0, v37n16, v39n17])).bind fun v40n18 =>
   optK (q_add PP 3 x29 (Value.int .i64 1)) fun v41n19 =>
   zamm lf d rec k fu x0 x1 x2 x6 x9 x12 x27 x28 v41n19) (
   k (Ex.exit 1) [(0, x0), (1, x1), (2, x2), (6, x6), (9, x9), (12, x12), (27, x27), (28, x28), (29, x29), (30, v30n11)])
noncomputable def zasx (lf d : Nat) (rec : RT) (dflt : KT) : KT := (kEx 1 (runCur [0, 1, 2, 6, 9, 12, 27, 28, 29, 30] (fun y0 y1 y2 y6 y9 y12 y27 y28 y29 y30 =>
 outK [(Value.int .i64 0)]) (dflt (Ex.exit 1))) dflt)
noncomputable def zavp (lf d : Nat) (rec : RT) (a0 a1 a2 : Value) : M Value :=
 optK (zacg PP 27 a0 (Value.pointer none)) fun v11n1 =>
 ifV v11n1 (
  outK [(Value.int .i64 7)]) (
  (inside (rec 66 #[a1, a2])).bind fun v15n2 =>
  optK (un3 PP .not v15n2) fun v16n3 =>
  ifV v16n3 (
   outK [(Value.int .i64 1)]) (
   conv3 PP 3 23 .i64 .u32 a2 fun v19n4 =>
   (inside (rec 10 #[a0, v19n4, (Value.int .i64 3)])).bind fun v20n5 =>
   optK (len2 PP #[22] [a1]) fun v23n6 =>
   conv3 PP 3 23 .i64 .u32 v23n6 fun v24n7 =>
   (inside (rec 10 #[a0, v24n7, (Value.int .i64 15)])).bind fun v25n8 =>
   (inside (rec 67 #[a1])).bind fun v27n9 =>
   optK (len2 PP #[22] [v27n9]) fun v28n10 =>
   zamm lf d rec (zasx lf d rec (zakw lf d)) lf a0 a1 a2 (Value.int .i64 0) v11n1 v16n3 v27n9 v28n10 (Value.int .i64 0)))
theorem zbag (lf d : Nat) (k : KT) : ∀ fu : Nat, zamm lf d (evC lf d) k fu = zazp lf d fu k
 | 0 => by funext x0 x1 x2 x6 x9 x12 x27 x28 x29; kernel_rfl
 | fu + 1 => by
  have ih := zbag lf d k fu
  funext x0 x1 x2 x6 x9 x12 x27 x28 x29; simp only [zamm, ih, zaag, zaax (P := PP) Tryz.underlying22 gs3, zaaj (P := PP) ga3, zaah, zaap (P := PP) nf3, zaat (P := PP) nf3, zbet (P := PP) nf23, zabd (P := PP) nf23]; kernel_rfl
set_option maxRecDepth 20000 in
theorem zbng (lf d : Nat) : zasx lf d (evC lf d) (zakw lf d) = zakw lf d := by
  unfold zasx
  refine Eq.trans (zaba ?_) ?_
  · exact (zaam _ _ _ (by intro y0 y1 y2 y6 y9 y12 y27 y28 y29 y30; show _ = _; (try simp only [zaag, zaah]); kernel_rfl))
  rfl
theorem zbly (lf d : Nat) (a0 a1 a2 : Value) : inside (zavp lf d (evC lf d) a0 a1 a2) = evC lf (d + 1) 37 #[a0, a1, a2] := by
 unfold zavp; (try simp only [zbng lf d, zbag, zaag, zade zbrz, zaah, zabc (P := PP) Tryz.underlying27, zack]); kernel_rfl

noncomputable def zave (lf d : Nat) (rec : RT) (a0 a1 : Value) : M Value :=
 insB (zagy PP 27 a0) fun v2n1 =>
 insB (zaai PP 27 v2n1) fun v6n2 =>
 optK (zacg PP 27 v6n2 (Value.pointer none)) fun v7n3 =>
 ifV v7n3 (
  outK [(Value.int .i64 7)]) (
  (inside (rec 68 #[a1])).bind fun v10n4 =>
  optK (un3 PP .not v10n4) fun v11n5 =>
  ifV v11n5 (
   outK [(Value.int .i64 1)]) (
   (inside (rec 69 #[a1, (Value.func (Go.Fn.func 70) #[] #[v2n1])])).bind fun v14n6 =>
   outK [(Value.int .i64 0)]))
theorem zbnc (lf d : Nat) (a0 a1 : Value) : inside (zave lf d (evC lf d) a0 a1) = evC lf (d + 1) 38 #[a0, a1] := by
 unfold zave; (try simp only [zaag, zafd, zaaj (P := PP) ga27, zaah, zabc (P := PP) Tryz.underlying27, zack]); kernel_rfl

noncomputable def zafu (lf d fu : Nat) (k : KT) (x0 x2 x3 x4 x5 x6 x9 x18 : Value) : M Value := loopK (fun s1 k1 => codeK PP (evC lf d) (gtA 39) lf (codeAt (bodyOf PP 39) [true, true, true, true, false, true, false, false]) s1 k1) [0, 2, 3, 4, 5, 6, 9, 18] fu [(0, x0), (2, x2), (3, x3), (4, x4), (5, x5), (6, x6), (9, x9), (18, x18)] k
noncomputable def zaej (lf d : Nat) : KT := contAt PP (evC lf d) (gtA 39) lf (bodyOf PP 39) [true, true, true, true, false, true, false] (endK PP (resOf PP 39))
noncomputable def zafy (lf d fu : Nat) (k : KT) (x0 x2 x3 x4 x5 x6 x9 x18 x30 x51 x52 x53 : Value) : M Value := loopK (fun s1 k1 => codeK PP (evC lf d) (gtA 39) lf (codeAt (bodyOf PP 39) [true, true, true, true, false, true, false, false, true, false, false, true, true, true, true, false, false]) s1 k1) [0, 2, 3, 4, 5, 6, 9, 18, 30, 51, 52, 53] fu [(0, x0), (2, x2), (3, x3), (4, x4), (5, x5), (6, x6), (9, x9), (18, x18), (30, x30), (51, x51), (52, x52), (53, x53)] k
noncomputable def zafr (lf d fu : Nat) (k : KT) : KT := contAt PP (evC lf d) (gtA 39) lf (codeAt (bodyOf PP 39) [true, true, true, true, false, true, false, false]) [true, false, false, true, true, true, true, false] (againK (fun s1 => loopK (fun s1 k1 => codeK PP (evC lf d) (gtA 39) lf (codeAt (bodyOf PP 39) [true, true, true, true, false, true, false, false]) s1 k1) [0, 2, 3, 4, 5, 6, 9, 18] fu (s1.keep [0, 2, 3, 4, 5, 6, 9, 18]) k) k)
noncomputable def zayz (lf d : Nat) (rec : RT) (dflt : KT) : KT := (kEx 1 (runCur [0, 2, 3, 4, 5, 6, 9, 18, 30] (fun y0 y2 y3 y4 y5 y6 y9 y18 y30 =>
 optK (nil2 y4) fun v84n30 =>
 optK (evFA3 PP 111 2 v84n30 2) fun v85n31 =>
 insB (zaai PP 22 v85n31) fun v86n32 =>
 optK (len2 PP #[22] [v86n32]) fun v87n33 =>
 optK (nil2 y4) fun v88n34 =>
 optK (evFA3 PP 111 24 v88n34 4) fun v89n35 =>
 optK (zaht PP 109 22 1 v89n35 (Value.int .i64 21)) fun v90n36 =>
 insB (zaaq PP 3 v90n36 v87n33) fun u37 =>
 outK [y4, (Value.int .i64 0)]) (dflt (Ex.exit 1))) dflt)
noncomputable def zalr (lf d : Nat) (rec : RT) (k : KT) : Nat → Value → Value → Value → Value → Value → Value → Value → Value → Value → Value → Value → Value → M Value
 | 0, _, _, _, _, _, _, _, _, _, _, _, _ => M.fail
 | fu + 1, x0, x2, x3, x4, x5, x6, x9, x18, x30, x51, x52, x53 =>
  optK (q_lss PP 3 x53 x52) fun v54n38 =>
  ifV v54n38 (
   optK (evIA3 PP 22 1 x51 x53) fun v56n39 =>
   insB (zaai PP 3 v56n39) fun v57n40 =>
   optK (q_eql PP 3 v57n40 x6) fun v60n41 =>
   ifV v60n41 (
    optK (nil2 x4) fun v62n42 =>
    optK (evFA3 PP 111 1 v62n42 1) fun v63n43 =>
    insB (zaai PP 107 v63n43) fun v64n44 =>
    conv3 PP 3 23 .i64 .u32 x5 fun v67n45 =>
    optK (evIA3 PP 107 1 v64n44 x53) fun v68n46 =>
    insB (zaaq PP 23 v68n46 v67n45) fun u47 =>
    optK (nil2 x4) fun v71n48 =>
    optK (evFA3 PP 111 2 v71n48 2) fun v72n49 =>
    insB (zaai PP 22 v72n49) fun v73n50 =>
    insB (evBS3 PP 22 1 [(0, x53)]) fun v75n51 =>
    insB (zach PP 22 v73n50 v75n51) fun v76n52 =>
    optK (nil2 x4) fun v77n53 =>
    optK (evFA3 PP 111 2 v77n53 2) fun v78n54 =>
    insB (zaaq PP 22 v78n54 v76n52) fun u55 =>
    optK (q_add PP 3 x5 (Value.int .i64 1)) fun v80n56 =>
    optK (q_add PP 3 x53 (Value.int .i64 1)) fun v81n57 =>
    zalr lf d rec k fu x0 x2 x3 x4 v80n56 x6 x9 x18 x30 x51 x52 v81n57) (
    optK (q_add PP 3 x53 (Value.int .i64 1)) fun v81n58 =>
    zalr lf d rec k fu x0 x2 x3 x4 x5 x6 x9 x18 x30 x51 x52 v81n58)) (
   k (Ex.exit 3) [(0, x0), (2, x2), (3, x3), (4, x4), (5, x5), (6, x6), (9, x9), (18, x18), (30, x30), (51, x51), (52, x52), (53, x53), (54, v54n38)])
noncomputable def zaxq (lf d : Nat) (rec : RT) (fu : Nat) (k : KT) (again : Value → Value → Value → Value → Value → Value → Value → Value → M Value) (dflt : KT) : KT := (kEx 3 (runCur [0, 2, 3, 4, 5, 6, 9, 18, 30, 51, 52, 53, 54] (fun y0 y2 y3 y4 y5 y6 y9 y18 y30 y51 y52 y53 y54 =>
 optK (q_add PP 3 y6 (Value.int .i64 1)) fun v32n59 =>
 again y0 y2 y3 y4 y5 v32n59 y9 y18) (dflt (Ex.exit 3))) dflt)
noncomputable def zarh (lf d : Nat) (rec : RT) (k : KT) : Nat → Value → Value → Value → Value → Value → Value → Value → Value → M Value
 | 0, _, _, _, _, _, _, _, _ => M.fail
 | fu + 1, x0, x2, x3, x4, x5, x6, x9, x18 =>
  optK (q_leq PP 3 x6 (Value.int .i64 20)) fun v30n15 =>
  ifV v30n15 (
   optK (q_mul PP 3 x5 (Value.int .i64 2)) fun v34n16 =>
   optK (nil2 x4) fun v38n17 =>
   optK (evFA3 PP 111 3 v38n17 3) fun v39n18 =>
   optK (zaht PP 108 21 1 v39n18 x6) fun v40n19 =>
   insB (zaaq PP 3 v40n19 v34n16) fun u20 =>
   optK (nil2 x4) fun v44n21 =>
   optK (evFA3 PP 111 2 v44n21 2) fun v45n22 =>
   insB (zaai PP 22 v45n22) fun v46n23 =>
   optK (len2 PP #[22] [v46n23]) fun v47n24 =>
   optK (nil2 x4) fun v48n25 =>
   optK (evFA3 PP 111 24 v48n25 4) fun v49n26 =>
   optK (zaht PP 109 22 1 v49n26 x6) fun v50n27 =>
   insB (zaaq PP 3 v50n27 v47n24) fun u28 =>
   optK (len2 PP #[22] [x0]) fun v52n29 =>
   zalr lf d rec (zaxq lf d rec fu k (zarh lf d rec k fu) (zafr lf d fu k)) lf x0 x2 x3 x4 v34n16 x6 x9 x18 v30n15 x0 v52n29 (Value.int .i64 0)) (
   k (Ex.exit 1) [(0, x0), (2, x2), (3, x3), (4, x4), (5, x5), (6, x6), (9, x9), (18, x18), (30, v30n15)])
noncomputable def zbah (lf d : Nat) (rec : RT) (a0 : Value) : M Value :=
 optK (len2 PP #[22] [a0]) fun v11n1 =>
 optK (q_lss PP 3 v11n1 (Value.int .i64 3)) fun v12n2 =>
 ifV v12n2 (
  outK [(Value.pointer none), (Value.int .i64 1)]) (
  optK (len2 PP #[22] [a0]) fun v15n3 =>
  optK (q_gtr PP 3 v15n3 (Value.int .i64 258)) fun v16n4 =>
  ifV v16n4 (
   outK [(Value.pointer none), (Value.int .i64 1)]) (
   (inside (rec 71 #[a0])).bind fun v20n5 =>
   optK (un3 PP .not v20n5) fun v21n6 =>
   ifV v21n6 (
    outK [(Value.pointer none), (Value.int .i64 22)]) (
    (timed (
     (inside (rec 72 #[a0])).bind fun v23n8 => M.ret v23n8)).bind fun vtn7 =>
    optK (len2 PP #[22] [a0]) fun v25n9 =>
    (timed (
     insB (zagt PP 107 v25n9 v25n9) fun v26n11 => M.ret v26n11)).bind fun vtn10 =>
    insB (evBuildZ PP 111 (appV [Value.slice none 0 0] (appV [Value.slice none 0 0] (appV [Value.slice none 0 0] (appV (repV (Value.int .i64 0) 21) (repV (Value.int .i64 0) 22))))) [(0, vtn7.1), (1, vtn10.1)]) fun v27n12 =>
    (timed (
     insB (zagy PP 111 v27n12) fun v28n14 => M.ret v28n14)).bind fun vtn13 =>
    chkT ((!(zauw vtn7.2 vtn10.2) && true) && true) (
     zarh lf d rec (zayz lf d rec (zaej lf d)) lf a0 (Value.pointer none) (Value.int .i64 0) vtn13.1 (Value.int .i64 0) (Value.int .i64 1) v16n4 v21n6))))
set_option maxRecDepth 20000 in
theorem zbrl (lf d : Nat) : zayz lf d (evC lf d) (zaej lf d) = zaej lf d := by
  unfold zayz
  refine Eq.trans (zaba ?_) ?_
  · exact (zaam _ _ _ (by intro y0 y2 y3 y4 y5 y6 y9 y18 y30; show _ = _; (try simp only [zaag, zaal (P := PP) zbjh, zaal (P := PP) zbpg, zago (P := PP) Tryz.underlying109 gs3, zaaj (P := PP) ga22, zaao (P := PP) gs3, zaah]); kernel_rfl))
  rfl
theorem zbfr (lf d : Nat) (k : KT) : ∀ fu : Nat, zalr lf d (evC lf d) k fu = zafy lf d fu k
 | 0 => by funext x0 x2 x3 x4 x5 x6 x9 x18 x30 x51 x52 x53; kernel_rfl
 | fu + 1 => by
  have ih := zbfr lf d k fu
  funext x0 x2 x3 x4 x5 x6 x9 x18 x30 x51 x52 x53; simp only [zalr, ih, zaag, zade zbrz, zacd, zaeh, zaal (P := PP) zbxo, zaal (P := PP) zbjh, zaax (P := PP) Tryz.underlying107 gs23, zaax (P := PP) Tryz.underlying22 gs3, zaaj (P := PP) ga107, zaaj (P := PP) ga22, zaaj (P := PP) ga3, zaao (P := PP) gs22, zaao (P := PP) gs23, zaah, zaap (P := PP) nf3, zabk (P := PP) nf3, zaat (P := PP) nf3]; kernel_rfl
set_option maxRecDepth 20000 in
theorem zbrj (lf d fu : Nat) (k : KT) (again : Value → Value → Value → Value → Value → Value → Value → Value → M Value) (ha : again = zafu lf d fu k) : zaxq lf d (evC lf d) fu k again (zafr lf d fu k) = zafr lf d fu k := by
  subst ha
  unfold zaxq
  refine Eq.trans (zaba ?_) ?_
  · exact (zaam _ _ _ (by intro y0 y2 y3 y4 y5 y6 y9 y18 y30 y51 y52 y53 y54; show _ = _; (try simp only [zaag, zaah, zaap (P := PP) nf3]); kernel_rfl))
  rfl
theorem zbfp (lf d : Nat) (k : KT) : ∀ fu : Nat, zarh lf d (evC lf d) k fu = zafu lf d fu k
 | 0 => by funext x0 x2 x3 x4 x5 x6 x9 x18; kernel_rfl
 | fu + 1 => by
  have ih := zbfp lf d k fu
  funext x0 x2 x3 x4 x5 x6 x9 x18; simp only [zarh, ih, zbrj lf d fu k _ rfl, zbfr, zaag, zaal (P := PP) zbjh, zaal (P := PP) zbwo, zaal (P := PP) zbpg, zago (P := PP) Tryz.underlying108 gs3, zago (P := PP) Tryz.underlying109 gs3, zaaj (P := PP) ga22, zaao (P := PP) gs3, zaah, zafx (P := PP) nf3, zain (P := PP) nf3]; kernel_rfl
theorem zbrs (lf d : Nat) (a0 : Value) : inside (zbah lf d (evC lf d) a0) = evC lf (d + 1) 39 #[a0] := by
 unfold zbah; (try simp only [zbrl lf d, zbfp, bz111, zaag, zafd, zaeg, zaah, zacq (P := PP) nf3, zaat (P := PP) nf3, zack]); kernel_rfl

noncomputable def zaom (lf d : Nat) (rec : RT) (a0 a1 a2 : Value) : M Value :=
 optK (zacg PP 27 a1 (Value.pointer none)) fun v11n1 =>
 ifV v11n1 (
  outK [(Value.int .i64 7)]) (
  (inside (rec 73 #[a0, a2])).bind fun v15n2 =>
  optK (evExtract v15n2 0) fun v16n3 =>
  optK (evExtract v15n2 1) fun v17n4 =>
  optK (evExtract v15n2 2) fun v18n5 =>
  optK (q_neq PP 29 v18n5 (Value.int .i64 0)) fun v20n6 =>
  ifV v20n6 (
   outK [v18n5]) (
   (inside (rec 10 #[a1, v16n3, v17n4])).bind fun v25n7 =>
   outK [v25n7]))
theorem zbhh (lf d : Nat) (a0 a1 a2 : Value) : inside (zaom lf d (evC lf d) a0 a1 a2) = evC lf (d + 1) 40 #[a0, a1, a2] := by
 unfold zaom; (try simp only [zaag, zaah, zabc (P := PP) Tryz.underlying27, zabg (P := PP) nf29]); kernel_rfl

noncomputable def zbcj (lf d fu : Nat) (k : KT) (x0 x1 x4 x5 x6 x12 x14 x15 x16 : Value) : M Value := loopK (fun s1 k1 => codeK PP (evC lf d) (gtA 41) lf (codeAt (bodyOf PP 41) [true, true, true, false, true, false, false]) s1 k1) [0, 1, 4, 5, 6, 12, 14, 15, 16] fu [(0, x0), (1, x1), (4, x4), (5, x5), (6, x6), (12, x12), (14, x14), (15, x15), (16, x16)] k
noncomputable def zamw (lf d : Nat) : KT := contAt PP (evC lf d) (gtA 41) lf (bodyOf PP 41) [true, true, true, false, true, false] (endK PP (resOf PP 41))
noncomputable def zaof (lf d : Nat) (rec : RT) (k : KT) : Nat → Value → Value → Value → Value → Value → Value → Value → Value → Value → M Value
 | 0, _, _, _, _, _, _, _, _, _ => M.fail
 | fu + 1, x0, x1, x4, x5, x6, x12, x14, x15, x16 =>
  optK (q_lss PP 3 x16 x15) fun v17n5 =>
  ifV v17n5 (
   optK (evIA3 PP 22 1 x14 x16) fun v18n6 =>
   insB (zaai PP 3 v18n6) fun v19n7 =>
   optK (q_add PP 3 v19n7 (Value.int .i64 1)) fun v22n8 =>
   optK (q_add PP 3 x6 v22n8) fun v23n9 =>
   optK (q_add PP 3 x16 (Value.int .i64 1)) fun v24n10 =>
   zaof lf d rec k fu x0 x1 x4 x5 v23n9 x12 x14 x15 v24n10) (
   k (Ex.exit 0) [(0, x0), (1, x1), (4, x4), (5, x5), (6, x6), (12, x12), (14, x14), (15, x15), (16, x16), (17, v17n5)])
noncomputable def zavm (lf d : Nat) (rec : RT) (dflt : KT) : KT := (kEx 0 (runCur [0, 1, 4, 5, 6, 12, 14, 15, 16, 17] (fun y0 y1 y4 y5 y6 y12 y14 y15 y16 y17 =>
 outK [y6, (Value.int .i64 0)]) (dflt (Ex.exit 0))) dflt)
noncomputable def zaxw (lf d : Nat) (rec : RT) (a0 a1 : Value) : M Value :=
 (inside (rec 66 #[a0, a1])).bind fun v11n1 =>
 optK (un3 PP .not v11n1) fun v12n2 =>
 ifV v12n2 (
  outK [(Value.int .i64 0), (Value.int .i64 1)]) (
  (inside (rec 67 #[a0])).bind fun v14n3 =>
  optK (len2 PP #[22] [v14n3]) fun v15n4 =>
  zaof lf d rec (zavm lf d rec (zamw lf d)) lf a0 a1 (Value.int .i64 0) (Value.int .i64 0) (Value.int .i64 18) v12n2 v14n3 v15n4 (Value.int .i64 0))
theorem zbck (lf d : Nat) (k : KT) : ∀ fu : Nat, zaof lf d (evC lf d) k fu = zbcj lf d fu k
 | 0 => by funext x0 x1 x4 x5 x6 x12 x14 x15 x16; kernel_rfl
 | fu + 1 => by
  have ih := zbck lf d k fu
  funext x0 x1 x4 x5 x6 x12 x14 x15 x16; simp only [zaof, ih, zaag, zaax (P := PP) Tryz.underlying22 gs3, zaaj (P := PP) ga3, zaah, zaap (P := PP) nf3, zaat (P := PP) nf3]; kernel_rfl
set_option maxRecDepth 20000 in
theorem zbob (lf d : Nat) : zavm lf d (evC lf d) (zamw lf d) = zamw lf d := by
  unfold zavm
  refine Eq.trans (zaba ?_) ?_
  · exact (zaam _ _ _ (by intro y0 y1 y4 y5 y6 y12 y14 y15 y16 y17; show _ = _; (try simp only [zaag, zaah]); kernel_rfl))
  rfl
theorem zboc (lf d : Nat) (a0 a1 : Value) : inside (zaxw lf d (evC lf d) a0 a1) = evC lf (d + 1) 41 #[a0, a1] := by
 unfold zaxw; (try simp only [zbob lf d, zbck, zaag, zaah, zack]); kernel_rfl

noncomputable def zayo (lf d : Nat) (rec : RT) (a0 : Value) : M Value :=
 (inside (rec 68 #[a0])).bind fun v6n1 =>
 optK (un3 PP .not v6n1) fun v7n2 =>
 ifV v7n2 (
  outK [(Value.int .i64 0), (Value.int .i64 1)]) (
  insB (evAllocZ 3 [Value.int .i64 0]) fun v4n3 =>
  insB (zaaq PP 3 v4n3 (Value.int .i64 0)) fun u4 =>
  (inside (rec 69 #[a0, (Value.func (Go.Fn.func 74) #[] #[v4n3])])).bind fun v10n5 =>
  insB (zaai PP 3 v4n3) fun v11n6 =>
  outK [v11n6, (Value.int .i64 0)])
theorem zbox (lf d : Nat) (a0 : Value) : inside (zayo lf d (evC lf d) a0) = evC lf (d + 1) 42 #[a0] := by
 unfold zayo; (try simp only [az3, zaag, zaaj (P := PP) ga3, zaao (P := PP) gs3, zaah, zack]); kernel_rfl

noncomputable def zazw (lf d fu : Nat) (k : KT) (x0 x1 x3 x4 x5 x6 x19 x21 x22 x23 : Value) : M Value := loopK (fun s1 k1 => codeK PP (evC lf d) (gtA 43) lf (codeAt (bodyOf PP 43) [true, true, true, false, true, false, false]) s1 k1) [0, 1, 3, 4, 5, 6, 19, 21, 22, 23] fu [(0, x0), (1, x1), (3, x3), (4, x4), (5, x5), (6, x6), (19, x19), (21, x21), (22, x22), (23, x23)] k
noncomputable def zale (lf d : Nat) : KT := contAt PP (evC lf d) (gtA 43) lf (bodyOf PP 43) [true, true, true, false, true, false] (endK PP (resOf PP 43))
noncomputable def zamg (lf d : Nat) (rec : RT) (k : KT) : Nat → Value → Value → Value → Value → Value → Value → Value → Value → Value → Value → M Value
 | 0, _, _, _, _, _, _, _, _, _, _ => M.fail
 | fu + 1, x0, x1, x3, x4, x5, x6, x19, x21, x22, x23 =>
  optK (q_lss PP 3 x23 x22) fun v24n13 =>
  ifV v24n13 (
   optK (evIA3 PP 22 1 x21 x23) fun v26n14 =>
   insB (zaai PP 3 v26n14) fun v27n15 =>
   optK (q_lss PP 3 v27n15 (Value.int .i64 0)) fun v29n16 =>
   ifV v29n16 (
    k Ex.ret [(0, x0), (1, x1), (3, x3), (4, (Value.int .i64 0)), (5, (Value.int .i64 1)), (6, x6), (7, x23), (8, v27n15), (19, x19), (21, x21), (22, x22), (23, x23), (24, v24n13), (36, (Value.bool true))]) (
    optK (evFA3 PP 67 0 x3 0) fun v32n17 =>
    insB (zaai PP 65 v32n17) fun v33n18 =>
    optK (len2 PP #[65] [v33n18]) fun v34n19 =>
    optK (q_geq PP 3 v27n15 v34n19) fun v35n20 =>
    ifV v35n20 (
     k Ex.ret [(0, x0), (1, x1), (3, x3), (4, (Value.int .i64 0)), (5, (Value.int .i64 1)), (6, x6), (7, x23), (8, v27n15), (19, x19), (21, x21), (22, x22), (23, x23), (24, v24n13), (36, v35n20)]) (
     (inside (rec 76 #[x0, x23])).bind fun v40n21 =>
     optK (evExtract v40n21 0) fun v41n22 =>
     optK (evExtract v40n21 1) fun v42n23 =>
     optK (evFA3 PP 67 0 x3 0) fun v45n24 =>
     insB (zaai PP 65 v45n24) fun v46n25 =>
     optK (evIA3 PP 65 1 v46n25 v27n15) fun v48n26 =>
     insB (zaai PP 22 v48n26) fun v49n27 =>
     (inside (rec 77 #[v41n22, v49n27])).bind fun v50n28 =>
     optK (evExtract v50n28 0) fun v51n29 =>
     optK (evExtract v50n28 1) fun v52n30 =>
     optK (q_neq PP 29 v52n30 (Value.int .i64 0)) fun v54n31 =>
     ifV v54n31 (
      k Ex.ret [(0, x0), (1, x1), (3, x3), (4, (Value.int .i64 0)), (5, v52n30), (6, x6), (7, x23), (8, v27n15), (9, v41n22), (11, v51n29), (12, v52n30), (19, x19), (21, x21), (22, x22), (23, x23), (24, v24n13), (36, v35n20), (54, v54n31)]) (
      optK (q_add PP 3 x6 v51n29) fun v58n32 =>
      optK (min2 [v58n32, (Value.int .i64 1099511627776)]) fun v59n33 =>
      optK (q_add PP 3 x23 (Value.int .i64 1)) fun v60n34 =>
      zamg lf d rec k fu x0 x1 x3 x4 x5 v59n33 x19 x21 x22 v60n34)))) (
   k (Ex.exit 0) [(0, x0), (1, x1), (3, x3), (4, x4), (5, x5), (6, x6), (19, x19), (21, x21), (22, x22), (23, x23), (24, v24n13)])
noncomputable def zatd (lf d : Nat) (rec : RT) (dflt : KT) : KT := (kEx 0 (runCur [0, 1, 3, 4, 5, 6, 19, 21, 22, 23, 24] (fun y0 y1 y3 y4 y5 y6 y19 y21 y22 y23 y24 =>
 outK [y6, (Value.int .i64 0)]) (dflt (Ex.exit 0))) (kRt (runCur [0, 1, 3, 4, 5, 6, 7, 8, 9, 11, 12, 19, 21, 22, 23, 24, 36, 54] (fun y0 y1 y3 y4 y5 y6 y7 y8 y9 y11 y12 y19 y21 y22 y23 y24 y36 y54 =>
 outK [y4, y5]) (runCur [0, 1, 3, 4, 5, 6, 7, 8, 19, 21, 22, 23, 24, 36] (fun y0 y1 y3 y4 y5 y6 y7 y8 y19 y21 y22 y23 y24 y36 =>
 outK [y4, y5]) (dflt Ex.ret))) dflt))
noncomputable def zavg (lf d : Nat) (rec : RT) (a0 a1 : Value) : M Value :=
 insB (zagy PP 67 a1) fun v3n1 =>
 optK (evFA3 PP 67 1 v3n1 1) fun v13n2 =>
 (timed (
  insB (zaai PP 22 v13n2) fun v14n4 => M.ret v14n4)).bind fun vtn3 =>
 optK (len2 PP #[22] [vtn3.1]) fun v15n5 =>
 optK (len2 PP #[22] [a0]) fun v17n6 =>
 (timed (
  (inside (rec 75 #[v17n6])).bind fun v18n8 => M.ret v18n8)).bind fun vtn7 =>
 optK (q_neq PP 3 v15n5 vtn7.1) fun v19n9 =>
 chkT ((!(zauw vtn3.2 vtn7.2) && true) && true) (
  ifV v19n9 (
   outK [(Value.int .i64 0), (Value.int .i64 1)]) (
   optK (evFA3 PP 67 1 v3n1 1) fun v20n10 =>
   insB (zaai PP 22 v20n10) fun v21n11 =>
   optK (len2 PP #[22] [v21n11]) fun v22n12 =>
   zamg lf d rec (zatd lf d rec (zale lf d)) lf a0 a1 v3n1 (Value.int .i64 0) (Value.int .i64 0) (Value.int .i64 0) v19n9 v21n11 v22n12 (Value.int .i64 0)))
theorem zbab (lf d : Nat) (k : KT) : ∀ fu : Nat, zamg lf d (evC lf d) k fu = zazw lf d fu k
 | 0 => by funext x0 x1 x3 x4 x5 x6 x19 x21 x22 x23; kernel_rfl
 | fu + 1 => by
  have ih := zbab lf d k fu
  funext x0 x1 x3 x4 x5 x6 x19 x21 x22 x23; simp only [zamg, ih, zaag, zaal (P := PP) zbmk, zaax (P := PP) Tryz.underlying22 gs3, zaax (P := PP) Tryz.underlying65 gs22, zaaj (P := PP) ga22, zaaj (P := PP) ga3, zaaj (P := PP) ga65, zaah, zaap (P := PP) nf3, zadp (P := PP) nf3, zaat (P := PP) nf3, zabg (P := PP) nf29]; kernel_rfl
set_option maxRecDepth 20000 in
theorem zbni (lf d : Nat) : zatd lf d (evC lf d) (zale lf d) = zale lf d := by
  unfold zatd
  refine Eq.trans (zaba ?_) ?_
  · exact (zaam _ _ _ (by intro y0 y1 y3 y4 y5 y6 y19 y21 y22 y23 y24; show _ = _; (try simp only [zaag, zaah]); kernel_rfl))
  refine Eq.trans (zant ?_) ?_
  · refine Eq.trans (zaam _ _ _ (by intro y0 y1 y3 y4 y5 y6 y7 y8 y9 y11 y12 y19 y21 y22 y23 y24 y36 y54; show _ = _; (try simp only [zaag, zaah]); kernel_rfl)) ?_
    exact (zaam _ _ _ (by intro y0 y1 y3 y4 y5 y6 y7 y8 y19 y21 y22 y23 y24 y36; show _ = _; (try simp only [zaag, zaah]); kernel_rfl))
  rfl
theorem zbmy (lf d : Nat) (a0 a1 : Value) : inside (zavg lf d (evC lf d) a0 a1) = evC lf (d + 1) 43 #[a0, a1] := by
 unfold zavg; (try simp only [zbni lf d, zbab, zaag, zafd, zaal (P := PP) zbno, zaaj (P := PP) ga22, zaah, zabg (P := PP) nf3]); kernel_rfl

noncomputable def zang (lf d : Nat) (rec : RT) (a0 : Value) : M Value :=
 optK (nil2 a0) fun v4n1 =>
 optK (evFA3 PP 85 1 v4n1 1) fun v5n2 =>
 insB (zaai PP 3 v5n2) fun v6n3 =>
 optK (nil2 a0) fun v8n4 =>
 optK (evFA3 PP 85 0 v8n4 0) fun v9n5 =>
 insB (zaai PP 9 v9n5) fun v10n6 =>
 optK (len2 PP #[9] [v10n6]) fun v11n7 =>
 optK (q_add PP 3 v6n3 v11n7) fun v12n8 =>
 optK (q_mul PP 3 (Value.int .i64 8) v12n8) fun v13n9 =>
 outK [v13n9]
theorem zbgx (lf d : Nat) (a0 : Value) : inside (zang lf d (evC lf d) a0) = evC lf (d + 1) 51 #[a0] := by
 unfold zang; (try simp only [zaag, zaal (P := PP) zcbp, zaal (P := PP) zbta, zaaj (P := PP) ga3, zaaj (P := PP) ga9, zaah, zaap (P := PP) nf3, zain (P := PP) nf3]); kernel_rfl

noncomputable def zaql (lf d fu : Nat) (k : KT) (x0 x1 x2 x6 x7 x8 : Value) : M Value := loopK (fun s1 k1 => codeK PP (evC lf d) (gtA 52) lf (codeAt (bodyOf PP 52) [true, true, false, false, false]) s1 k1) [0, 1, 2, 6, 7, 8] fu [(0, x0), (1, x1), (2, x2), (6, x6), (7, x7), (8, x8)] k
noncomputable def zagi (lf d : Nat) : KT := contAt PP (evC lf d) (gtA 52) lf (bodyOf PP 52) [true, true, false, false] (endK PP (resOf PP 52))
noncomputable def zaes (lf d : Nat) (rec : RT) (k : KT) : Nat → Value → Value → Value → Value → Value → Value → M Value
 | 0, _, _, _, _, _, _ => M.fail
 | fu + 1, x0, x1, x2, x6, x7, x8 =>
  optK (nil2 x0) fun v12n1 =>
  optK (evFA3 PP 100 6 v12n1 6) fun v13n2 =>
  insB (zaai PP 4 v13n2) fun v14n3 =>
  optK (un3 PP .not v14n3) fun v15n4 =>
  ifV v15n4 (
   (inside (rec 30 #[x0, x1])).bind fun v19n5 =>
   optK (evExtract v19n5 0) fun v20n6 =>
   optK (evExtract v19n5 1) fun v21n7 =>
   optK (q_neq PP 29 v21n7 (Value.int .i64 0)) fun v24n8 =>
   ifV v24n8 (
    k Ex.ret [(0, x0), (1, x1), (2, x2), (6, (Value.slice none 0 0)), (7, v21n7), (8, x8), (9, v20n6), (10, v21n7), (15, v15n4), (22, v24n8)]) (
    optK (q_eql PP 3 v20n6 (Value.int .i64 (-1))) fun v28n9 =>
    ifV v28n9 (
     zaes lf d rec k fu x0 x1 x2 x6 x7 x8) (
     optK (len2 PP #[22] [x8]) fun v31n10 =>
     optK (q_eql PP 3 v31n10 x2) fun v33n11 =>
     ifV v33n11 (
      k Ex.ret [(0, x0), (1, x1), (2, x2), (6, (Value.slice none 0 0)), (7, (Value.int .i64 2)), (8, x8), (9, v20n6), (10, v21n7), (15, v15n4), (22, v24n8), (26, v28n9), (29, v33n11)]) (
      insB (evBS3 PP 22 1 [(0, v20n6)]) fun v36n12 =>
      insB (zach PP 22 x8 v36n12) fun v37n13 =>
      zaes lf d rec k fu x0 x1 x2 x6 x7 v37n13)))) (
   k (Ex.exit 0) [(0, x0), (1, x1), (2, x2), (6, x6), (7, x7), (8, x8), (15, v15n4)])
noncomputable def zakg (lf d : Nat) (rec : RT) (dflt : KT) : KT := (kEx 0 (runCur [0, 1, 2, 6, 7, 8, 15] (fun y0 y1 y2 y6 y7 y8 y15 =>
 outK [y8, (Value.int .i64 0)]) (dflt (Ex.exit 0))) (kRt (runCur [0, 1, 2, 6, 7, 8, 9, 10, 15, 22, 26, 29] (fun y0 y1 y2 y6 y7 y8 y9 y10 y15 y22 y26 y29 =>
 outK [y6, y7]) (runCur [0, 1, 2, 6, 7, 8, 9, 10, 15, 22] (fun y0 y1 y2 y6 y7 y8 y9 y10 y15 y22 =>
 outK [y6, y7]) (dflt Ex.ret))) dflt))
noncomputable def zaly (lf d : Nat) (rec : RT) (a0 a1 a2 : Value) : M Value :=
 zaes lf d rec (zakg lf d rec (zagi lf d)) lf a0 a1 a2 (Value.slice none 0 0) (Value.int .i64 0) (Value.slice none 0 0)
theorem zarf (lf d : Nat) (k : KT) : ∀ fu : Nat, zaes lf d (evC lf d) k fu = zaql lf d fu k
 | 0 => by funext x0 x1 x2 x6 x7 x8; kernel_rfl
 | fu + 1 => by
  have ih := zarf lf d k fu
  funext x0 x1 x2 x6 x7 x8; simp only [zaes, ih, zaag, zacd, zaeh, zaal (P := PP) zbop, zaaj (P := PP) ga4, zaah, zabk (P := PP) nf3, zabg (P := PP) nf29, zack]; kernel_rfl
set_option maxRecDepth 20000 in
theorem zbeh (lf d : Nat) : zakg lf d (evC lf d) (zagi lf d) = zagi lf d := by
  unfold zakg
  refine Eq.trans (zaba ?_) ?_
  · exact (zaam _ _ _ (by intro y0 y1 y2 y6 y7 y8 y15; show _ = _; (try simp only [zaag, zaah]); kernel_rfl))
  refine Eq.trans (zant ?_) ?_
  · refine Eq.trans (zaam _ _ _ (by intro y0 y1 y2 y6 y7 y8 y9 y10 y15 y22 y26 y29; show _ = _; (try simp only [zaag, zaah]); kernel_rfl)) ?_
    exact (zaam _ _ _ (by intro y0 y1 y2 y6 y7 y8 y9 y10 y15 y22; show _ = _; (try simp only [zaag, zaah]); kernel_rfl))
  rfl
theorem zbep (lf d : Nat) (a0 a1 a2 : Value) : inside (zaly lf d (evC lf d) a0 a1 a2) = evC lf (d + 1) 52 #[a0, a1, a2] := by
 unfold zaly; (try simp only [zbeh lf d, zarf, zaag, zaah]); kernel_rfl

noncomputable def zanc (lf d : Nat) (rec : RT) (a0 : Value) : M Value :=
 (inside (rec 91 #[a0])).bind fun v5n1 =>
 optK (un3 PP .not v5n1) fun v6n2 =>
 ifV v6n2 (
  outK [(Value.pointer none), (Value.int .i64 1)]) (
  insB (evBuildZ PP 130 [Value.int .i64 0, Value.int .i64 0, Value.slice none 0 0, Value.bool false] [(0, a0)]) fun v8n3 =>
  insB (zagy PP 130 v8n3) fun v9n4 =>
  outK [v9n4, (Value.int .i64 0)])
theorem zbgg (lf d : Nat) (a0 : Value) : inside (zanc lf d (evC lf d) a0) = evC lf (d + 1) 56 #[a0] := by
 unfold zanc; (try simp only [bz130, zaag, zafd, zaah, zack]); kernel_rfl

noncomputable def zane (lf d : Nat) (rec : RT) : M Value :=
 (inside (rec 92 #[])).bind fun v1n1 =>
 insB (evBuildZ PP 135 (appV [Value.int .i64 0] (appV [Value.int .i64 0] (appV (repV (Value.int .i64 0) 6) (appV [Value.slice none 0 0] [Value.bool false])))) [(2, v1n1)]) fun v2n2 =>
 insB (zagy PP 135 v2n2) fun v3n3 =>
 outK [v3n3]
theorem zbgr (lf d : Nat) : inside (zane lf d (evC lf d)) = evC lf (d + 1) 57 #[] := by
 unfold zane; (try simp only [bz135, zaag, zafd, zaah]); kernel_rfl

noncomputable def zajm (lf d : Nat) (rec : RT) (a0 a1 : Value) : M Value :=
 optK (nil2 a0) fun v10n1 =>
 optK (evFA3 PP 100 5 v10n1 5) fun v11n2 =>
 insB (zaai PP 3 v11n2) fun v12n3 =>
 optK (q_quo PP 3 v12n3 (Value.int .i64 50)) fun v13n4 =>
 optK (nil2 a0) fun v16n5 =>
 optK (evFA3 PP 100 2 v16n5 2) fun v17n6 =>
 insB (zaai PP 22 v17n6) fun v18n7 =>
 optK (len2 PP #[22] [v18n7]) fun v19n8 =>
 optK (q_geq PP 3 v13n4 v19n8) fun v20n9 =>
 ifV v20n9 (
  outK [(Value.int .i64 (-1)), (Value.int .i64 25)]) (
  optK (nil2 a0) fun v23n10 =>
  optK (evFA3 PP 100 4 v23n10 4) fun v24n11 =>
  insB (zaai PP 70 v24n11) fun v25n12 =>
  optK (nil2 a0) fun v27n13 =>
  optK (evFA3 PP 100 2 v27n13 2) fun v28n14 =>
  insB (zaai PP 22 v28n14) fun v29n15 =>
  optK (evIA3 PP 22 1 v29n15 v13n4) fun v31n16 =>
  insB (zaai PP 3 v31n16) fun v32n17 =>
  optK (evIA3 PP 70 1 v25n12 v32n17) fun v33n18 =>
  insB (zaai PP 72 v33n18) fun v34n19 =>
  (inside (rec 93 #[v34n19, a1])).bind fun v36n20 =>
  optK (evExtract v36n20 0) fun v37n21 =>
  optK (evExtract v36n20 1) fun v38n22 =>
  optK (q_neq PP 29 v38n22 (Value.int .i64 0)) fun v40n23 =>
  ifV v40n23 (
   outK [(Value.int .i64 (-1)), v38n22]) (
   optK (nil2 a0) fun v43n24 =>
   optK (evFA3 PP 100 5 v43n24 5) fun v44n25 =>
   insB (zaai PP 3 v44n25) fun v45n26 =>
   optK (q_add PP 3 v45n26 (Value.int .i64 1)) fun v46n27 =>
   optK (nil2 a0) fun v47n28 =>
   optK (evFA3 PP 100 5 v47n28 5) fun v48n29 =>
   insB (zaaq PP 3 v48n29 v46n27) fun u30 =>
   optK (nil2 a0) fun v52n31 =>
   optK (evFA3 PP 100 0 v52n31 0) fun v53n32 =>
   insB (zaai PP 3 v53n32) fun v54n33 =>
   optK (q_sub PP 3 v54n33 (Value.int .i64 1)) fun v55n34 =>
   optK (q_eql PP 3 v37n21 v55n34) fun v56n35 =>
   optK (nil2 a0) fun v57n36 =>
   optK (evFA3 PP 100 6 v57n36 6) fun v58n37 =>
   insB (zaaq PP 4 v58n37 v56n35) fun u38 =>
   outK [v37n21, (Value.int .i64 0)]))
theorem zbav (lf d : Nat) (a0 a1 : Value) : inside (zajm lf d (evC lf d) a0 a1) = evC lf (d + 1) 58 #[a0, a1] := by
 unfold zajm; (try simp only [zaag, zaal (P := PP) zbyy, zaal (P := PP) zbym, zaal (P := PP) zbpj, zaal (P := PP) zcig, zaal (P := PP) zbop, zaax (P := PP) Tryz.underlying22 gs3, zaax (P := PP) Tryz.underlying70 gs72, zaaj (P := PP) ga22, zaaj (P := PP) ga3, zaaj (P := PP) ga70, zaaj (P := PP) ga72, zaao (P := PP) gs3, zaao (P := PP) gs4, zaah, zaap (P := PP) nf3, zabk (P := PP) nf3, zadp (P := PP) nf3, zabg (P := PP) nf29, zato (P := PP) nf3, zabd (P := PP) nf3]); kernel_rfl

noncomputable def zakp (lf d : Nat) (rec : RT) (a0 : Value) : M Value :=
 optK (zbig PP 97 a0 (Value.pointer none)) fun v4n1 =>
 ifV v4n1 (
  optK (nil2 a0) fun v7n2 =>
  optK (evFA3 PP 135 1 v7n2 1) fun v8n3 =>
  insB (zaai PP 3 v8n3) fun v9n4 =>
  optK (q_gtr PP 3 v9n4 (Value.int .i64 0)) fun v10n5 =>
  ifV v10n5 (
   optK (nil2 a0) fun v14n6 =>
   optK (evFA3 PP 135 8 v14n6 3) fun v15n7 =>
   insB (zaai PP 22 v15n7) fun v16n8 =>
   optK (len2 PP #[22] [v16n8]) fun v17n9 =>
   optK (nil2 a0) fun v19n10 =>
   optK (evFA3 PP 135 1 v19n10 1) fun v20n11 =>
   insB (zaai PP 3 v20n11) fun v21n12 =>
   optK (q_eql PP 3 v17n9 v21n12) fun v22n13 =>
   outK [v22n13]) (
   outK [(Value.bool false)])) (
  outK [(Value.bool false)])
theorem zbbj (lf d : Nat) (a0 : Value) : inside (zakp lf d (evC lf d) a0) = evC lf (d + 1) 59 #[a0] := by
 unfold zakp; (try simp only [zaag, zaal (P := PP) zbpl, zaal (P := PP) zbor, zaaj (P := PP) ga22, zaaj (P := PP) ga3, zaah, zbhw (P := PP) Tryz.underlying97, zabk (P := PP) nf3, zacq (P := PP) nf3]); kernel_rfl

noncomputable def zalv (lf d : Nat) (rec : RT) (a0 a1 : Value) : M Value :=
 optK (nil2 a0) fun v8n1 =>
 optK (evFA3 PP 100 1 v8n1 1) fun v9n2 =>
 insB (zaai PP 97 v9n2) fun v10n3 =>
 (inside (rec 94 #[v10n3, a1])).bind fun v12n4 =>
 optK (nil2 a0) fun v14n5 =>
 optK (evFA3 PP 100 1 v14n5 1) fun v15n6 =>
 insB (zaai PP 97 v15n6) fun v16n7 =>
 (inside (rec 59 #[v16n7])).bind fun v17n8 =>
 ifV v17n8 (
  optK (nil2 a0) fun v20n9 =>
  optK (evFA3 PP 100 1 v20n9 1) fun v21n10 =>
  insB (zaai PP 97 v21n10) fun v22n11 =>
  (inside (rec 63 #[v22n11])).bind fun v23n12 =>
  optK (nil2 a0) fun v24n13 =>
  optK (evFA3 PP 100 2 v24n13 2) fun v25n14 =>
  insB (zaaq PP 22 v25n14 v23n12) fun u15 =>
  outK [(Value.int .i64 (-1)), v12n4]) (
  outK [(Value.int .i64 (-1)), v12n4])
theorem zbes (lf d : Nat) (a0 a1 : Value) : inside (zalv lf d (evC lf d) a0 a1) = evC lf (d + 1) 60 #[a0, a1] := by
 unfold zalv; (try simp only [zaag, zaal (P := PP) zbyj, zaal (P := PP) zbym, zaaj (P := PP) ga97, zaao (P := PP) gs22, zaah]); kernel_rfl

noncomputable def zaiy (lf d : Nat) (rec : RT) (a0 : Value) : M Value :=
 optK (zacg PP 97 a0 (Value.pointer none)) fun v4n1 =>
 ifV v4n1 (
  outK [(Value.int .i64 0)]) (
  optK (nil2 a0) fun v6n2 =>
  optK (evFA3 PP 135 0 v6n2 0) fun v7n3 =>
  insB (zaai PP 3 v7n3) fun v8n4 =>
  outK [v8n4])
theorem zaza (lf d : Nat) (a0 : Value) : inside (zaiy lf d (evC lf d) a0) = evC lf (d + 1) 61 #[a0] := by
 unfold zaiy; (try simp only [zaag, zaal (P := PP) zboa, zaaj (P := PP) ga3, zaah, zabc (P := PP) Tryz.underlying97]); kernel_rfl

noncomputable def zakl (lf d : Nat) (rec : RT) (a0 a1 : Value) : M Value :=
 optK (nil2 a0) fun v12n1 =>
 optK (evFA3 PP 100 3 v12n1 3) fun v13n2 =>
 insB (zaai PP 94 v13n2) fun v14n3 =>
 (inside (rec 95 #[v14n3, a1])).bind fun v16n4 =>
 optK (q_neq PP 29 v16n4 (Value.int .i64 0)) fun v18n5 =>
 ifV v18n5 (
  outK [(Value.int .i64 (-1)), v16n4]) (
  optK (nil2 a0) fun v21n6 =>
  optK (evFA3 PP 100 3 v21n6 3) fun v22n7 =>
  insB (zaai PP 94 v22n7) fun v23n8 =>
  (inside (rec 96 #[v23n8])).bind fun v24n9 =>
  optK (un3 PP .not v24n9) fun v25n10 =>
  ifV v25n10 (
   outK [(Value.int .i64 (-1)), v16n4]) (
   optK (nil2 a0) fun v30n11 =>
   optK (evFA3 PP 100 3 v30n11 3) fun v31n12 =>
   insB (zaai PP 94 v31n12) fun v32n13 =>
   (inside (rec 97 #[v32n13])).bind fun v33n14 =>
   (inside (rec 39 #[v33n14])).bind fun v34n15 =>
   optK (evExtract v34n15 0) fun v35n16 =>
   optK (evExtract v34n15 1) fun v36n17 =>
   optK (q_neq PP 29 v36n17 (Value.int .i64 0)) fun v38n18 =>
   ifV v38n18 (
    outK [(Value.int .i64 (-1)), v36n17]) (
    optK (nil2 a0) fun v42n19 =>
    optK (evFA3 PP 100 4 v42n19 4) fun v43n20 =>
    insB (zaai PP 70 v43n20) fun v44n21 =>
    insB (evBS3 PP 70 1 [(0, v35n16)]) fun v46n22 =>
    insB (zach PP 70 v44n21 v46n22) fun v47n23 =>
    optK (nil2 a0) fun v48n24 =>
    optK (evFA3 PP 100 4 v48n24 4) fun v49n25 =>
    insB (zaaq PP 70 v49n25 v47n23) fun u26 =>
    optK (nil2 a0) fun v52n27 =>
    optK (evFA3 PP 100 0 v52n27 0) fun v53n28 =>
    insB (zaai PP 3 v53n28) fun v54n29 =>
    (inside (rec 56 #[v54n29])).bind fun v55n30 =>
    optK (evExtract v55n30 0) fun v56n31 =>
    optK (evExtract v55n30 1) fun v57n32 =>
    optK (nil2 a0) fun v60n33 =>
    optK (evFA3 PP 100 3 v60n33 3) fun v61n34 =>
    insB (zaaq PP 94 v61n34 v56n31) fun u35 =>
    outK [(Value.int .i64 (-1)), (Value.int .i64 0)])))
theorem zbcf (lf d : Nat) (a0 a1 : Value) : inside (zakl lf d (evC lf d) a0 a1) = evC lf (d + 1) 62 #[a0, a1] := by
 unfold zakl; (try simp only [zaag, zacd, zaeh, zaal (P := PP) zbyy, zaal (P := PP) zchj, zaal (P := PP) zbpj, zaaj (P := PP) ga3, zaaj (P := PP) ga70, zaaj (P := PP) ga94, zaao (P := PP) gs70, zaao (P := PP) gs94, zaah, zabg (P := PP) nf29, zack]); kernel_rfl

noncomputable def zajq (lf d : Nat) (rec : RT) (a0 : Value) : M Value :=
 optK (zacg PP 97 a0 (Value.pointer none)) fun v4n1 =>
 ifV v4n1 (
  outK [(Value.slice none 0 0)]) (
  optK (nil2 a0) fun v6n2 =>
  optK (evFA3 PP 135 8 v6n2 3) fun v7n3 =>
  insB (zaai PP 22 v7n3) fun v8n4 =>
  (inside (rec 72 #[v8n4])).bind fun v9n5 =>
  outK [v9n5])
theorem zbak (lf d : Nat) (a0 : Value) : inside (zajq lf d (evC lf d) a0) = evC lf (d + 1) 63 #[a0] := by
 unfold zajq; (try simp only [zaag, zaal (P := PP) zbor, zaaj (P := PP) ga22, zaah, zabc (P := PP) Tryz.underlying97]); kernel_rfl

noncomputable def zacb (lf d fu : Nat) (k : KT) (x0 x1 x4 x7 x8 : Value) : M Value := loopK (fun s1 k1 => codeK PP (evC lf d) (gtA 64) lf (codeAt (bodyOf PP 64) [true, false, true, false, false]) s1 k1) [0, 1, 4, 7, 8] fu [(0, x0), (1, x1), (4, x4), (7, x7), (8, x8)] k
noncomputable def zabf (lf d : Nat) : KT := contAt PP (evC lf d) (gtA 64) lf (bodyOf PP 64) [true, false, true, false] (endK PP (resOf PP 64))
noncomputable def zaeq (lf d : Nat) (rec : RT) (k : KT) : Nat → Value → Value → Value → Value → Value → M Value
 | 0, _, _, _, _, _ => M.fail
 | fu + 1, x0, x1, x4, x7, x8 =>
  optK (q_lss PP 3 x8 x7) fun v9n2 =>
  ifV v9n2 (
   optK (evIA3 PP 22 1 x0 x8) fun v14n3 =>
   insB (zaai PP 3 v14n3) fun v15n4 =>
   optK (q_eql PP 3 x1 v15n4) fun v16n5 =>
   ifV v16n5 (
    k Ex.ret [(0, x0), (1, x1), (4, x8), (5, x8), (7, x7), (8, x8), (9, v9n2), (16, v16n5)]) (
    optK (q_add PP 3 x8 (Value.int .i64 1)) fun v18n6 =>
    zaeq lf d rec k fu x0 x1 x4 x7 v18n6)) (
   k (Ex.exit 0) [(0, x0), (1, x1), (4, x4), (7, x7), (8, x8), (9, v9n2)])
noncomputable def zahl (lf d : Nat) (rec : RT) (dflt : KT) : KT := (kEx 0 (runCur [0, 1, 4, 7, 8, 9] (fun y0 y1 y4 y7 y8 y9 =>
 outK [(Value.int .i64 (-1))]) (dflt (Ex.exit 0))) (kRt (runCur [0, 1, 4, 5, 7, 8, 9, 16] (fun y0 y1 y4 y5 y7 y8 y9 y16 =>
 outK [y4]) (dflt Ex.ret)) dflt))
noncomputable def zaim (lf d : Nat) (rec : RT) (a0 a1 : Value) : M Value :=
 optK (len2 PP #[22] [a0]) fun v7n1 =>
 zaeq lf d rec (zahl lf d rec (zabf lf d)) lf a0 a1 (Value.int .i64 0) v7n1 (Value.int .i64 0)
theorem zals (lf d : Nat) (k : KT) : ∀ fu : Nat, zaeq lf d (evC lf d) k fu = zacb lf d fu k
 | 0 => by funext x0 x1 x4 x7 x8; kernel_rfl
 | fu + 1 => by
  have ih := zals lf d k fu
  funext x0 x1 x4 x7 x8; simp only [zaeq, ih, zaag, zaax (P := PP) Tryz.underlying22 gs3, zaaj (P := PP) ga3, zaah, zaap (P := PP) nf3, zabk (P := PP) nf3, zaat (P := PP) nf3]; kernel_rfl
set_option maxRecDepth 20000 in
theorem zayq (lf d : Nat) : zahl lf d (evC lf d) (zabf lf d) = zabf lf d := by
  unfold zahl
  refine Eq.trans (zaba ?_) ?_
  · exact (zaam _ _ _ (by intro y0 y1 y4 y7 y8 y9; show _ = _; (try simp only [zaag, zaah]); kernel_rfl))
  refine Eq.trans (zant ?_) ?_
  · exact (zaam _ _ _ (by intro y0 y1 y4 y5 y7 y8 y9 y16; show _ = _; (try simp only [zaag, zaah]); kernel_rfl))
  rfl
theorem zaxy (lf d : Nat) (a0 a1 : Value) : inside (zaim lf d (evC lf d) a0 a1) = evC lf (d + 1) 64 #[a0, a1] := by
 unfold zaim; (try simp only [zayq lf d, zals, zaag, zaah]); kernel_rfl

noncomputable def zbfk (lf d fu : Nat) (k : KT) (x0 x1 x4 x5 x6 x7 x8 x9 x18 x27 x40 : Value) : M Value := loopK (fun s1 k1 => codeK PP (evC lf d) (gtA 65) lf (codeAt (bodyOf PP 65) [true, true, true, true, true, false, true, false, false]) s1 k1) [0, 1, 4, 5, 6, 7, 8, 9, 18, 27, 40] fu [(0, x0), (1, x1), (4, x4), (5, x5), (6, x6), (7, x7), (8, x8), (9, x9), (18, x18), (27, x27), (40, x40)] k
noncomputable def zaog (lf d : Nat) : KT := contAt PP (evC lf d) (gtA 65) lf (bodyOf PP 65) [true, true, true, true, true, false, true, false] (endK PP (resOf PP 65))
noncomputable def zaqf (lf d : Nat) (rec : RT) (k : KT) : Nat → Value → Value → Value → Value → Value → Value → Value → Value → Value → Value → Value → M Value
 | 0, _, _, _, _, _, _, _, _, _, _, _ => M.fail
 | fu + 1, x0, x1, x4, x5, x6, x7, x8, x9, x18, x27, x40 =>
  optK (q_lss PP 3 x40 (Value.int .i64 4)) fun v41n26 =>
  ifV v41n26 (
   optK (evFA3 PP 67 0 x9 0) fun v44n27 =>
   insB (zaai PP 65 v44n27) fun v45n28 =>
   (inside (rec 101 #[x8, v45n28, x1])).bind fun v47n29 =>
   optK (evExtract v47n29 0) fun v48n30 =>
   optK (evExtract v47n29 1) fun v49n31 =>
   insB (evBuildZ PP 67 [Value.slice none 0 0, Value.slice none 0 0] [(0, v49n31), (1, v48n30)]) fun v52n32 =>
   insB (zadg PP 67 2 x9 v52n32) fun u33 =>
   optK (q_add PP 3 x40 (Value.int .i64 1)) fun v53n34 =>
   zaqf lf d rec k fu x0 x1 x4 x5 x6 x7 x8 x9 x18 x27 v53n34) (
   k (Ex.exit 1) [(0, x0), (1, x1), (4, x4), (5, x5), (6, x6), (7, x7), (8, x8), (9, x9), (18, x18), (27, x27), (40, x40), (41, v41n26)])
noncomputable def zayy (lf d : Nat) (rec : RT) (dflt : KT) : KT := (kEx 1 (runCur [0, 1, 4, 5, 6, 7, 8, 9, 18, 27, 40, 41] (fun y0 y1 y4 y5 y6 y7 y8 y9 y18 y27 y40 y41 =>
 insB (zats PP 67 2 y9) fun v54n35 =>
 insB (zadg PP 67 2 y4 v54n35) fun u36 =>
 (evLoad PP 67 y4).bind fun vrn37 =>
 outK [vrn37, (Value.int .i64 0)]) (dflt (Ex.exit 1))) dflt)
noncomputable def zbbd (lf d : Nat) (rec : RT) (a0 a1 : Value) : M Value :=
 insB (evAllocZ 67 [Value.slice none 0 0, Value.slice none 0 0]) fun v4n1 =>
 (inside (rec 98 #[a0, a1])).bind fun v15n2 =>
 optK (evExtract v15n2 0) fun v16n3 =>
 optK (evExtract v15n2 1) fun v17n4 =>
 optK (q_neq PP 29 v17n4 (Value.int .i64 0)) fun v20n5 =>
 ifV v20n5 (
  insB (evBuildZ PP 67 [Value.slice none 0 0, Value.slice none 0 0] []) fun v26n6 =>
  insB (zadg PP 67 2 v4n1 v26n6) fun u7 =>
  (evLoad PP 67 v4n1).bind fun vrn8 =>
  outK [vrn8, (Value.int .i64 1)]) (
  optK (len2 PP #[22] [a0]) fun v23n9 =>
  optK (q_eql PP 3 v23n9 (Value.int .i64 0)) fun v24n10 =>
  ifV v24n10 (
   insB (evBuildZ PP 67 [Value.slice none 0 0, Value.slice none 0 0] []) fun v26n11 =>
   insB (zadg PP 67 2 v4n1 v26n11) fun u12 =>
   (evLoad PP 67 v4n1).bind fun vrn13 =>
   outK [vrn13, (Value.int .i64 1)]) (
   optK (len2 PP #[22] [a0]) fun v29n14 =>
   (inside (rec 75 #[v29n14])).bind fun v30n15 =>
   optK (q_gtr PP 3 v30n15 (Value.int .i64 32767)) fun v31n16 =>
   ifV v31n16 (
    insB (evBuildZ PP 67 [Value.slice none 0 0, Value.slice none 0 0] []) fun v32n17 =>
    insB (zadg PP 67 2 v4n1 v32n17) fun u18 =>
    (evLoad PP 67 v4n1).bind fun vrn19 =>
    outK [vrn19, (Value.int .i64 2)]) (
    (inside (rec 99 #[a0])).bind fun v34n20 =>
    optK (len2 PP #[22] [a0]) fun v37n21 =>
    (inside (rec 100 #[v16n3, v37n21])).bind fun v38n22 =>
    insB (evBuildZ PP 67 [Value.slice none 0 0, Value.slice none 0 0] [(0, v38n22)]) fun v39n23 =>
    insB (evAllocZ 67 [Value.slice none 0 0, Value.slice none 0 0]) fun v9n24 =>
    insB (zadg PP 67 2 v9n24 v39n23) fun u25 =>
    zaqf lf d rec (zayy lf d rec (zaog lf d)) lf a0 a1 v4n1 (Value.int .i64 0) v16n3 v17n4 v34n20 v9n24 v24n10 v31n16 (Value.int .i64 0))))
theorem zbfj (lf d : Nat) (k : KT) : ∀ fu : Nat, zaqf lf d (evC lf d) k fu = zbfk lf d fu k
 | 0 => by funext x0 x1 x4 x5 x6 x7 x8 x9 x18 x27 x40; kernel_rfl
 | fu + 1 => by
  have ih := zbfj lf d k fu
  funext x0 x1 x4 x5 x6 x7 x8 x9 x18 x27 x40; simp only [zaqf, ih, bz67, zaag, zaal (P := PP) zbmk, zaaj (P := PP) ga65, zafe (P := PP) gs67, zaah, zaap (P := PP) nf3, zaat (P := PP) nf3]; kernel_rfl
set_option maxRecDepth 20000 in
theorem zbrn (lf d : Nat) : zayy lf d (evC lf d) (zaog lf d) = zaog lf d := by
  unfold zayy
  refine Eq.trans (zaba ?_) ?_
  · exact (zaam _ _ _ (by intro y0 y1 y4 y5 y6 y7 y8 y9 y18 y27 y40 y41; show _ = _; (try simp only [zaag, zauc (P := PP) ga67 gs67, zafe (P := PP) gs67, zaah]); kernel_rfl))
  rfl
theorem zbrd (lf d : Nat) (a0 a1 : Value) : inside (zbbd lf d (evC lf d) a0 a1) = evC lf (d + 1) 65 #[a0, a1] := by
 unfold zbbd; (try simp only [zbrn lf d, zbfj, az67, bz67, zaag, zafe (P := PP) gs67, zaah, zabk (P := PP) nf3, zacq (P := PP) nf3, zabg (P := PP) nf29]); kernel_rfl

noncomputable def zbax (lf d : Nat) (rec : RT) (a0 a1 : Value) : M Value :=
 insB (zagy PP 3 a1) fun v3n1 =>
 insB (zaai PP 3 v3n1) fun v5n2 =>
 (inside (rec 102 #[v5n2])).bind fun v6n3 =>
 optK (un3 PP .not v6n3) fun v7n4 =>
 ifV v7n4 (
  outK [(Value.bool false)]) (
  optK (len2 PP #[22] [a0]) fun v10n5 =>
  optK (q_eql PP 3 v10n5 (Value.int .i64 0)) fun v11n6 =>
  ifV v11n6 (
   outK [(Value.bool false)]) (
   optK (len2 PP #[22] [a0]) fun v15n7 =>
   optK (q_gtr PP 3 v15n7 (Value.int .i64 32767)) fun v16n8 =>
   ifV v16n8 (
    outK [(Value.bool false)]) (
    (inside (rec 103 #[a0, (Value.func (Go.Fn.func 104) #[] #[v3n1])])).bind fun v20n9 =>
    optK (un3 PP .not v20n9) fun v21n10 =>
    outK [v21n10])))
theorem zbrg (lf d : Nat) (a0 a1 : Value) : inside (zbax lf d (evC lf d) a0 a1) = evC lf (d + 1) 66 #[a0, a1] := by
 unfold zbax; (try simp only [zaag, zafd, zaaj (P := PP) ga3, zaah, zabk (P := PP) nf3, zacq (P := PP) nf3, zack]); kernel_rfl

noncomputable def zaxs (lf d fu : Nat) (k : KT) (x0 x2 x3 x4 x11 x12 x13 : Value) : M Value := loopK (fun s1 k1 => codeK PP (evC lf d) (gtA 67) lf (codeAt (bodyOf PP 67) [true, true, true, false, true, false, false]) s1 k1) [0, 2, 3, 4, 11, 12, 13] fu [(0, x0), (2, x2), (3, x3), (4, x4), (11, x11), (12, x12), (13, x13)] k
noncomputable def zajt (lf d : Nat) : KT := contAt PP (evC lf d) (gtA 67) lf (bodyOf PP 67) [true, true, true, false, true, false] (endK PP (resOf PP 67))
noncomputable def zalf (lf d : Nat) (rec : RT) (k : KT) : Nat → Value → Value → Value → Value → Value → Value → Value → M Value
 | 0, _, _, _, _, _, _, _ => M.fail
 | fu + 1, x0, x2, x3, x4, x11, x12, x13 =>
  optK (q_lss PP 3 x13 x12) fun v14n7 =>
  ifV v14n7 (
   optK (evIA3 PP 22 1 x11 x13) fun v16n8 =>
   insB (zaai PP 3 v16n8) fun v17n9 =>
   (inside (rec 105 #[x3, v17n9])).bind fun v21n10 =>
   optK (evIA3 PP 22 1 x4 x13) fun v22n11 =>
   insB (zaaq PP 3 v22n11 v21n10) fun u12 =>
   optK (q_add PP 3 x13 (Value.int .i64 1)) fun v23n13 =>
   zalf lf d rec k fu x0 x2 x3 x4 x11 x12 v23n13) (
   k (Ex.exit 0) [(0, x0), (2, x2), (3, x3), (4, x4), (11, x11), (12, x12), (13, x13), (14, v14n7)])
noncomputable def zapz (lf d : Nat) (rec : RT) (dflt : KT) : KT := (kEx 0 (runCur [0, 2, 3, 4, 11, 12, 13, 14] (fun y0 y2 y3 y4 y11 y12 y13 y14 =>
 outK [y4]) (dflt (Ex.exit 0))) dflt)
noncomputable def zasw (lf d : Nat) (rec : RT) (a0 : Value) : M Value :=
 (inside (rec 92 #[])).bind fun v7n1 =>
 insB (evAllocZ 132 (repV (Value.int .i64 0) 6)) fun v3n2 =>
 insB (zadg PP 132 6 v3n2 v7n1) fun u3 =>
 optK (len2 PP #[22] [a0]) fun v9n4 =>
 insB (zagt PP 22 v9n4 v9n4) fun v10n5 =>
 optK (len2 PP #[22] [a0]) fun v12n6 =>
 zalf lf d rec (zapz lf d rec (zajt lf d)) lf a0 (Value.slice none 0 0) v3n2 v10n5 a0 v12n6 (Value.int .i64 0)
theorem zaxp (lf d : Nat) (k : KT) : ∀ fu : Nat, zalf lf d (evC lf d) k fu = zaxs lf d fu k
 | 0 => by funext x0 x2 x3 x4 x11 x12 x13; kernel_rfl
 | fu + 1 => by
  have ih := zaxp lf d k fu
  funext x0 x2 x3 x4 x11 x12 x13; simp only [zalf, ih, zaag, zaax (P := PP) Tryz.underlying22 gs3, zaaj (P := PP) ga3, zaao (P := PP) gs3, zaah, zaap (P := PP) nf3, zaat (P := PP) nf3]; kernel_rfl
set_option maxRecDepth 20000 in
theorem zble (lf d : Nat) : zapz lf d (evC lf d) (zajt lf d) = zajt lf d := by
  unfold zapz
  refine Eq.trans (zaba ?_) ?_
  · exact (zaam _ _ _ (by intro y0 y2 y3 y4 y11 y12 y13 y14; show _ = _; (try simp only [zaag, zaah]); kernel_rfl))
  rfl
theorem zbks (lf d : Nat) (a0 : Value) : inside (zasw lf d (evC lf d) a0) = evC lf (d + 1) 67 #[a0] := by
 unfold zasw; (try simp only [zble lf d, zaxp, az132, zaag, zaeg, zafe (P := PP) gs132, zaah]); kernel_rfl

noncomputable def zbau (lf d : Nat) (rec : RT) (a0 : Value) : M Value :=
 optK (len2 PP #[22] [a0]) fun v4n1 =>
 (inside (rec 91 #[v4n1])).bind fun v5n2 =>
 ifV v5n2 (
  (inside (rec 103 #[a0, (Value.func (.func 106) #[] #[])])).bind fun v8n3 =>
  optK (un3 PP .not v8n3) fun v9n4 =>
  outK [v9n4]) (
  outK [(Value.bool false)])
theorem zbrr (lf d : Nat) (a0 : Value) : inside (zbau lf d (evC lf d) a0) = evC lf (d + 1) 68 #[a0] := by
 unfold zbau; (try simp only [zaag, zaah, zack]); kernel_rfl

noncomputable def zalg (lf d fu : Nat) (k : KT) (x0 x1 x4 x13 x14 x15 : Value) : M Value := loopK (fun s1 k1 => codeK PP (evC lf d) (gtA 69) lf (codeAt (bodyOf PP 69) [true, true, true, false, false]) s1 k1) [0, 1, 4, 13, 14, 15] fu [(0, x0), (1, x1), (4, x4), (13, x13), (14, x14), (15, x15)] k
noncomputable def zakt (lf d : Nat) : KT := contAt PP (evC lf d) (gtA 69) lf (bodyOf PP 69) [true, true, true, false] (endK PP (resOf PP 69))
noncomputable def zazl (lf d fu : Nat) (k : KT) (x0 x1 x4 x6 x13 x14 x15 x16 : Value) : M Value := loopK (fun s1 k1 => codeK PP (evC lf d) (gtA 69) lf (codeAt (bodyOf PP 69) [true, true, true, false, false, true, true, false, false, true, false, false, false]) s1 k1) [0, 1, 4, 6, 13, 14, 15, 16] fu [(0, x0), (1, x1), (4, x4), (6, x6), (13, x13), (14, x14), (15, x15), (16, x16)] k
noncomputable def zaks (lf d fu : Nat) (k : KT) : KT := contAt PP (evC lf d) (gtA 69) lf (codeAt (bodyOf PP 69) [true, true, true, false, false]) [true, true, false, false, true, false, false] (againK (fun s1 => loopK (fun s1 k1 => codeK PP (evC lf d) (gtA 69) lf (codeAt (bodyOf PP 69) [true, true, true, false, false]) s1 k1) [0, 1, 4, 13, 14, 15] fu (s1.keep [0, 1, 4, 13, 14, 15]) k) k)
noncomputable def zazo (lf d fu : Nat) (k : KT) (x0 x1 x4 x6 x13 x14 x15 x16 x21 : Value) : M Value := loopK (fun s1 k1 => codeK PP (evC lf d) (gtA 69) lf (codeAt (bodyOf PP 69) [true, true, true, false, false, true, true, false, false, true, true, false, false, false]) s1 k1) [0, 1, 4, 6, 13, 14, 15, 16, 21] fu [(0, x0), (1, x1), (4, x4), (6, x6), (13, x13), (14, x14), (15, x15), (16, x16), (21, x21)] k
noncomputable def zaku (lf d fu : Nat) (k : KT) : KT := contAt PP (evC lf d) (gtA 69) lf (codeAt (bodyOf PP 69) [true, true, true, false, false]) [true, true, false, false, true, true, false, false] (againK (fun s1 => loopK (fun s1 k1 => codeK PP (evC lf d) (gtA 69) lf (codeAt (bodyOf PP 69) [true, true, true, false, false]) s1 k1) [0, 1, 4, 13, 14, 15] fu (s1.keep [0, 1, 4, 13, 14, 15]) k) k)
noncomputable def zati (lf d : Nat) (rec : RT) (dflt : KT) : KT := (kEx 0 (runCur [0, 1, 4, 13, 14, 15, 16] (fun y0 y1 y4 y13 y14 y15 y16 =>
 outK []) (dflt (Ex.exit 0))) dflt)
noncomputable def zamx (lf d : Nat) (rec : RT) (k : KT) : Nat → Value → Value → Value → Value → Value → Value → Value → Value → M Value
 | 0, _, _, _, _, _, _, _, _ => M.fail
 | fu + 1, x0, x1, x4, x6, x13, x14, x15, x16 =>
  optK (q_lss PP 3 x4 x6) fun v21n8 =>
  ifV v21n8 (
   callV PP rec x1 [(Value.int .i64 2), (Value.int .i64 2)] fun v25n9 =>
   optK (q_add PP 3 x4 (Value.int .i64 1)) fun v23n10 =>
   zamx lf d rec k fu x0 x1 v23n10 x6 x13 x14 x15 x16) (
   k (Ex.exit 2) [(0, x0), (1, x1), (4, x4), (6, x6), (13, x13), (14, x14), (15, x15), (16, x16), (21, v21n8)])
noncomputable def zamn (lf d : Nat) (rec : RT) (k : KT) : Nat → Value → Value → Value → Value → Value → Value → Value → Value → Value → M Value
 | 0, _, _, _, _, _, _, _, _, _ => M.fail
 | fu + 1, x0, x1, x4, x6, x13, x14, x15, x16, x21 =>
  optK (q_gtr PP 3 x4 x6) fun v28n11 =>
  ifV v28n11 (
   callV PP rec x1 [(Value.int .i64 3), (Value.int .i64 2)] fun v32n12 =>
   optK (q_sub PP 3 x4 (Value.int .i64 1)) fun v30n13 =>
   zamn lf d rec k fu x0 x1 v30n13 x6 x13 x14 x15 x16 x21) (
   k (Ex.exit 4) [(0, x0), (1, x1), (4, x4), (6, x6), (13, x13), (14, x14), (15, x15), (16, x16), (21, x21), (28, v28n11)])
noncomputable def zaso (lf d : Nat) (rec : RT) (fu : Nat) (k : KT) (again : Value → Value → Value → Value → Value → Value → M Value) (dflt : KT) : KT := (kEx 4 (runCur [0, 1, 4, 6, 13, 14, 15, 16, 21, 28] (fun y0 y1 y4 y6 y13 y14 y15 y16 y21 y28 =>
 callV PP rec y1 [(Value.int .i64 0), (Value.int .i64 1)] fun v34n14 =>
 optK (q_add PP 3 y15 (Value.int .i64 1)) fun v35n15 =>
 again y0 y1 y4 y13 y14 v35n15) (dflt (Ex.exit 4))) dflt)
noncomputable def zatc (lf d : Nat) (rec : RT) (fu : Nat) (k : KT) (again : Value → Value → Value → Value → Value → Value → M Value) (dflt : KT) : KT := (kEx 2 (runCur [0, 1, 4, 6, 13, 14, 15, 16, 21] (fun y0 y1 y4 y6 y13 y14 y15 y16 y21 =>
 zamn lf d rec (zaso lf d rec fu k again (zaku lf d fu k)) lf y0 y1 y4 y6 y13 y14 y15 y16 y21) (dflt (Ex.exit 2))) dflt)
noncomputable def zami (lf d : Nat) (rec : RT) (k : KT) : Nat → Value → Value → Value → Value → Value → Value → M Value
 | 0, _, _, _, _, _, _ => M.fail
 | fu + 1, x0, x1, x4, x13, x14, x15 =>
  optK (q_lss PP 3 x15 x14) fun v16n5 =>
  ifV v16n5 (
   optK (evIA3 PP 22 1 x13 x15) fun v17n6 =>
   insB (zaai PP 3 v17n6) fun v18n7 =>
   zamx lf d rec (zatc lf d rec fu k (zami lf d rec k fu) (zaks lf d fu k)) lf x0 x1 x4 v18n7 x13 x14 x15 v16n5) (
   k (Ex.exit 0) [(0, x0), (1, x1), (4, x4), (13, x13), (14, x14), (15, x15), (16, v16n5)])
noncomputable def zavt (lf d : Nat) (rec : RT) (a0 a1 : Value) : M Value :=
 optK (evIA3 PP 22 1 a0 (Value.int .i64 0)) fun v8n1 =>
 insB (zaai PP 3 v8n1) fun v9n2 =>
 callV PP rec a1 [v9n2, (Value.int .i64 5)] fun v12n3 =>
 optK (len2 PP #[22] [a0]) fun v14n4 =>
 zami lf d rec (zati lf d rec (zakt lf d)) lf a0 a1 v9n2 a0 v14n4 (Value.int .i64 0)
set_option maxRecDepth 20000 in
theorem zbnn (lf d : Nat) : zati lf d (evC lf d) (zakt lf d) = zakt lf d := by
  unfold zati
  refine Eq.trans (zaba ?_) ?_
  · exact (zaam _ _ _ (by intro y0 y1 y4 y13 y14 y15 y16; show _ = _; (try simp only [zaag, zaah]); kernel_rfl))
  rfl
theorem zazz (lf d : Nat) (k : KT) : ∀ fu : Nat, zamx lf d (evC lf d) k fu = zazl lf d fu k
 | 0 => by funext x0 x1 x4 x6 x13 x14 x15 x16; kernel_rfl
 | fu + 1 => by
  have ih := zazz lf d k fu
  funext x0 x1 x4 x6 x13 x14 x15 x16; simp only [zamx, ih, zaag, zaah, zaap (P := PP) nf3, zaat (P := PP) nf3]; kernel_rfl
theorem zbac (lf d : Nat) (k : KT) : ∀ fu : Nat, zamn lf d (evC lf d) k fu = zazo lf d fu k
 | 0 => by funext x0 x1 x4 x6 x13 x14 x15 x16 x21; kernel_rfl
 | fu + 1 => by
  have ih := zbac lf d k fu
  funext x0 x1 x4 x6 x13 x14 x15 x16 x21; simp only [zamn, ih, zaag, zaah, zacq (P := PP) nf3, zabd (P := PP) nf3]; kernel_rfl
set_option maxRecDepth 20000 in
theorem zbmb (lf d fu : Nat) (k : KT) (again : Value → Value → Value → Value → Value → Value → M Value) (ha : again = zalg lf d fu k) : zaso lf d (evC lf d) fu k again (zaku lf d fu k) = zaku lf d fu k := by
  subst ha
  unfold zaso
  refine Eq.trans (zaba ?_) ?_
  · exact (zaam _ _ _ (by intro y0 y1 y4 y6 y13 y14 y15 y16 y21 y28; show _ = _; (try simp only [zaag, zaah, zaap (P := PP) nf3]); kernel_rfl))
  rfl
set_option maxRecDepth 20000 in
theorem zbnd (lf d fu : Nat) (k : KT) (again : Value → Value → Value → Value → Value → Value → M Value) (ha : again = zalg lf d fu k) : zatc lf d (evC lf d) fu k again (zaks lf d fu k) = zaks lf d fu k := by
  subst ha
  unfold zatc
  refine Eq.trans (zaba ?_) ?_
  · exact (zaam _ _ _ (by intro y0 y1 y4 y6 y13 y14 y15 y16 y21; show _ = _; (try simp only [zbmb lf d fu k _ rfl, zbac, zaag, zaah]); kernel_rfl))
  rfl
theorem zazq (lf d : Nat) (k : KT) : ∀ fu : Nat, zami lf d (evC lf d) k fu = zalg lf d fu k
 | 0 => by funext x0 x1 x4 x13 x14 x15; kernel_rfl
 | fu + 1 => by
  have ih := zazq lf d k fu
  funext x0 x1 x4 x13 x14 x15; simp only [zami, ih, zbnd lf d fu k _ rfl, zazz, zaag, zaax (P := PP) Tryz.underlying22 gs3, zaaj (P := PP) ga3, zaah, zaat (P := PP) nf3]; kernel_rfl
theorem zbnp (lf d : Nat) (a0 a1 : Value) : inside (zavt lf d (evC lf d) a0 a1) = evC lf (d + 1) 69 #[a0, a1] := by
 unfold zavt; (try simp only [zbnn lf d, zazq, zaag, zaax (P := PP) Tryz.underlying22 gs3, zaaj (P := PP) ga3, zaah]); kernel_rfl

noncomputable def zapx (lf d : Nat) (rec : RT) (a0 a1 a2 : Value) : M Value :=
 insB (zaai PP 27 a2) fun v5n1 =>
 conv3 PP 3 23 .i64 .u32 a0 fun v7n2 =>
 (inside (rec 10 #[v5n1, v7n2, a1])).bind fun v9n3 =>
 outK []
theorem zbjw (lf d : Nat) (a0 a1 a2 : Value) : inside (zapx lf d (evC lf d) a0 a1 a2) = evC lf (d + 1) 70 #[a0, a1, a2] := by
 unfold zapx; (try simp only [zaag, zade zbrz, zaaj (P := PP) ga27, zaah]); kernel_rfl

noncomputable def zavu (lf d : Nat) (rec : RT) (a0 : Value) : M Value :=
 (inside (rec 108 #[a0])).bind fun v7n1 =>
 optK (evExtract v7n1 0) fun v8n2 =>
 optK (evExtract v7n1 1) fun v9n3 =>
 optK (q_eql PP 29 v9n3 (Value.int .i64 0)) fun v11n4 =>
 ifV v11n4 (
  optK (q_eql PP 3 v8n2 (Value.int .i64 1048576)) fun v14n5 =>
  ifV v14n5 (
   (inside (rec 109 #[a0, (Value.int .i64 0)])).bind fun v18n6 =>
   optK (un3 PP .not v18n6) fun v19n7 =>
   outK [v19n7]) (
   outK [(Value.bool false)])) (
  outK [(Value.bool false)])
theorem zbmw (lf d : Nat) (a0 : Value) : inside (zavu lf d (evC lf d) a0) = evC lf (d + 1) 71 #[a0] := by
 unfold zavu; (try simp only [zaag, zaah, zabk (P := PP) nf29, zabk (P := PP) nf3, zack]); kernel_rfl

noncomputable def zail (lf d : Nat) (rec : RT) (a0 : Value) : M Value :=
 optK (bin2 PP .eql 22 a0 (Value.slice none 0 0)) fun v4n1 =>
 ifV v4n1 (
  outK [(Value.slice none 0 0)]) (
  insB (evBS3 PP 22 0 []) fun v5n2 =>
  insB (zach PP 22 v5n2 a0) fun v7n3 =>
  outK [v7n3])
theorem zayi (lf d : Nat) (a0 : Value) : inside (zail lf d (evC lf d) a0) = evC lf (d + 1) 72 #[a0] := by
 unfold zail; (try simp only [zaag, zacd, zaeh, zaah]); kernel_rfl

noncomputable def zapv (lf d : Nat) (rec : RT) (a0 a1 : Value) : M Value :=
 optK (zacg PP 72 a0 (Value.pointer none)) fun v9n1 =>
 ifV v9n1 (
  outK [(Value.int .u32 0), (Value.int .i64 0), (Value.int .i64 7)]) (
  optK (q_lss PP 3 a1 (Value.int .i64 0)) fun v12n2 =>
  ifV v12n2 (
   outK [(Value.int .u32 0), (Value.int .i64 0), (Value.int .i64 1)]) (
   optK (nil2 a0) fun v16n3 =>
   optK (evFA3 PP 111 0 v16n3 0) fun v17n4 =>
   insB (zaai PP 22 v17n4) fun v18n5 =>
   optK (len2 PP #[22] [v18n5]) fun v19n6 =>
   optK (q_geq PP 3 a1 v19n6) fun v20n7 =>
   ifV v20n7 (
    outK [(Value.int .u32 0), (Value.int .i64 0), (Value.int .i64 1)]) (
    optK (nil2 a0) fun v23n8 =>
    optK (evFA3 PP 111 1 v23n8 1) fun v24n9 =>
    insB (zaai PP 107 v24n9) fun v25n10 =>
    optK (evIA3 PP 107 1 v25n10 a1) fun v27n11 =>
    insB (zaai PP 23 v27n11) fun v28n12 =>
    optK (nil2 a0) fun v30n13 =>
    optK (evFA3 PP 111 0 v30n13 0) fun v31n14 =>
    insB (zaai PP 22 v31n14) fun v32n15 =>
    optK (evIA3 PP 22 1 v32n15 a1) fun v34n16 =>
    insB (zaai PP 3 v34n16) fun v35n17 =>
    outK [v28n12, v35n17, (Value.int .i64 0)])))
theorem zbjz (lf d : Nat) (a0 a1 : Value) : inside (zapv lf d (evC lf d) a0 a1) = evC lf (d + 1) 73 #[a0, a1] := by
 unfold zapv; (try simp only [zaag, zaal (P := PP) zcix, zaal (P := PP) zbxo, zaax (P := PP) Tryz.underlying107 gs23, zaax (P := PP) Tryz.underlying22 gs3, zaaj (P := PP) ga107, zaaj (P := PP) ga22, zaaj (P := PP) ga23, zaaj (P := PP) ga3, zaah, zabc (P := PP) Tryz.underlying72, zadp (P := PP) nf3, zaat (P := PP) nf3]); kernel_rfl

noncomputable def zatr (lf d : Nat) (rec : RT) (a0 a1 a2 : Value) : M Value :=
 insB (zaai PP 3 a2) fun v5n1 =>
 optK (q_add PP 3 v5n1 a1) fun v7n2 =>
 insB (zaaq PP 3 a2 v7n2) fun u3 =>
 outK []
theorem zblp (lf d : Nat) (a0 a1 a2 : Value) : inside (zatr lf d (evC lf d) a0 a1 a2) = evC lf (d + 1) 74 #[a0, a1, a2] := by
 unfold zatr; (try simp only [zaag, zaaj (P := PP) ga3, zaao (P := PP) gs3, zaah, zaap (P := PP) nf3]); kernel_rfl

noncomputable def zava (lf d : Nat) (rec : RT) (a0 : Value) : M Value :=
 optK (q_leq PP 3 a0 (Value.int .i64 0)) fun v4n1 =>
 ifV v4n1 (
  outK [(Value.int .i64 0)]) (
  optK (q_sub PP 3 a0 (Value.int .i64 1)) fun v6n2 =>
  optK (q_quo PP 3 v6n2 (Value.int .i64 50)) fun v7n3 =>
  optK (q_add PP 3 v7n3 (Value.int .i64 1)) fun v8n4 =>
  outK [v8n4])
theorem zbmo (lf d : Nat) (a0 : Value) : inside (zava lf d (evC lf d) a0) = evC lf (d + 1) 75 #[a0] := by
 unfold zava; (try simp only [zaag, zaah, zaap (P := PP) nf3, zafx (P := PP) nf3, zato (P := PP) nf3, zabd (P := PP) nf3]); kernel_rfl

noncomputable def zaxu (lf d : Nat) (rec : RT) (a0 a1 : Value) : M Value :=
 optK (q_lss PP 3 a1 (Value.int .i64 0)) fun v7n1 =>
 ifV v7n1 (
  outK [(Value.slice none 0 0), (Value.int .i64 1)]) (
  optK (len2 PP #[22] [a0]) fun v11n2 =>
  (inside (rec 75 #[v11n2])).bind fun v12n3 =>
  optK (q_geq PP 3 a1 v12n3) fun v13n4 =>
  ifV v13n4 (
   outK [(Value.slice none 0 0), (Value.int .i64 1)]) (
   (inside (rec 110 #[a0, a1, (Value.int .i64 50)])).bind fun v17n5 =>
   outK [v17n5, (Value.int .i64 0)]))
theorem zbnz (lf d : Nat) (a0 a1 : Value) : inside (zaxu lf d (evC lf d) a0 a1) = evC lf (d + 1) 76 #[a0, a1] := by
 unfold zaxu; (try simp only [zaag, zaah, zadp (P := PP) nf3, zaat (P := PP) nf3]); kernel_rfl

noncomputable def zbfm (lf d fu : Nat) (k : KT) (x0 x1 x4 x5 x6 x11 x12 x13 x14 : Value) : M Value := loopK (fun s1 k1 => codeK PP (evC lf d) (gtA 77) lf (codeAt (bodyOf PP 77) [true, true, true, false, true, false, false]) s1 k1) [0, 1, 4, 5, 6, 11, 12, 13, 14] fu [(0, x0), (1, x1), (4, x4), (5, x5), (6, x6), (11, x11), (12, x12), (13, x13), (14, x14)] k
noncomputable def zaoi (lf d : Nat) : KT := contAt PP (evC lf d) (gtA 77) lf (bodyOf PP 77) [true, true, true, false, true, false] (endK PP (resOf PP 77))
noncomputable def zapy (lf d : Nat) (rec : RT) (k : KT) : Nat → Value → Value → Value → Value → Value → Value → Value → Value → Value → M Value
 | 0, _, _, _, _, _, _, _, _, _ => M.fail
 | fu + 1, x0, x1, x4, x5, x6, x11, x12, x13, x14 =>
  optK (q_lss PP 3 x14 x13) fun v15n4 =>
  ifV v15n4 (
   optK (evIA3 PP 22 1 x12 x14) fun v16n5 =>
   insB (zaai PP 3 v16n5) fun v17n6 =>
   optK (q_lss PP 3 v17n6 (Value.int .i64 0)) fun v19n7 =>
   ifV v19n7 (
    k Ex.ret [(0, x0), (1, x1), (4, (Value.int .i64 0)), (5, (Value.int .i64 1)), (6, x6), (8, v17n6), (11, x11), (12, x12), (13, x13), (14, x14), (15, v15n4), (25, (Value.bool true))]) (
    optK (len2 PP #[22] [x1]) fun v23n8 =>
    optK (q_geq PP 3 v17n6 v23n8) fun v24n9 =>
    ifV v24n9 (
     k Ex.ret [(0, x0), (1, x1), (4, (Value.int .i64 0)), (5, (Value.int .i64 1)), (6, x6), (8, v17n6), (11, x11), (12, x12), (13, x13), (14, x14), (15, v15n4), (25, v24n9)]) (
     optK (evIA3 PP 22 1 x1 v17n6) fun v29n10 =>
     insB (zaai PP 3 v29n10) fun v30n11 =>
     (inside (rec 112 #[x6, v30n11])).bind fun v31n12 =>
     optK (q_add PP 3 x14 (Value.int .i64 1)) fun v32n13 =>
     zapy lf d rec k fu x0 x1 x4 x5 v31n12 x11 x12 x13 v32n13))) (
   k (Ex.exit 0) [(0, x0), (1, x1), (4, x4), (5, x5), (6, x6), (11, x11), (12, x12), (13, x13), (14, x14), (15, v15n4)])
noncomputable def zaxt (lf d : Nat) (rec : RT) (dflt : KT) : KT := (kEx 0 (runCur [0, 1, 4, 5, 6, 11, 12, 13, 14, 15] (fun y0 y1 y4 y5 y6 y11 y12 y13 y14 y15 =>
 outK [y6, (Value.int .i64 0)]) (dflt (Ex.exit 0))) (kRt (runCur [0, 1, 4, 5, 6, 8, 11, 12, 13, 14, 15, 25] (fun y0 y1 y4 y5 y6 y8 y11 y12 y13 y14 y15 y25 =>
 outK [y4, y5]) (dflt Ex.ret)) dflt))
noncomputable def zbas (lf d : Nat) (rec : RT) (a0 a1 : Value) : M Value :=
 (inside (rec 111 #[a1])).bind fun v10n1 =>
 optK (un3 PP .not v10n1) fun v11n2 =>
 ifV v11n2 (
  outK [(Value.int .i64 0), (Value.int .i64 1)]) (
  optK (len2 PP #[22] [a0]) fun v13n3 =>
  zapy lf d rec (zaxt lf d rec (zaoi lf d)) lf a0 a1 (Value.int .i64 0) (Value.int .i64 0) (Value.int .i64 0) v11n2 a0 v13n3 (Value.int .i64 0))
theorem zbff (lf d : Nat) (k : KT) : ∀ fu : Nat, zapy lf d (evC lf d) k fu = zbfm lf d fu k
 | 0 => by funext x0 x1 x4 x5 x6 x11 x12 x13 x14; kernel_rfl
 | fu + 1 => by
  have ih := zbff lf d k fu
  funext x0 x1 x4 x5 x6 x11 x12 x13 x14; simp only [zapy, ih, zaag, zaax (P := PP) Tryz.underlying22 gs3, zaaj (P := PP) ga3, zaah, zaap (P := PP) nf3, zadp (P := PP) nf3, zaat (P := PP) nf3]; kernel_rfl
set_option maxRecDepth 20000 in
theorem zbri (lf d : Nat) : zaxt lf d (evC lf d) (zaoi lf d) = zaoi lf d := by
  unfold zaxt
  refine Eq.trans (zaba ?_) ?_
  · exact (zaam _ _ _ (by intro y0 y1 y4 y5 y6 y11 y12 y13 y14 y15; show _ = _; (try simp only [zaag, zaah]); kernel_rfl))
  refine Eq.trans (zant ?_) ?_
  · exact (zaam _ _ _ (by intro y0 y1 y4 y5 y6 y8 y11 y12 y13 y14 y15 y25; show _ = _; (try simp only [zaag, zaah]); kernel_rfl))
  rfl
theorem zbrf (lf d : Nat) (a0 a1 : Value) : inside (zbas lf d (evC lf d) a0 a1) = evC lf (d + 1) 77 #[a0, a1] := by
 unfold zbas; (try simp only [zbri lf d, zbff, zaag, zaah, zack]); kernel_rfl

noncomputable def zavi (lf d : Nat) (rec : RT) (a0 : Value) : M Value :=
 optK (q_geq PP 3 a0 (Value.int .i64 3)) fun v4n1 =>
 ifV v4n1 (
  optK (q_leq PP 3 a0 (Value.int .i64 258)) fun v7n2 =>
  outK [v7n2]) (
  outK [(Value.bool false)])
theorem zbmh (lf d : Nat) (a0 : Value) : inside (zavi lf d (evC lf d) a0) = evC lf (d + 1) 91 #[a0] := by
 unfold zavi; (try simp only [zaag, zaah, zadp (P := PP) nf3, zafx (P := PP) nf3]); kernel_rfl

noncomputable def zafp (lf d fu : Nat) (k : KT) (x0 x1 x3 : Value) : M Value := loopK (fun s1 k1 => codeK PP (evC lf d) (gtA 92) lf (codeAt (bodyOf PP 92) [true, true, false, true, false, false]) s1 k1) [0, 1, 3] fu [(0, x0), (1, x1), (3, x3)] k
noncomputable def zaei (lf d : Nat) : KT := contAt PP (evC lf d) (gtA 92) lf (bodyOf PP 92) [true, true, false, true, false] (endK PP (resOf PP 92))
noncomputable def zamt (lf d : Nat) (rec : RT) (k : KT) : Nat → Value → Value → Value → M Value
 | 0, _, _, _ => M.fail
 | fu + 1, x0, x1, x3 =>
  optK (q_lss PP 3 x3 (Value.int .i64 6)) fun v4n3 =>
  ifV v4n3 (
   optK (zaht PP 132 6 1 x1 x3) fun v8n4 =>
   insB (zaaq PP 3 v8n4 x3) fun u5 =>
   optK (q_add PP 3 x3 (Value.int .i64 1)) fun v9n6 =>
   zamt lf d rec k fu x0 x1 v9n6) (
   k (Ex.exit 0) [(0, x0), (1, x1), (3, x3), (4, v4n3)])
noncomputable def zatp (lf d : Nat) (rec : RT) (dflt : KT) : KT := (kEx 0 (runCur [0, 1, 3, 4] (fun y0 y1 y3 y4 =>
 insB (zats PP 132 6 y1) fun v10n7 =>
 insB (zadg PP 132 6 y0 v10n7) fun u8 =>
 (evLoad PP 132 y0).bind fun vrn9 =>
 outK [vrn9]) (dflt (Ex.exit 0))) dflt)
noncomputable def zavk (lf d : Nat) (rec : RT) : M Value :=
 insB (evAllocZ 132 (repV (Value.int .i64 0) 6)) fun v0n1 =>
 insB (evAllocZ 132 (repV (Value.int .i64 0) 6)) fun v1n2 =>
 zamt lf d rec (zatp lf d rec (zaei lf d)) lf v0n1 v1n2 (Value.int .i64 0)
theorem zazg (lf d : Nat) (k : KT) : ∀ fu : Nat, zamt lf d (evC lf d) k fu = zafp lf d fu k
 | 0 => by funext x0 x1 x3; kernel_rfl
 | fu + 1 => by
  have ih := zazg lf d k fu
  funext x0 x1 x3; simp only [zamt, ih, zaag, zago (P := PP) Tryz.underlying132 gs3, zaao (P := PP) gs3, zaah, zaap (P := PP) nf3, zaat (P := PP) nf3]; kernel_rfl
set_option maxRecDepth 20000 in
theorem zbnk (lf d : Nat) : zatp lf d (evC lf d) (zaei lf d) = zaei lf d := by
  unfold zatp
  refine Eq.trans (zaba ?_) ?_
  · exact (zaam _ _ _ (by intro y0 y1 y3 y4; show _ = _; (try simp only [zaag, zauc (P := PP) ga132 gs132, zafe (P := PP) gs132, zaah]); kernel_rfl))
  rfl
theorem zbmt (lf d : Nat) : inside (zavk lf d (evC lf d)) = evC lf (d + 1) 92 #[] := by
 unfold zavk; (try simp only [zbnk lf d, zazg, az132, zaag, zaah]); kernel_rfl

noncomputable def zaot (lf d : Nat) (rec : RT) (a0 a1 : Value) : M Value :=
 optK (zacg PP 72 a0 (Value.pointer none)) fun v10n1 =>
 ifV v10n1 (
  outK [(Value.int .i64 0), (Value.int .i64 7)]) (
  optK (zacg PP 42 a1 (Value.pointer none)) fun v13n2 =>
  ifV v13n2 (
   outK [(Value.int .i64 0), (Value.int .i64 7)]) (
   (inside (rec 24 #[a1])).bind fun v16n3 =>
   (inside (rec 120 #[a0, a1])).bind fun v20n4 =>
   optK (evExtract v20n4 0) fun v21n5 =>
   optK (evExtract v20n4 1) fun v22n6 =>
   optK (q_neq PP 29 v22n6 (Value.int .i64 0)) fun v24n7 =>
   ifV v24n7 (
    (inside (rec 21 #[a1, v16n3])).bind fun v27n8 =>
    outK [v21n5, v22n6]) (
    outK [v21n5, v22n6])))
theorem zbih (lf d : Nat) (a0 a1 : Value) : inside (zaot lf d (evC lf d) a0 a1) = evC lf (d + 1) 93 #[a0, a1] := by
 unfold zaot; (try simp only [zaag, zaah, zabc (P := PP) Tryz.underlying42, zabc (P := PP) Tryz.underlying72, zabg (P := PP) nf29]); kernel_rfl

noncomputable def zaki (lf d : Nat) (rec : RT) (a0 a1 : Value) : M Value :=
 optK (zacg PP 97 a0 (Value.pointer none)) fun v10n1 =>
 ifV v10n1 (
  outK [(Value.int .i64 7)]) (
  optK (zacg PP 42 a1 (Value.pointer none)) fun v13n2 =>
  ifV v13n2 (
   outK [(Value.int .i64 7)]) (
   (inside (rec 59 #[a0])).bind fun v17n3 =>
   ifV v17n3 (
    outK [(Value.int .i64 7)]) (
    optK (nil2 a0) fun v21n4 =>
    optK (evFA3 PP 135 9 v21n4 4) fun v22n5 =>
    insB (zaai PP 4 v22n5) fun v23n6 =>
    ifV v23n6 (
     outK [(Value.int .i64 25)]) (
     (inside (rec 24 #[a1])).bind fun v25n7 =>
     optK (nil2 a0) fun v29n8 =>
     optK (evFA3 PP 135 1 v29n8 1) fun v30n9 =>
     insB (zaai PP 3 v30n9) fun v31n10 =>
     optK (q_eql PP 3 v31n10 (Value.int .i64 0)) fun v32n11 =>
     ifV v32n11 (
      callV PP rec (Value.func (Go.Fn.func 122) #[a0] #[]) [a1] fun v37n12 =>
      optK (q_eql PP 29 v37n12 (Value.int .i64 3)) fun v39n13 =>
      ifV v39n13 (
       (inside (rec 21 #[a1, v25n7])).bind fun v42n14 =>
       outK [v37n12]) (
       outK [v37n12])) (
      callV PP rec (Value.func (Go.Fn.func 121) #[a0] #[]) [a1] fun v37n15 =>
      optK (q_eql PP 29 v37n15 (Value.int .i64 3)) fun v39n16 =>
      ifV v39n16 (
       (inside (rec 21 #[a1, v25n7])).bind fun v42n17 =>
       outK [v37n15]) (
       outK [v37n15]))))))
theorem zbby (lf d : Nat) (a0 a1 : Value) : inside (zaki lf d (evC lf d) a0 a1) = evC lf (d + 1) 94 #[a0, a1] := by
 unfold zaki; (try simp only [zaag, zaal (P := PP) zbpl, zaal (P := PP) zbxz, zaaj (P := PP) ga3, zaaj (P := PP) ga4, zaah, zabc (P := PP) Tryz.underlying42, zabc (P := PP) Tryz.underlying97, zabk (P := PP) nf29, zabk (P := PP) nf3]); kernel_rfl

noncomputable def zakc (lf d : Nat) (rec : RT) (a0 a1 : Value) : M Value :=
 optK (zacg PP 94 a0 (Value.pointer none)) fun v9n1 =>
 ifV v9n1 (
  outK [(Value.int .i64 7)]) (
  optK (zacg PP 42 a1 (Value.pointer none)) fun v12n2 =>
  ifV v12n2 (
   outK [(Value.int .i64 7)]) (
   (inside (rec 96 #[a0])).bind fun v16n3 =>
   ifV v16n3 (
    outK [(Value.int .i64 7)]) (
    optK (nil2 a0) fun v20n4 =>
    optK (evFA3 PP 130 3 v20n4 3) fun v21n5 =>
    insB (zaai PP 4 v21n5) fun v22n6 =>
    ifV v22n6 (
     outK [(Value.int .i64 22)]) (
     (inside (rec 24 #[a1])).bind fun v24n7 =>
     (inside (rec 123 #[a0, a1])).bind fun v27n8 =>
     optK (q_eql PP 29 v27n8 (Value.int .i64 3)) fun v29n9 =>
     ifV v29n9 (
      (inside (rec 21 #[a1, v24n7])).bind fun v32n10 =>
      outK [v27n8]) (
      outK [v27n8])))))
theorem zbbn (lf d : Nat) (a0 a1 : Value) : inside (zakc lf d (evC lf d) a0 a1) = evC lf (d + 1) 95 #[a0, a1] := by
 unfold zakc; (try simp only [zaag, zaal (P := PP) zbvd, zaaj (P := PP) ga4, zaah, zabc (P := PP) Tryz.underlying42, zabc (P := PP) Tryz.underlying94, zabk (P := PP) nf29]); kernel_rfl

noncomputable def zaka (lf d : Nat) (rec : RT) (a0 : Value) : M Value :=
 optK (zbig PP 94 a0 (Value.pointer none)) fun v4n1 =>
 ifV v4n1 (
  optK (nil2 a0) fun v7n2 =>
  optK (evFA3 PP 130 2 v7n2 2) fun v8n3 =>
  insB (zaai PP 22 v8n3) fun v9n4 =>
  optK (len2 PP #[22] [v9n4]) fun v10n5 =>
  optK (nil2 a0) fun v12n6 =>
  optK (evFA3 PP 130 0 v12n6 0) fun v13n7 =>
  insB (zaai PP 3 v13n7) fun v14n8 =>
  optK (q_eql PP 3 v10n5 v14n8) fun v15n9 =>
  outK [v15n9]) (
  outK [(Value.bool false)])
theorem zbbe (lf d : Nat) (a0 : Value) : inside (zaka lf d (evC lf d) a0) = evC lf (d + 1) 96 #[a0] := by
 unfold zaka; (try simp only [zaag, zaal (P := PP) zche, zaal (P := PP) zboy, zaaj (P := PP) ga22, zaaj (P := PP) ga3, zaah, zbhw (P := PP) Tryz.underlying94, zabk (P := PP) nf3]); kernel_rfl

noncomputable def zakh (lf d : Nat) (rec : RT) (a0 : Value) : M Value :=
 optK (zacg PP 94 a0 (Value.pointer none)) fun v4n1 =>
 ifV v4n1 (
  outK [(Value.slice none 0 0)]) (
  optK (nil2 a0) fun v6n2 =>
  optK (evFA3 PP 130 2 v6n2 2) fun v7n3 =>
  insB (zaai PP 22 v7n3) fun v8n4 =>
  (inside (rec 72 #[v8n4])).bind fun v9n5 =>
  outK [v9n5])
theorem zbbm (lf d : Nat) (a0 : Value) : inside (zakh lf d (evC lf d) a0) = evC lf (d + 1) 97 #[a0] := by
 unfold zakh; (try simp only [zaag, zaal (P := PP) zboy, zaaj (P := PP) ga22, zaah, zabc (P := PP) Tryz.underlying94]); kernel_rfl

noncomputable def zazm (lf d fu : Nat) (k : KT) (x0 x1 x4 x5 x6 x14 x17 x18 x19 : Value) : M Value := loopK (fun s1 k1 => codeK PP (evC lf d) (gtA 98) lf (codeAt (bodyOf PP 98) [true, true, true, false, true, false, false]) s1 k1) [0, 1, 4, 5, 6, 14, 17, 18, 19] fu [(0, x0), (1, x1), (4, x4), (5, x5), (6, x6), (14, x14), (17, x17), (18, x18), (19, x19)] k
noncomputable def zala (lf d : Nat) : KT := contAt PP (evC lf d) (gtA 98) lf (bodyOf PP 98) [true, true, true, false, true, false] (endK PP (resOf PP 98))
noncomputable def zamo (lf d : Nat) (rec : RT) (k : KT) : Nat → Value → Value → Value → Value → Value → Value → Value → Value → Value → M Value
 | 0, _, _, _, _, _, _, _, _, _ => M.fail
 | fu + 1, x0, x1, x4, x5, x6, x14, x17, x18, x19 =>
  optK (q_lss PP 3 x19 x18) fun v20n5 =>
  ifV v20n5 (
   optK (evIA3 PP 22 1 x17 x19) fun v21n6 =>
   insB (zaai PP 3 v21n6) fun v22n7 =>
   optK (q_lss PP 3 v22n7 (Value.int .i64 0)) fun v24n8 =>
   ifV v24n8 (
    k Ex.ret [(0, x0), (1, x1), (4, (Value.slice none 0 0)), (5, (Value.int .i64 1)), (6, x6), (8, v22n7), (14, x14), (17, x17), (18, x18), (19, x19), (20, v20n5), (29, (Value.bool true))]) (
    optK (q_geq PP 3 v22n7 x1) fun v28n9 =>
    ifV v28n9 (
     k Ex.ret [(0, x0), (1, x1), (4, (Value.slice none 0 0)), (5, (Value.int .i64 1)), (6, x6), (8, v22n7), (14, x14), (17, x17), (18, x18), (19, x19), (20, v20n5), (29, v28n9)]) (
     optK (evIA3 PP 22 1 x6 v22n7) fun v32n10 =>
     insB (zaai PP 3 v32n10) fun v33n11 =>
     optK (q_add PP 3 v33n11 (Value.int .i64 1)) fun v34n12 =>
     optK (evIA3 PP 22 1 x6 v22n7) fun v35n13 =>
     insB (zaaq PP 3 v35n13 v34n12) fun u14 =>
     optK (q_add PP 3 x19 (Value.int .i64 1)) fun v36n15 =>
     zamo lf d rec k fu x0 x1 x4 x5 x6 x14 x17 x18 v36n15))) (
   k (Ex.exit 0) [(0, x0), (1, x1), (4, x4), (5, x5), (6, x6), (14, x14), (17, x17), (18, x18), (19, x19), (20, v20n5)])
noncomputable def zasr (lf d : Nat) (rec : RT) (dflt : KT) : KT := (kEx 0 (runCur [0, 1, 4, 5, 6, 14, 17, 18, 19, 20] (fun y0 y1 y4 y5 y6 y14 y17 y18 y19 y20 =>
 outK [y6, (Value.int .i64 0)]) (dflt (Ex.exit 0))) (kRt (runCur [0, 1, 4, 5, 6, 8, 14, 17, 18, 19, 20, 29] (fun y0 y1 y4 y5 y6 y8 y14 y17 y18 y19 y20 y29 =>
 outK [y4, y5]) (dflt Ex.ret)) dflt))
noncomputable def zavj (lf d : Nat) (rec : RT) (a0 a1 : Value) : M Value :=
 optK (q_lss PP 3 a1 (Value.int .i64 3)) fun v10n1 =>
 ifV v10n1 (
  outK [(Value.slice none 0 0), (Value.int .i64 1)]) (
  optK (q_gtr PP 3 a1 (Value.int .i64 258)) fun v13n2 =>
  ifV v13n2 (
   outK [(Value.slice none 0 0), (Value.int .i64 1)]) (
   insB (zagt PP 22 a1 a1) fun v16n3 =>
   optK (len2 PP #[22] [a0]) fun v18n4 =>
   zamo lf d rec (zasr lf d rec (zala lf d)) lf a0 a1 (Value.slice none 0 0) (Value.int .i64 0) v16n3 v13n2 a0 v18n4 (Value.int .i64 0)))
theorem zazt (lf d : Nat) (k : KT) : ∀ fu : Nat, zamo lf d (evC lf d) k fu = zazm lf d fu k
 | 0 => by funext x0 x1 x4 x5 x6 x14 x17 x18 x19; kernel_rfl
 | fu + 1 => by
  have ih := zazt lf d k fu
  funext x0 x1 x4 x5 x6 x14 x17 x18 x19; simp only [zamo, ih, zaag, zaax (P := PP) Tryz.underlying22 gs3, zaaj (P := PP) ga3, zaao (P := PP) gs3, zaah, zaap (P := PP) nf3, zadp (P := PP) nf3, zaat (P := PP) nf3]; kernel_rfl
set_option maxRecDepth 20000 in
theorem zbne (lf d : Nat) : zasr lf d (evC lf d) (zala lf d) = zala lf d := by
  unfold zasr
  refine Eq.trans (zaba ?_) ?_
  · exact (zaam _ _ _ (by intro y0 y1 y4 y5 y6 y14 y17 y18 y19 y20; show _ = _; (try simp only [zaag, zaah]); kernel_rfl))
  refine Eq.trans (zant ?_) ?_
  · exact (zaam _ _ _ (by intro y0 y1 y4 y5 y6 y8 y14 y17 y18 y19 y20 y29; show _ = _; (try simp only [zaag, zaah]); kernel_rfl))
  rfl
theorem zbmm (lf d : Nat) (a0 a1 : Value) : inside (zavj lf d (evC lf d) a0 a1) = evC lf (d + 1) 98 #[a0, a1] := by
 unfold zavj; (try simp only [zbne lf d, zazt, zaag, zaeg, zaah, zacq (P := PP) nf3, zaat (P := PP) nf3]); kernel_rfl

noncomputable def zaro (lf d fu : Nat) (k : KT) (x0 x2 x3 x9 x10 : Value) : M Value := loopK (fun s1 k1 => codeK PP (evC lf d) (gtA 99) lf (codeAt (bodyOf PP 99) [true, true, false, true, false, false]) s1 k1) [0, 2, 3, 9, 10] fu [(0, x0), (2, x2), (3, x3), (9, x9), (10, x10)] k
noncomputable def zaha (lf d : Nat) : KT := contAt PP (evC lf d) (gtA 99) lf (bodyOf PP 99) [true, true, false, true, false] (endK PP (resOf PP 99))
noncomputable def zaii (lf d : Nat) (rec : RT) (k : KT) : Nat → Value → Value → Value → Value → Value → M Value
 | 0, _, _, _, _, _ => M.fail
 | fu + 1, x0, x2, x3, x9, x10 =>
  optK (q_lss PP 3 x10 x9) fun v11n3 =>
  ifV v11n3 (
   (inside (rec 76 #[x0, x10])).bind fun v16n4 =>
   optK (evExtract v16n4 0) fun v17n5 =>
   optK (evExtract v16n4 1) fun v18n6 =>
   insB (evBS3 PP 65 1 [(0, v17n5)]) fun v21n7 =>
   insB (zach PP 65 x3 v21n7) fun v22n8 =>
   optK (q_add PP 3 x10 (Value.int .i64 1)) fun v23n9 =>
   zaii lf d rec k fu x0 x2 v22n8 x9 v23n9) (
   k (Ex.exit 0) [(0, x0), (2, x2), (3, x3), (9, x9), (10, x10), (11, v11n3)])
noncomputable def zalp (lf d : Nat) (rec : RT) (dflt : KT) : KT := (kEx 0 (runCur [0, 2, 3, 9, 10, 11] (fun y0 y2 y3 y9 y10 y11 =>
 outK [y3]) (dflt (Ex.exit 0))) dflt)
noncomputable def zann (lf d : Nat) (rec : RT) (a0 : Value) : M Value :=
 optK (len2 PP #[22] [a0]) fun v8n1 =>
 (inside (rec 75 #[v8n1])).bind fun v9n2 =>
 zaii lf d rec (zalp lf d rec (zaha lf d)) lf a0 (Value.slice none 0 0) (Value.slice none 0 0) v9n2 (Value.int .i64 0)
theorem zash (lf d : Nat) (k : KT) : ∀ fu : Nat, zaii lf d (evC lf d) k fu = zaro lf d fu k
 | 0 => by funext x0 x2 x3 x9 x10; kernel_rfl
 | fu + 1 => by
  have ih := zash lf d k fu
  funext x0 x2 x3 x9 x10; simp only [zaii, ih, zaag, zacd, zaeh, zaah, zaap (P := PP) nf3, zaat (P := PP) nf3]; kernel_rfl
set_option maxRecDepth 20000 in
theorem zbgy (lf d : Nat) : zalp lf d (evC lf d) (zaha lf d) = zaha lf d := by
  unfold zalp
  refine Eq.trans (zaba ?_) ?_
  · exact (zaam _ _ _ (by intro y0 y2 y3 y9 y10 y11; show _ = _; (try simp only [zaag, zaah]); kernel_rfl))
  rfl
theorem zbga (lf d : Nat) (a0 : Value) : inside (zann lf d (evC lf d) a0) = evC lf (d + 1) 99 #[a0] := by
 unfold zann; (try simp only [zbgy lf d, zash, zaag, zaah]); kernel_rfl

noncomputable def zaxg (lf d fu : Nat) (k : KT) (x0 x1 x4 x5 x6 x18 x19 : Value) : M Value := loopK (fun s1 k1 => codeK PP (evC lf d) (gtA 100) lf (codeAt (bodyOf PP 100) [true, true, true, false, true, false, false]) s1 k1) [0, 1, 4, 5, 6, 18, 19] fu [(0, x0), (1, x1), (4, x4), (5, x5), (6, x6), (18, x18), (19, x19)] k
noncomputable def zaju (lf d : Nat) : KT := contAt PP (evC lf d) (gtA 100) lf (bodyOf PP 100) [true, true, true, false, true, false] (endK PP (resOf PP 100))
noncomputable def zaon (lf d fu : Nat) (k : KT) (x0 x1 x4 x5 x6 x8 x18 x19 x20 x29 x30 x31 : Value) : M Value := loopK (fun s1 k1 => codeK PP (evC lf d) (gtA 100) lf (codeAt (bodyOf PP 100) [true, true, true, true, true, false, true, false, false]) s1 k1) [0, 1, 4, 5, 6, 8, 18, 19, 20, 29, 30, 31] fu [(0, x0), (1, x1), (4, x4), (5, x5), (6, x6), (8, x8), (18, x18), (19, x19), (20, x20), (29, x29), (30, x30), (31, x31)] k
noncomputable def zajs (lf d : Nat) : KT := contAt PP (evC lf d) (gtA 100) lf (bodyOf PP 100) [true, true, true, true, true, false, true, false] (endK PP (resOf PP 100))
noncomputable def zayj (lf d fu : Nat) (k : KT) (x0 x1 x4 x5 x6 x8 x9 x10 x11 x18 x19 x20 x29 x30 x31 x32 x42 x43 : Value) : M Value := loopK (fun s1 k1 => codeK PP (evC lf d) (gtA 100) lf (codeAt (bodyOf PP 100) [true, true, true, true, true, false, true, false, false, true, true, false, false, true, true, false, true, false, false]) s1 k1) [0, 1, 4, 5, 6, 8, 9, 10, 11, 18, 19, 20, 29, 30, 31, 32, 42, 43] fu [(0, x0), (1, x1), (4, x4), (5, x5), (6, x6), (8, x8), (9, x9), (10, x10), (11, x11), (18, x18), (19, x19), (20, x20), (29, x29), (30, x30), (31, x31), (32, x32), (42, x42), (43, x43)] k
noncomputable def zaji (lf d fu : Nat) (k : KT) : KT := contAt PP (evC lf d) (gtA 100) lf (codeAt (bodyOf PP 100) [true, true, true, true, true, false, true, false, false]) [true, true, false, false, true, true, false, true, false] (againK (fun s1 => loopK (fun s1 k1 => codeK PP (evC lf d) (gtA 100) lf (codeAt (bodyOf PP 100) [true, true, true, true, true, false, true, false, false]) s1 k1) [0, 1, 4, 5, 6, 8, 18, 19, 20, 29, 30, 31] fu (s1.keep [0, 1, 4, 5, 6, 8, 18, 19, 20, 29, 30, 31]) k) k)
noncomputable def zakz (lf d : Nat) (rec : RT) (k : KT) : Nat → Value → Value → Value → Value → Value → Value → Value → M Value
 | 0, _, _, _, _, _, _, _ => M.fail
 | fu + 1, x0, x1, x4, x5, x6, x18, x19 =>
  optK (q_lss PP 3 x19 x18) fun v20n4 =>
  ifV v20n4 (
   optK (len2 PP #[22] [x0]) fun v25n5 =>
   insB (zagt PP 22 v25n5 v25n5) fun v26n6 =>
   optK (evIA3 PP 65 1 x6 x19) fun v27n7 =>
   insB (zaaq PP 22 v27n7 v26n6) fun u8 =>
   optK (q_add PP 3 x19 (Value.int .i64 1)) fun v28n9 =>
   zakz lf d rec k fu x0 x1 x4 x5 x6 x18 v28n9) (
   k (Ex.exit 0) [(0, x0), (1, x1), (4, x4), (5, x5), (6, x6), (18, x18), (19, x19), (20, v20n4)])
noncomputable def zaqz (lf d : Nat) (rec : RT) (dflt : KT) : KT := (kEx 2 (runCur [0, 1, 4, 5, 6, 8, 18, 19, 20, 29, 30, 31, 32] (fun y0 y1 y4 y5 y6 y8 y18 y19 y20 y29 y30 y31 y32 =>
 outK [y6]) (dflt (Ex.exit 2))) dflt)
noncomputable def zahv (lf d : Nat) (rec : RT) (k : KT) : Nat → Value → Value → Value → Value → Value → Value → Value → Value → Value → Value → Value → Value → Value → Value → Value → Value → Value → Value → M Value
 | 0, _, _, _, _, _, _, _, _, _, _, _, _, _, _, _, _, _, _ => M.fail
 | fu + 1, x0, x1, x4, x5, x6, x8, x9, x10, x11, x18, x19, x20, x29, x30, x31, x32, x42, x43 =>
  optK (q_lss PP 3 x43 x42) fun v44n17 =>
  ifV v44n17 (
   optK (q_neq PP 3 x43 x11) fun v48n18 =>
   ifV v48n18 (
    optK (evIA3 PP 65 1 x6 x43) fun v51n19 =>
    insB (zaai PP 22 v51n19) fun v52n20 =>
    optK (evIA3 PP 22 1 v52n20 x9) fun v54n21 =>
    insB (zaaq PP 3 v54n21 (Value.int .i64 15)) fun u22 =>
    optK (q_add PP 3 x43 (Value.int .i64 1)) fun v55n23 =>
    zahv lf d rec k fu x0 x1 x4 x5 x6 x8 x9 x10 x11 x18 x19 x20 x29 x30 x31 x32 x42 v55n23) (
    optK (q_add PP 3 x43 (Value.int .i64 1)) fun v55n24 =>
    zahv lf d rec k fu x0 x1 x4 x5 x6 x8 x9 x10 x11 x18 x19 x20 x29 x30 x31 x32 x42 v55n24)) (
   k (Ex.exit 4) [(0, x0), (1, x1), (4, x4), (5, x5), (6, x6), (8, x8), (9, x9), (10, x10), (11, x11), (18, x18), (19, x19), (20, x20), (29, x29), (30, x30), (31, x31), (32, x32), (42, x42), (43, x43), (44, v44n17)])
noncomputable def zard (lf d : Nat) (rec : RT) (fu : Nat) (k : KT) (again : Value → Value → Value → Value → Value → Value → Value → Value → Value → Value → Value → Value → M Value) (dflt : KT) : KT := (kEx 4 (runCur [0, 1, 4, 5, 6, 8, 9, 10, 11, 18, 19, 20, 29, 30, 31, 32, 42, 43, 44] (fun y0 y1 y4 y5 y6 y8 y9 y10 y11 y18 y19 y20 y29 y30 y31 y32 y42 y43 y44 =>
 optK (q_add PP 3 y8 y10) fun v58n25 =>
 optK (q_sub PP 3 y1 (Value.int .i64 1)) fun v60n26 =>
 optK (min2 [v58n25, v60n26]) fun v61n27 =>
 optK (q_add PP 3 y31 (Value.int .i64 1)) fun v62n28 =>
 again y0 y1 y4 y5 y6 v61n27 y18 y19 y20 y29 y30 v62n28) (dflt (Ex.exit 4))) dflt)
noncomputable def zald (lf d : Nat) (rec : RT) (k : KT) : Nat → Value → Value → Value → Value → Value → Value → Value → Value → Value → Value → Value → Value → M Value
 | 0, _, _, _, _, _, _, _, _, _, _, _, _ => M.fail
 | fu + 1, x0, x1, x4, x5, x6, x8, x18, x19, x20, x29, x30, x31 =>
  optK (q_lss PP 3 x31 x30) fun v32n11 =>
  ifV v32n11 (
   optK (evIA3 PP 22 1 x29 x31) fun v34n12 =>
   insB (zaai PP 3 v34n12) fun v35n13 =>
   optK (q_mul PP 3 x8 x5) fun v38n14 =>
   optK (q_quo PP 3 v38n14 x1) fun v40n15 =>
   optK (len2 PP #[65] [x6]) fun v42n16 =>
   zahv lf d rec (zard lf d rec fu k (zald lf d rec k fu) (zaji lf d fu k)) lf x0 x1 x4 x5 x6 x8 x31 v35n13 v40n15 x18 x19 x20 x29 x30 x31 v32n11 v42n16 (Value.int .i64 0)) (
   k (Ex.exit 2) [(0, x0), (1, x1), (4, x4), (5, x5), (6, x6), (8, x8), (18, x18), (19, x19), (20, x20), (29, x29), (30, x30), (31, x31), (32, v32n11)])
noncomputable def zaqi (lf d : Nat) (rec : RT) (dflt : KT) : KT := (kEx 0 (runCur [0, 1, 4, 5, 6, 18, 19, 20] (fun y0 y1 y4 y5 y6 y18 y19 y20 =>
 optK (len2 PP #[22] [y0]) fun v30n10 =>
 zald lf d rec (zaqz lf d rec (zajs lf d)) lf y0 y1 y4 y5 y6 (Value.int .i64 0) y18 y19 y20 y0 v30n10 (Value.int .i64 0)) (dflt (Ex.exit 0))) dflt)
noncomputable def zatl (lf d : Nat) (rec : RT) (a0 a1 : Value) : M Value :=
 (inside (rec 124 #[a1])).bind fun v14n1 =>
 insB (zagt PP 65 v14n1 v14n1) fun v16n2 =>
 optK (len2 PP #[65] [v16n2]) fun v18n3 =>
 zakz lf d rec (zaqi lf d rec (zaju lf d)) lf a0 a1 (Value.slice none 0 0) v14n1 v16n2 v18n3 (Value.int .i64 0)
theorem zaxf (lf d : Nat) (k : KT) : ∀ fu : Nat, zakz lf d (evC lf d) k fu = zaxg lf d fu k
 | 0 => by funext x0 x1 x4 x5 x6 x18 x19; kernel_rfl
 | fu + 1 => by
  have ih := zaxf lf d k fu
  funext x0 x1 x4 x5 x6 x18 x19; simp only [zakz, ih, zaag, zaax (P := PP) Tryz.underlying65 gs22, zaeg, zaao (P := PP) gs22, zaah, zaap (P := PP) nf3, zaat (P := PP) nf3]; kernel_rfl
set_option maxRecDepth 20000 in
theorem zbku (lf d : Nat) : zaqz lf d (evC lf d) (zajs lf d) = zajs lf d := by
  unfold zaqz
  refine Eq.trans (zaba ?_) ?_
  · exact (zaam _ _ _ (by intro y0 y1 y4 y5 y6 y8 y18 y19 y20 y29 y30 y31 y32; show _ = _; (try simp only [zaag, zaah]); kernel_rfl))
  rfl
theorem zaxm (lf d : Nat) (k : KT) : ∀ fu : Nat, zahv lf d (evC lf d) k fu = zayj lf d fu k
 | 0 => by funext x0 x1 x4 x5 x6 x8 x9 x10 x11 x18 x19 x20 x29 x30 x31 x32 x42 x43; kernel_rfl
 | fu + 1 => by
  have ih := zaxm lf d k fu
  funext x0 x1 x4 x5 x6 x8 x9 x10 x11 x18 x19 x20 x29 x30 x31 x32 x42 x43; simp only [zahv, ih, zaag, zaax (P := PP) Tryz.underlying22 gs3, zaax (P := PP) Tryz.underlying65 gs22, zaaj (P := PP) ga22, zaao (P := PP) gs3, zaah, zaap (P := PP) nf3, zaat (P := PP) nf3, zabg (P := PP) nf3]; kernel_rfl
set_option maxRecDepth 20000 in
theorem zblr (lf d fu : Nat) (k : KT) (again : Value → Value → Value → Value → Value → Value → Value → Value → Value → Value → Value → Value → M Value) (ha : again = zaon lf d fu k) : zard lf d (evC lf d) fu k again (zaji lf d fu k) = zaji lf d fu k := by
  subst ha
  unfold zard
  refine Eq.trans (zaba ?_) ?_
  · exact (zaam _ _ _ (by intro y0 y1 y4 y5 y6 y8 y9 y10 y11 y18 y19 y20 y29 y30 y31 y32 y42 y43 y44; show _ = _; (try simp only [zaag, zaah, zaap (P := PP) nf3, zabd (P := PP) nf3]); kernel_rfl))
  rfl
theorem zayt (lf d : Nat) (k : KT) : ∀ fu : Nat, zald lf d (evC lf d) k fu = zaon lf d fu k
 | 0 => by funext x0 x1 x4 x5 x6 x8 x18 x19 x20 x29 x30 x31; kernel_rfl
 | fu + 1 => by
  have ih := zayt lf d k fu
  funext x0 x1 x4 x5 x6 x8 x18 x19 x20 x29 x30 x31; simp only [zald, ih, zblr lf d fu k _ rfl, zaxm, zaag, zaax (P := PP) Tryz.underlying22 gs3, zaaj (P := PP) ga3, zaah, zaat (P := PP) nf3, zain (P := PP) nf3, zato (P := PP) nf3]; kernel_rfl
set_option maxRecDepth 20000 in
theorem zblw (lf d : Nat) : zaqi lf d (evC lf d) (zaju lf d) = zaju lf d := by
  unfold zaqi
  refine Eq.trans (zaba ?_) ?_
  · exact (zaam _ _ _ (by intro y0 y1 y4 y5 y6 y18 y19 y20; show _ = _; (try simp only [zbku lf d, zayt, zaag, zaah]); kernel_rfl))
  rfl
theorem zbls (lf d : Nat) (a0 a1 : Value) : inside (zatl lf d (evC lf d) a0 a1) = evC lf (d + 1) 100 #[a0, a1] := by
 unfold zatl; (try simp only [zblw lf d, zaxf, zaag, zaeg, zaah]); kernel_rfl

noncomputable def zayg (lf d fu : Nat) (k : KT) (x0 x1 x2 x6 x7 x8 x9 x27 x28 : Value) : M Value := loopK (fun s1 k1 => codeK PP (evC lf d) (gtA 101) lf (codeAt (bodyOf PP 101) [true, true, true, false, true, false, false]) s1 k1) [0, 1, 2, 6, 7, 8, 9, 27, 28] fu [(0, x0), (1, x1), (2, x2), (6, x6), (7, x7), (8, x8), (9, x9), (27, x27), (28, x28)] k
noncomputable def zajr (lf d : Nat) : KT := contAt PP (evC lf d) (gtA 101) lf (bodyOf PP 101) [true, true, true, false, true, false] (endK PP (resOf PP 101))
noncomputable def zaxr (lf d fu : Nat) (k : KT) (x0 x1 x2 x6 x7 x8 x9 x27 x28 x29 x37 x38 x39 : Value) : M Value := loopK (fun s1 k1 => codeK PP (evC lf d) (gtA 101) lf (codeAt (bodyOf PP 101) [true, true, true, true, false, true, false, false]) s1 k1) [0, 1, 2, 6, 7, 8, 9, 27, 28, 29, 37, 38, 39] fu [(0, x0), (1, x1), (2, x2), (6, x6), (7, x7), (8, x8), (9, x9), (27, x27), (28, x28), (29, x29), (37, x37), (38, x38), (39, x39)] k
noncomputable def zajw (lf d : Nat) : KT := contAt PP (evC lf d) (gtA 101) lf (bodyOf PP 101) [true, true, true, true, false, true, false] (endK PP (resOf PP 101))
noncomputable def zaxj (lf d fu : Nat) (k : KT) (x0 x1 x2 x6 x7 x8 x9 x18 x27 x28 x29 x37 x38 x39 x40 x70 x71 x72 : Value) : M Value := loopK (fun s1 k1 => codeK PP (evC lf d) (gtA 101) lf (codeAt (bodyOf PP 101) [true, true, true, true, true, true, false, true, false, false]) s1 k1) [0, 1, 2, 6, 7, 8, 9, 18, 27, 28, 29, 37, 38, 39, 40, 70, 71, 72] fu [(0, x0), (1, x1), (2, x2), (6, x6), (7, x7), (8, x8), (9, x9), (18, x18), (27, x27), (28, x28), (29, x29), (37, x37), (38, x38), (39, x39), (40, x40), (70, x70), (71, x71), (72, x72)] k
noncomputable def zajv (lf d : Nat) : KT := contAt PP (evC lf d) (gtA 101) lf (bodyOf PP 101) [true, true, true, true, true, true, false, true, false] (endK PP (resOf PP 101))
noncomputable def zalc (lf d : Nat) (rec : RT) (k : KT) : Nat → Value → Value → Value → Value → Value → Value → Value → Value → Value → M Value
 | 0, _, _, _, _, _, _, _, _, _ => M.fail
 | fu + 1, x0, x1, x2, x6, x7, x8, x9, x27, x28 =>
  optK (q_lss PP 3 x28 x27) fun v29n4 =>
  ifV v29n4 (
   insB (zagt PP 22 x2 x2) fun v34n5 =>
   optK (evIA3 PP 65 1 x9 x28) fun v35n6 =>
   insB (zaaq PP 22 v35n6 v34n5) fun u7 =>
   optK (q_add PP 3 x28 (Value.int .i64 1)) fun v36n8 =>
   zalc lf d rec k fu x0 x1 x2 x6 x7 x8 x9 x27 v36n8) (
   k (Ex.exit 0) [(0, x0), (1, x1), (2, x2), (6, x6), (7, x7), (8, x8), (9, x9), (27, x27), (28, x28), (29, v29n4)])
noncomputable def zalh (lf d : Nat) (rec : RT) (k : KT) : Nat → Value → Value → Value → Value → Value → Value → Value → Value → Value → Value → Value → Value → Value → M Value
 | 0, _, _, _, _, _, _, _, _, _, _, _, _, _ => M.fail
 | fu + 1, x0, x1, x2, x6, x7, x8, x9, x27, x28, x29, x37, x38, x39 =>
  optK (q_lss PP 3 x39 x38) fun v40n10 =>
  ifV v40n10 (
   optK (evIA3 PP 65 1 x37 x39) fun v41n11 =>
   insB (zaai PP 22 v41n11) fun v42n12 =>
   (inside (rec 125 #[v42n12, x1])).bind fun v45n13 =>
   insB (evBS3 PP 22 1 [(0, v45n13)]) fun v48n14 =>
   insB (zach PP 22 x8 v48n14) fun v49n15 =>
   (inside (rec 98 #[v42n12, x2])).bind fun v53n16 =>
   optK (evExtract v53n16 0) fun v54n17 =>
   optK (evExtract v53n16 1) fun v55n18 =>
   optK (evIA3 PP 65 1 x9 v45n13) fun v59n19 =>
   insB (zaai PP 22 v59n19) fun v60n20 =>
   (inside (rec 126 #[v60n20, v54n17])).bind fun v62n21 =>
   optK (evExtract v62n21 0) fun v63n22 =>
   optK (evExtract v62n21 1) fun v64n23 =>
   optK (evIA3 PP 65 1 x9 v45n13) fun v68n24 =>
   insB (zaaq PP 22 v68n24 v63n22) fun u25 =>
   optK (q_add PP 3 x39 (Value.int .i64 1)) fun v69n26 =>
   zalh lf d rec k fu x0 x1 x2 x6 x7 v49n15 x9 x27 x28 x29 x37 x38 v69n26) (
   k (Ex.exit 2) [(0, x0), (1, x1), (2, x2), (6, x6), (7, x7), (8, x8), (9, x9), (27, x27), (28, x28), (29, x29), (37, x37), (38, x38), (39, x39), (40, v40n10)])
noncomputable def zaky (lf d : Nat) (rec : RT) (k : KT) : Nat → Value → Value → Value → Value → Value → Value → Value → Value → Value → Value → Value → Value → Value → Value → Value → Value → Value → Value → M Value
 | 0, _, _, _, _, _, _, _, _, _, _, _, _, _, _, _, _, _, _ => M.fail
 | fu + 1, x0, x1, x2, x6, x7, x8, x9, x18, x27, x28, x29, x37, x38, x39, x40, x70, x71, x72 =>
  optK (q_lss PP 3 x72 x71) fun v73n28 =>
  ifV v73n28 (
   optK (evIA3 PP 65 1 x70 x72) fun v74n29 =>
   insB (zaai PP 22 v74n29) fun v75n30 =>
   (inside (rec 127 #[v75n30])).bind fun v78n31 =>
   optK (evExtract v78n31 0) fun v79n32 =>
   optK (evExtract v78n31 1) fun v80n33 =>
   insB (evBS3 PP 65 1 [(0, v79n32)]) fun v83n34 =>
   insB (zach PP 65 x18 v83n34) fun v84n35 =>
   optK (q_add PP 3 x72 (Value.int .i64 1)) fun v85n36 =>
   zaky lf d rec k fu x0 x1 x2 x6 x7 x8 x9 v84n35 x27 x28 x29 x37 x38 x39 x40 x70 x71 v85n36) (
   k (Ex.exit 4) [(0, x0), (1, x1), (2, x2), (6, x6), (7, x7), (8, x8), (9, x9), (18, x18), (27, x27), (28, x28), (29, x29), (37, x37), (38, x38), (39, x39), (40, x40), (70, x70), (71, x71), (72, x72), (73, v73n28)])
noncomputable def zarj (lf d : Nat) (rec : RT) (dflt : KT) : KT := (kEx 4 (runCur [0, 1, 2, 6, 7, 8, 9, 18, 27, 28, 29, 37, 38, 39, 40, 70, 71, 72, 73] (fun y0 y1 y2 y6 y7 y8 y9 y18 y27 y28 y29 y37 y38 y39 y40 y70 y71 y72 y73 =>
 outK [y8, y18]) (dflt (Ex.exit 4))) dflt)
noncomputable def zaqp (lf d : Nat) (rec : RT) (dflt : KT) : KT := (kEx 2 (runCur [0, 1, 2, 6, 7, 8, 9, 27, 28, 29, 37, 38, 39, 40] (fun y0 y1 y2 y6 y7 y8 y9 y27 y28 y29 y37 y38 y39 y40 =>
 optK (len2 PP #[65] [y9]) fun v71n27 =>
 zaky lf d rec (zarj lf d rec (zajv lf d)) lf y0 y1 y2 y6 y7 y8 y9 (Value.slice none 0 0) y27 y28 y29 y37 y38 y39 y40 y9 v71n27 (Value.int .i64 0)) (dflt (Ex.exit 2))) dflt)
noncomputable def zapr (lf d : Nat) (rec : RT) (dflt : KT) : KT := (kEx 0 (runCur [0, 1, 2, 6, 7, 8, 9, 27, 28, 29] (fun y0 y1 y2 y6 y7 y8 y9 y27 y28 y29 =>
 optK (len2 PP #[65] [y0]) fun v38n9 =>
 zalh lf d rec (zaqp lf d rec (zajw lf d)) lf y0 y1 y2 y6 y7 y8 y9 y27 y28 y29 y0 v38n9 (Value.int .i64 0)) (dflt (Ex.exit 0))) dflt)
noncomputable def zatf (lf d : Nat) (rec : RT) (a0 a1 a2 : Value) : M Value :=
 optK (len2 PP #[65] [a1]) fun v24n1 =>
 insB (zagt PP 65 v24n1 v24n1) fun v25n2 =>
 optK (len2 PP #[65] [v25n2]) fun v27n3 =>
 zalc lf d rec (zapr lf d rec (zajr lf d)) lf a0 a1 a2 (Value.slice none 0 0) (Value.slice none 0 0) (Value.slice none 0 0) v25n2 v27n3 (Value.int .i64 0)
theorem zaxi (lf d : Nat) (k : KT) : ∀ fu : Nat, zalc lf d (evC lf d) k fu = zayg lf d fu k
 | 0 => by funext x0 x1 x2 x6 x7 x8 x9 x27 x28; kernel_rfl
 | fu + 1 => by
  have ih := zaxi lf d k fu
  funext x0 x1 x2 x6 x7 x8 x9 x27 x28; simp only [zalc, ih, zaag, zaax (P := PP) Tryz.underlying65 gs22, zaeg, zaao (P := PP) gs22, zaah, zaap (P := PP) nf3, zaat (P := PP) nf3]; kernel_rfl
theorem zayf (lf d : Nat) (k : KT) : ∀ fu : Nat, zalh lf d (evC lf d) k fu = zaxr lf d fu k
 | 0 => by funext x0 x1 x2 x6 x7 x8 x9 x27 x28 x29 x37 x38 x39; kernel_rfl
 | fu + 1 => by
  have ih := zayf lf d k fu
  funext x0 x1 x2 x6 x7 x8 x9 x27 x28 x29 x37 x38 x39; simp only [zalh, ih, zaag, zacd, zaeh, zaax (P := PP) Tryz.underlying65 gs22, zaaj (P := PP) ga22, zaao (P := PP) gs22, zaah, zaap (P := PP) nf3, zaat (P := PP) nf3]; kernel_rfl
theorem zayd (lf d : Nat) (k : KT) : ∀ fu : Nat, zaky lf d (evC lf d) k fu = zaxj lf d fu k
 | 0 => by funext x0 x1 x2 x6 x7 x8 x9 x18 x27 x28 x29 x37 x38 x39 x40 x70 x71 x72; kernel_rfl
 | fu + 1 => by
  have ih := zayd lf d k fu
  funext x0 x1 x2 x6 x7 x8 x9 x18 x27 x28 x29 x37 x38 x39 x40 x70 x71 x72; simp only [zaky, ih, zaag, zacd, zaeh, zaax (P := PP) Tryz.underlying65 gs22, zaaj (P := PP) ga22, zaah, zaap (P := PP) nf3, zaat (P := PP) nf3]; kernel_rfl
set_option maxRecDepth 20000 in
theorem zbln (lf d : Nat) : zarj lf d (evC lf d) (zajv lf d) = zajv lf d := by
  unfold zarj
  refine Eq.trans (zaba ?_) ?_
  · exact (zaam _ _ _ (by intro y0 y1 y2 y6 y7 y8 y9 y18 y27 y28 y29 y37 y38 y39 y40 y70 y71 y72 y73; show _ = _; (try simp only [zaag, zaah]); kernel_rfl))
  rfl
set_option maxRecDepth 20000 in
theorem zblh (lf d : Nat) : zaqp lf d (evC lf d) (zajw lf d) = zajw lf d := by
  unfold zaqp
  refine Eq.trans (zaba ?_) ?_
  · exact (zaam _ _ _ (by intro y0 y1 y2 y6 y7 y8 y9 y27 y28 y29 y37 y38 y39 y40; show _ = _; (try simp only [zbln lf d, zayd, zaag, zaah]); kernel_rfl))
  rfl
set_option maxRecDepth 20000 in
theorem zbko (lf d : Nat) : zapr lf d (evC lf d) (zajr lf d) = zajr lf d := by
  unfold zapr
  refine Eq.trans (zaba ?_) ?_
  · exact (zaam _ _ _ (by intro y0 y1 y2 y6 y7 y8 y9 y27 y28 y29; show _ = _; (try simp only [zblh lf d, zayf, zaag, zaah]); kernel_rfl))
  rfl
theorem zblo (lf d : Nat) (a0 a1 a2 : Value) : inside (zatf lf d (evC lf d) a0 a1 a2) = evC lf (d + 1) 101 #[a0, a1, a2] := by
 unfold zatf; (try simp only [zbko lf d, zaxi, zaag, zaeg, zaah]); kernel_rfl

noncomputable def zass (lf d : Nat) (rec : RT) (a0 : Value) : M Value :=
 optK (q_geq PP 3 a0 (Value.int .i64 2)) fun v4n1 =>
 ifV v4n1 (
  optK (q_leq PP 3 a0 (Value.int .i64 6)) fun v7n2 =>
  outK [v7n2]) (
  outK [(Value.bool false)])
theorem zbkz (lf d : Nat) (a0 : Value) : inside (zass lf d (evC lf d) a0) = evC lf (d + 1) 102 #[a0] := by
 unfold zass; (try simp only [zaag, zaah, zadp (P := PP) nf3, zafx (P := PP) nf3]); kernel_rfl

noncomputable def zaek (lf d : Nat) (rec : RT) (a0 a1 : Value) : M Value :=
 (inside (rec 128 #[a0, a1])).bind fun v7n1 =>
 optK (q_geq PP 3 v7n1 (Value.int .i64 0)) fun v8n2 =>
 outK [v8n2]
theorem zapq (lf d : Nat) (a0 a1 : Value) : inside (zaek lf d (evC lf d) a0 a1) = evC lf (d + 1) 103 #[a0, a1] := by
 unfold zaek; (try simp only [zaag, zaah, zadp (P := PP) nf3]); kernel_rfl

noncomputable def zavc (lf d : Nat) (rec : RT) (a0 a1 : Value) : M Value :=
 optK (q_lss PP 3 a0 (Value.int .i64 0)) fun v5n1 =>
 ifV v5n1 (
  outK [(Value.bool true)]) (
  insB (zaai PP 3 a1) fun v8n2 =>
  optK (q_geq PP 3 a0 v8n2) fun v9n3 =>
  outK [v9n3])
theorem zbnt (lf d : Nat) (a0 a1 : Value) : inside (zavc lf d (evC lf d) a0 a1) = evC lf (d + 1) 104 #[a0, a1] := by
 unfold zavc; (try simp only [zaag, zaaj (P := PP) ga3, zaah, zadp (P := PP) nf3, zaat (P := PP) nf3]); kernel_rfl

noncomputable def zaqo (lf d fu : Nat) (k : KT) (x0 x1 x4 x5 : Value) : M Value := loopK (fun s1 k1 => codeK PP (evC lf d) (gtA 105) lf (codeAt (bodyOf PP 105) [true, true, false, false, false]) s1 k1) [0, 1, 4, 5] fu [(0, x0), (1, x1), (4, x4), (5, x5)] k
noncomputable def zagj (lf d : Nat) : KT := contAt PP (evC lf d) (gtA 105) lf (bodyOf PP 105) [true, true, false, false] (endK PP (resOf PP 105))
noncomputable def zahc (lf d : Nat) (rec : RT) (k : KT) : Nat → Value → Value → Value → Value → M Value
 | 0, _, _, _, _ => M.fail
 | fu + 1, x0, x1, x4, x5 =>
  optK (nil2 x0) fun v8n1 =>
  optK (zaht PP 132 6 1 v8n1 x5) fun v9n2 =>
  insB (zaai PP 3 v9n2) fun v10n3 =>
  optK (q_neq PP 3 v10n3 x1) fun v12n4 =>
  ifV v12n4 (
   optK (q_add PP 3 x5 (Value.int .i64 1)) fun v14n5 =>
   zahc lf d rec k fu x0 x1 x4 v14n5) (
   k (Ex.exit 0) [(0, x0), (1, x1), (4, x4), (5, x5), (12, v12n4)])
noncomputable def zakd (lf d : Nat) (rec : RT) (dflt : KT) : KT := (kEx 0 (runCur [0, 1, 4, 5, 12] (fun y0 y1 y4 y5 y12 =>
 (inside (rec 129 #[y0, y5])).bind fun v17n6 =>
 outK [y5]) (dflt (Ex.exit 0))) dflt)
noncomputable def zalt (lf d : Nat) (rec : RT) (a0 a1 : Value) : M Value :=
 zahc lf d rec (zakd lf d rec (zagj lf d)) lf a0 a1 (Value.int .i64 0) (Value.int .i64 0)
theorem zaps (lf d : Nat) (k : KT) : ∀ fu : Nat, zahc lf d (evC lf d) k fu = zaqo lf d fu k
 | 0 => by funext x0 x1 x4 x5; kernel_rfl
 | fu + 1 => by
  have ih := zaps lf d k fu
  funext x0 x1 x4 x5; simp only [zahc, ih, zaag, zago (P := PP) Tryz.underlying132 gs3, zaaj (P := PP) ga3, zaah, zaap (P := PP) nf3, zabg (P := PP) nf3]; kernel_rfl
set_option maxRecDepth 20000 in
theorem zbeb (lf d : Nat) : zakd lf d (evC lf d) (zagj lf d) = zagj lf d := by
  unfold zakd
  refine Eq.trans (zaba ?_) ?_
  · exact (zaam _ _ _ (by intro y0 y1 y4 y5 y12; show _ = _; (try simp only [zaag, zaah]); kernel_rfl))
  rfl
theorem zbcv (lf d : Nat) (a0 a1 : Value) : inside (zalt lf d (evC lf d) a0 a1) = evC lf (d + 1) 105 #[a0, a1] := by
 unfold zalt; (try simp only [zbeb lf d, zaps, zaag, zaah]); kernel_rfl

noncomputable def zavb (lf d : Nat) (rec : RT) (a0 : Value) : M Value :=
 (inside (rec 107 #[a0])).bind fun v4n1 =>
 optK (un3 PP .not v4n1) fun v5n2 =>
 outK [v5n2]
theorem zbms (lf d : Nat) (a0 : Value) : inside (zavb lf d (evC lf d) a0) = evC lf (d + 1) 106 #[a0] := by
 unfold zavb; (try simp only [zaag, zaah, zack]); kernel_rfl

noncomputable def zatg (lf d : Nat) (rec : RT) (a0 : Value) : M Value :=
 optK (q_geq PP 3 a0 (Value.int .i64 1)) fun v4n1 =>
 ifV v4n1 (
  optK (q_leq PP 3 a0 (Value.int .i64 20)) fun v7n2 =>
  outK [v7n2]) (
  outK [(Value.bool false)])
theorem zbkl (lf d : Nat) (a0 : Value) : inside (zatg lf d (evC lf d) a0) = evC lf (d + 1) 107 #[a0] := by
 unfold zatg; (try simp only [zaag, zaah, zadp (P := PP) nf3, zafx (P := PP) nf3]); kernel_rfl

noncomputable def zags (lf d fu : Nat) (k : KT) (x0 x2 x3 x4 x14 x15 x16 x17 : Value) : M Value := loopK (fun s1 k1 => codeK PP (evC lf d) (gtA 108) lf (codeAt (bodyOf PP 108) [true, true, true, false, true, false, false]) s1 k1) [0, 2, 3, 4, 14, 15, 16, 17] fu [(0, x0), (2, x2), (3, x3), (4, x4), (14, x14), (15, x15), (16, x16), (17, x17)] k
noncomputable def zaev (lf d : Nat) : KT := contAt PP (evC lf d) (gtA 108) lf (bodyOf PP 108) [true, true, true, false, true, false] (endK PP (resOf PP 108))
noncomputable def zaoe (lf d : Nat) (rec : RT) (k : KT) : Nat → Value → Value → Value → Value → Value → Value → Value → Value → M Value
 | 0, _, _, _, _, _, _, _, _ => M.fail
 | fu + 1, x0, x2, x3, x4, x14, x15, x16, x17 =>
  optK (q_lss PP 3 x17 x16) fun v18n6 =>
  ifV v18n6 (
   optK (evIA3 PP 22 1 x15 x17) fun v19n7 =>
   insB (zaai PP 3 v19n7) fun v20n8 =>
   optK (q_sub PP 3 (Value.int .i64 20) v20n8) fun v23n9 =>
   optK (q_shl PP 3 (Value.int .i64 1) v23n9) fun v24n10 =>
   optK (q_add PP 3 x4 v24n10) fun v25n11 =>
   optK (q_add PP 3 x17 (Value.int .i64 1)) fun v26n12 =>
   zaoe lf d rec k fu x0 x2 x3 v25n11 x14 x15 x16 v26n12) (
   k (Ex.exit 0) [(0, x0), (2, x2), (3, x3), (4, x4), (14, x14), (15, x15), (16, x16), (17, x17), (18, v18n6)])
noncomputable def zavs (lf d : Nat) (rec : RT) (dflt : KT) : KT := (kEx 0 (runCur [0, 2, 3, 4, 14, 15, 16, 17, 18] (fun y0 y2 y3 y4 y14 y15 y16 y17 y18 =>
 outK [y4, (Value.int .i64 0)]) (dflt (Ex.exit 0))) dflt)
noncomputable def zaxl (lf d : Nat) (rec : RT) (a0 : Value) : M Value :=
 optK (len2 PP #[22] [a0]) fun v8n1 =>
 optK (q_gtr PP 3 v8n1 (Value.int .i64 258)) fun v9n2 =>
 ifV v9n2 (
  outK [(Value.int .i64 0), (Value.int .i64 1)]) (
  (inside (rec 130 #[a0, (Value.int .i64 0), (Value.int .i64 20)])).bind fun v12n3 =>
  optK (un3 PP .not v12n3) fun v13n4 =>
  ifV v13n4 (
   outK [(Value.int .i64 0), (Value.int .i64 1)]) (
   optK (len2 PP #[22] [a0]) fun v16n5 =>
   zaoe lf d rec (zavs lf d rec (zaev lf d)) lf a0 (Value.int .i64 0) (Value.int .i64 0) (Value.int .i64 0) v13n4 a0 v16n5 (Value.int .i64 0)))
theorem zbch (lf d : Nat) (k : KT) : ∀ fu : Nat, zaoe lf d (evC lf d) k fu = zags lf d fu k
 | 0 => by funext x0 x2 x3 x4 x14 x15 x16 x17; kernel_rfl
 | fu + 1 => by
  have ih := zbch lf d k fu
  funext x0 x2 x3 x4 x14 x15 x16 x17; simp only [zaoe, ih, zaag, zaax (P := PP) Tryz.underlying22 gs3, zaaj (P := PP) ga3, zaah, zaap (P := PP) nf3, zaat (P := PP) nf3, zbet (P := PP) nf3, zabd (P := PP) nf3]; kernel_rfl
set_option maxRecDepth 20000 in
theorem zboq (lf d : Nat) : zavs lf d (evC lf d) (zaev lf d) = zaev lf d := by
  unfold zavs
  refine Eq.trans (zaba ?_) ?_
  · exact (zaam _ _ _ (by intro y0 y2 y3 y4 y14 y15 y16 y17 y18; show _ = _; (try simp only [zaag, zaah]); kernel_rfl))
  rfl
theorem zbom (lf d : Nat) (a0 : Value) : inside (zaxl lf d (evC lf d) a0) = evC lf (d + 1) 108 #[a0] := by
 unfold zaxl; (try simp only [zboq lf d, zbch, zaag, zaah, zacq (P := PP) nf3, zack]); kernel_rfl

noncomputable def zage (lf d : Nat) (rec : RT) (a0 a1 : Value) : M Value :=
 (inside (rec 64 #[a0, a1])).bind fun v7n1 =>
 optK (q_geq PP 3 v7n1 (Value.int .i64 0)) fun v8n2 =>
 outK [v8n2]
theorem zauf (lf d : Nat) (a0 a1 : Value) : inside (zage lf d (evC lf d) a0 a1) = evC lf (d + 1) 109 #[a0, a1] := by
 unfold zage; (try simp only [zaag, zaah, zadp (P := PP) nf3]); kernel_rfl

noncomputable def zapw (lf d : Nat) (rec : RT) (a0 a1 a2 : Value) : M Value :=
 optK (q_mul PP 3 a1 a2) fun v10n1 =>
 optK (len2 PP #[22] [a0]) fun v12n2 =>
 optK (q_add PP 3 a1 (Value.int .i64 1)) fun v14n3 =>
 optK (q_mul PP 3 v14n3 a2) fun v16n4 =>
 optK (min2 [v12n2, v16n4]) fun v17n5 =>
 zabo PP 22 a0 (some v10n1) (some v17n5) none fun v18n6 =>
 (inside (rec 72 #[v18n6])).bind fun v19n7 =>
 outK [v19n7]
theorem zbjp (lf d : Nat) (a0 a1 a2 : Value) : inside (zapw lf d (evC lf d) a0 a1 a2) = evC lf (d + 1) 110 #[a0, a1, a2] := by
 unfold zapw; (try simp only [zaag, zaah, zaap (P := PP) nf3, zain (P := PP) nf3]); kernel_rfl

noncomputable def zbdx (lf d : Nat) (rec : RT) (a0 : Value) : M Value :=
 (inside (rec 103 #[a0, (Value.func (.func 131) #[] #[])])).bind fun v4n1 =>
 optK (un3 PP .not v4n1) fun v5n2 =>
 outK [v5n2]
theorem zbtb (lf d : Nat) (a0 : Value) : inside (zbdx lf d (evC lf d) a0) = evC lf (d + 1) 111 #[a0] := by
 unfold zbdx; (try simp only [zaag, zaah, zack]); kernel_rfl

noncomputable def zaqt (lf d : Nat) (rec : RT) (a0 a1 : Value) : M Value :=
 optK (q_add PP 3 a0 a1) fun v7n1 =>
 optK (min2 [v7n1, (Value.int .i64 1099511627776)]) fun v8n2 =>
 outK [v8n2]
theorem zbjl (lf d : Nat) (a0 a1 : Value) : inside (zaqt lf d (evC lf d) a0 a1) = evC lf (d + 1) 112 #[a0, a1] := by
 unfold zaqt; (try simp only [zaag, zaah, zaap (P := PP) nf3]); kernel_rfl

noncomputable def zadz (lf d fu : Nat) (k : KT) (x0 x1 x4 x5 x6 x7 : Value) : M Value := loopK (fun s1 k1 => codeK PP (evC lf d) (gtA 120) lf (codeAt (bodyOf PP 120) [true, true, false, true, false, false]) s1 k1) [0, 1, 4, 5, 6, 7] fu [(0, x0), (1, x1), (4, x4), (5, x5), (6, x6), (7, x7)] k
noncomputable def zacf (lf d : Nat) : KT := contAt PP (evC lf d) (gtA 120) lf (bodyOf PP 120) [true, true, false, true, false] (endK PP (resOf PP 120))
noncomputable def zaip (lf d : Nat) (rec : RT) (k : KT) : Nat → Value → Value → Value → Value → Value → Value → M Value
 | 0, _, _, _, _, _, _ => M.fail
 | fu + 1, x0, x1, x4, x5, x6, x7 =>
  optK (q_leq PP 3 x7 (Value.int .i64 20)) fun v12n1 =>
  ifV v12n1 (
   (inside (rec 136 #[x1, (Value.int .i64 1)])).bind fun v17n2 =>
   optK (evExtract v17n2 0) fun v18n3 =>
   optK (evExtract v17n2 1) fun v19n4 =>
   optK (q_neq PP 29 v19n4 (Value.int .i64 0)) fun v21n5 =>
   ifV v21n5 (
    k Ex.ret [(0, x0), (1, x1), (4, (Value.int .i64 0)), (5, v19n4), (6, x6), (7, x7), (8, v18n3), (9, v19n4), (12, v12n1), (21, v21n5)]) (
    optK (q_mul PP 3 (Value.int .i64 2) x6) fun v24n6 =>
    conv3 PP 23 3 .u32 .i64 v18n3 fun v26n7 =>
    optK (q_add PP 3 v24n6 v26n7) fun v27n8 =>
    optK (nil2 x0) fun v30n9 =>
    optK (evFA3 PP 111 24 v30n9 4) fun v31n10 =>
    optK (zaht PP 109 22 1 v31n10 x7) fun v32n11 =>
    insB (zaai PP 3 v32n11) fun v33n12 =>
    optK (q_add PP 3 v33n12 v27n8) fun v35n13 =>
    optK (nil2 x0) fun v38n14 =>
    optK (evFA3 PP 111 3 v38n14 3) fun v39n15 =>
    optK (zaht PP 108 21 1 v39n15 x7) fun v40n16 =>
    insB (zaai PP 3 v40n16) fun v41n17 =>
    optK (q_sub PP 3 v35n13 v41n17) fun v42n18 =>
    optK (q_add PP 3 x7 (Value.int .i64 1)) fun v46n19 =>
    optK (nil2 x0) fun v47n20 =>
    optK (evFA3 PP 111 24 v47n20 4) fun v48n21 =>
    optK (zaht PP 109 22 1 v48n21 v46n19) fun v49n22 =>
    insB (zaai PP 3 v49n22) fun v50n23 =>
    optK (q_lss PP 3 v42n18 v50n23) fun v51n24 =>
    ifV v51n24 (
     optK (nil2 x0) fun v53n25 =>
     optK (evFA3 PP 111 2 v53n25 2) fun v54n26 =>
     insB (zaai PP 22 v54n26) fun v55n27 =>
     optK (evIA3 PP 22 1 v55n27 v42n18) fun v57n28 =>
     insB (zaai PP 3 v57n28) fun v58n29 =>
     k Ex.ret [(0, x0), (1, x1), (4, v58n29), (5, (Value.int .i64 0)), (6, v27n8), (7, x7), (8, v18n3), (9, v19n4), (10, v42n18), (12, v12n1), (21, v21n5), (51, v51n24)]) (
     optK (q_add PP 3 x7 (Value.int .i64 1)) fun v14n30 =>
     zaip lf d rec k fu x0 x1 x4 x5 v27n8 v14n30))) (
   k (Ex.exit 0) [(0, x0), (1, x1), (4, x4), (5, x5), (6, x6), (7, x7), (12, v12n1)])
noncomputable def zand (lf d : Nat) (rec : RT) (dflt : KT) : KT := (kEx 0 (runCur [0, 1, 4, 5, 6, 7, 12] (fun y0 y1 y4 y5 y6 y7 y12 =>
 outK [(Value.int .i64 0), (Value.int .i64 22)]) (dflt (Ex.exit 0))) (kRt (runCur [0, 1, 4, 5, 6, 7, 8, 9, 10, 12, 21, 51] (fun y0 y1 y4 y5 y6 y7 y8 y9 y10 y12 y21 y51 =>
 outK [y4, y5]) (runCur [0, 1, 4, 5, 6, 7, 8, 9, 12, 21] (fun y0 y1 y4 y5 y6 y7 y8 y9 y12 y21 =>
 outK [y4, y5]) (dflt Ex.ret))) dflt))
noncomputable def zaou (lf d : Nat) (rec : RT) (a0 a1 : Value) : M Value :=
 zaip lf d rec (zand lf d rec (zacf lf d)) lf a0 a1 (Value.int .i64 0) (Value.int .i64 0) (Value.int .i64 0) (Value.int .i64 1)
theorem zaup (lf d : Nat) (k : KT) : ∀ fu : Nat, zaip lf d (evC lf d) k fu = zadz lf d fu k
 | 0 => by funext x0 x1 x4 x5 x6 x7; kernel_rfl
 | fu + 1 => by
  have ih := zaup lf d k fu
  funext x0 x1 x4 x5 x6 x7; simp only [zaip, ih, zaag, zade zbtl, zaal (P := PP) zbjh, zaal (P := PP) zbwo, zaal (P := PP) zbpg, zaax (P := PP) Tryz.underlying22 gs3, zago (P := PP) Tryz.underlying108 gs3, zago (P := PP) Tryz.underlying109 gs3, zaaj (P := PP) ga22, zaaj (P := PP) ga3, zaah, zaap (P := PP) nf3, zafx (P := PP) nf3, zaat (P := PP) nf3, zain (P := PP) nf3, zabg (P := PP) nf29, zabd (P := PP) nf3]; kernel_rfl
set_option maxRecDepth 20000 in
theorem zbhf (lf d : Nat) : zand lf d (evC lf d) (zacf lf d) = zacf lf d := by
  unfold zand
  refine Eq.trans (zaba ?_) ?_
  · exact (zaam _ _ _ (by intro y0 y1 y4 y5 y6 y7 y12; show _ = _; (try simp only [zaag, zaah]); kernel_rfl))
  refine Eq.trans (zant ?_) ?_
  · refine Eq.trans (zaam _ _ _ (by intro y0 y1 y4 y5 y6 y7 y8 y9 y10 y12 y21 y51; show _ = _; (try simp only [zaag, zaah]); kernel_rfl)) ?_
    exact (zaam _ _ _ (by intro y0 y1 y4 y5 y6 y7 y8 y9 y12 y21; show _ = _; (try simp only [zaag, zaah]); kernel_rfl))
  rfl
theorem zbim (lf d : Nat) (a0 a1 : Value) : inside (zaou lf d (evC lf d) a0 a1) = evC lf (d + 1) 120 #[a0, a1] := by
 unfold zaou; (try simp only [zbhf lf d, zaup, zaag, zaah]); kernel_rfl

noncomputable def zada (lf d fu : Nat) (k : KT) (x0 x1 x4 x11 x12 : Value) : M Value := loopK (fun s1 k1 => codeK PP (evC lf d) (gtA 121) lf (codeAt (bodyOf PP 121) [true, false, true, false, false]) s1 k1) [0, 1, 4, 11, 12] fu [(0, x0), (1, x1), (4, x4), (11, x11), (12, x12)] k
noncomputable def zabi (lf d : Nat) : KT := contAt PP (evC lf d) (gtA 121) lf (bodyOf PP 121) [true, false, true, false] (endK PP (resOf PP 121))
noncomputable def zagk (lf d : Nat) (rec : RT) (k : KT) : Nat → Value → Value → Value → Value → Value → M Value
 | 0, _, _, _, _, _ => M.fail
 | fu + 1, x0, x1, x4, x11, x12 =>
  optK (q_lss PP 3 x12 x11) fun v13n4 =>
  ifV v13n4 (
   (inside (rec 136 #[x1, (Value.int .i64 1)])).bind fun v17n5 =>
   optK (evExtract v17n5 0) fun v18n6 =>
   optK (evExtract v17n5 1) fun v19n7 =>
   optK (q_neq PP 29 v19n7 (Value.int .i64 0)) fun v21n8 =>
   ifV v21n8 (
    k Ex.ret [(0, x0), (1, x1), (4, v19n7), (5, x12), (6, v18n6), (7, v19n7), (11, x11), (12, x12), (13, v13n4), (21, v21n8)]) (
    optK (q_eql PP 23 v18n6 (Value.int .u32 0)) fun v24n9 =>
    ifV v24n9 (
     optK (nil2 x0) fun v27n10 =>
     optK (evFA3 PP 135 8 v27n10 3) fun v28n11 =>
     (timed (
      insB (zaai PP 22 v28n11) fun v29n13 => M.ret v29n13)).bind fun vtn12 =>
     optK (nil2 x0) fun v31n14 =>
     optK (evFA3 PP 135 2 v31n14 2) fun v32n15 =>
     (timed (
      (inside (rec 129 #[v32n15, x12])).bind fun v34n17 => M.ret v34n17)).bind fun vtn16 =>
     (timed (
      insB (evBS3 PP 22 1 [(0, vtn16.1)]) fun v35n19 => M.ret v35n19)).bind fun vtn18 =>
     (timed (
      insB (zach PP 22 vtn12.1 vtn18.1) fun v36n21 => M.ret v36n21)).bind fun vtn20 =>
     optK (nil2 x0) fun v37n22 =>
     optK (evFA3 PP 135 8 v37n22 3) fun v38n23 =>
     (timed (
      insB (zaaq PP 22 v38n23 vtn20.1) fun u25 => M.ret u25)).bind fun vtn24 =>
     chkT ((!(zauw vtn12.2 vtn16.2) && true) && true) (
      k Ex.ret [(0, x0), (1, x1), (4, (Value.int .i64 0)), (5, x12), (6, v18n6), (7, v19n7), (11, x11), (12, x12), (13, v13n4), (21, v21n8), (24, v24n9)])) (
     optK (q_add PP 3 x12 (Value.int .i64 1)) fun v39n26 =>
     zagk lf d rec k fu x0 x1 x4 x11 v39n26))) (
   k (Ex.exit 0) [(0, x0), (1, x1), (4, x4), (11, x11), (12, x12), (13, v13n4)])
noncomputable def zajg (lf d : Nat) (rec : RT) (dflt : KT) : KT := (kEx 0 (runCur [0, 1, 4, 11, 12, 13] (fun y0 y1 y4 y11 y12 y13 =>
 (inside (rec 137 #[y0])).bind fun v41n27 =>
 outK [v41n27]) (dflt (Ex.exit 0))) (kRt (runCur [0, 1, 4, 5, 6, 7, 11, 12, 13, 21, 24] (fun y0 y1 y4 y5 y6 y7 y11 y12 y13 y21 y24 =>
 outK [y4]) (runCur [0, 1, 4, 5, 6, 7, 11, 12, 13, 21] (fun y0 y1 y4 y5 y6 y7 y11 y12 y13 y21 =>
 outK [y4]) (dflt Ex.ret))) dflt))
noncomputable def zako (lf d : Nat) (rec : RT) (a0 a1 : Value) : M Value :=
 optK (nil2 a0) fun v9n1 =>
 optK (evFA3 PP 135 0 v9n1 0) fun v10n2 =>
 insB (zaai PP 3 v10n2) fun v11n3 =>
 zagk lf d rec (zajg lf d rec (zabi lf d)) lf a0 a1 (Value.int .i64 0) v11n3 (Value.int .i64 0)
theorem zape (lf d : Nat) (k : KT) : ∀ fu : Nat, zagk lf d (evC lf d) k fu = zada lf d fu k
 | 0 => by funext x0 x1 x4 x11 x12; kernel_rfl
 | fu + 1 => by
  have ih := zape lf d k fu
  funext x0 x1 x4 x11 x12; simp only [zagk, ih, zaag, zacd, zaeh, zaal (P := PP) zcgs, zaal (P := PP) zbor, zaaj (P := PP) ga22, zaao (P := PP) gs22, zaah, zaap (P := PP) nf3, zabk (P := PP) nf23, zaat (P := PP) nf3, zabg (P := PP) nf29]; kernel_rfl
set_option maxRecDepth 20000 in
theorem zbbx (lf d : Nat) : zajg lf d (evC lf d) (zabi lf d) = zabi lf d := by
  unfold zajg
  refine Eq.trans (zaba ?_) ?_
  · exact (zaam _ _ _ (by intro y0 y1 y4 y11 y12 y13; show _ = _; (try simp only [zaag, zaah]); kernel_rfl))
  refine Eq.trans (zant ?_) ?_
  · refine Eq.trans (zaam _ _ _ (by intro y0 y1 y4 y5 y6 y7 y11 y12 y13 y21 y24; show _ = _; (try simp only [zaag, zaah]); kernel_rfl)) ?_
    exact (zaam _ _ _ (by intro y0 y1 y4 y5 y6 y7 y11 y12 y13 y21; show _ = _; (try simp only [zaag, zaah]); kernel_rfl))
  rfl
theorem zbbq (lf d : Nat) (a0 a1 : Value) : inside (zako lf d (evC lf d) a0 a1) = evC lf (d + 1) 121 #[a0, a1] := by
 unfold zako; (try simp only [zbbx lf d, zape, zaag, zaal (P := PP) zboa, zaaj (P := PP) ga3, zaah]); kernel_rfl

noncomputable def zake (lf d : Nat) (rec : RT) (a0 a1 : Value) : M Value :=
 (inside (rec 136 #[a1, (Value.int .i64 18)])).bind fun v11n1 =>
 optK (evExtract v11n1 0) fun v12n2 =>
 optK (evExtract v11n1 1) fun v13n3 =>
 optK (q_neq PP 29 v13n3 (Value.int .i64 0)) fun v15n4 =>
 ifV v15n4 (
  outK [v13n3]) (
  optK (q_shr PP 23 v12n2 (Value.int .u64 15)) fun v18n5 =>
  conv3 PP 23 3 .u32 .i64 v18n5 fun v19n6 =>
  optK (q_and PP 23 v12n2 (Value.int .u32 32767)) fun v21n7 =>
  conv3 PP 23 3 .u32 .i64 v21n7 fun v22n8 =>
  (inside (rec 102 #[v19n6])).bind fun v24n9 =>
  optK (un3 PP .not v24n9) fun v25n10 =>
  ifV v25n10 (
   (inside (rec 137 #[a0])).bind fun v31n11 =>
   outK [v31n11]) (
   optK (q_eql PP 3 v22n8 (Value.int .i64 0)) fun v28n12 =>
   ifV v28n12 (
    (inside (rec 137 #[a0])).bind fun v31n13 =>
    outK [v31n13]) (
    optK (nil2 a0) fun v34n14 =>
    optK (evFA3 PP 135 0 v34n14 0) fun v35n15 =>
    insB (zaaq PP 3 v35n15 v19n6) fun u16 =>
    optK (nil2 a0) fun v38n17 =>
    optK (evFA3 PP 135 1 v38n17 1) fun v39n18 =>
    insB (zaaq PP 3 v39n18 v22n8) fun u19 =>
    outK [(Value.int .i64 0)])))
theorem zbcn (lf d : Nat) (a0 a1 : Value) : inside (zake lf d (evC lf d) a0 a1) = evC lf (d + 1) 122 #[a0, a1] := by
 unfold zake; (try simp only [zaag, zade zbtl, zaal (P := PP) zboa, zaal (P := PP) zbpl, zaao (P := PP) gs3, zaah, zbky (P := PP) nf23, zabk (P := PP) nf3, zabg (P := PP) nf29, zalq (P := PP) nf23, zack]); kernel_rfl

noncomputable def zakq (lf d : Nat) (rec : RT) (a0 a1 : Value) : M Value :=
 optK (nil2 a0) fun v10n1 =>
 optK (evFA3 PP 130 1 v10n1 1) fun v11n2 =>
 insB (zaai PP 3 v11n2) fun v12n3 =>
 optK (q_eql PP 3 v12n3 (Value.int .i64 0)) fun v13n4 =>
 ifV v13n4 (
  (inside (rec 136 #[a1, (Value.int .i64 5)])).bind fun v16n5 =>
  optK (evExtract v16n5 0) fun v17n6 =>
  optK (evExtract v16n5 1) fun v18n7 =>
  optK (q_neq PP 29 v18n7 (Value.int .i64 0)) fun v20n8 =>
  ifV v20n8 (
   outK [v18n7]) (
   conv3 PP 23 3 .u32 .i64 v17n6 fun v24n9 =>
   (inside (rec 138 #[a0, v24n9])).bind fun v25n10 =>
   outK [v25n10])) (
  (inside (rec 136 #[a1, (Value.int .i64 1)])).bind fun v28n11 =>
  optK (evExtract v28n11 0) fun v29n12 =>
  optK (evExtract v28n11 1) fun v30n13 =>
  optK (q_neq PP 29 v30n13 (Value.int .i64 0)) fun v32n14 =>
  ifV v32n14 (
   outK [v30n13]) (
   optK (q_eql PP 23 v29n12 (Value.int .u32 0)) fun v35n15 =>
   ifV v35n15 (
    optK (nil2 a0) fun v38n16 =>
    optK (evFA3 PP 130 2 v38n16 2) fun v39n17 =>
    insB (zaai PP 22 v39n17) fun v40n18 =>
    optK (nil2 a0) fun v42n19 =>
    optK (evFA3 PP 130 1 v42n19 1) fun v43n20 =>
    insB (zaai PP 3 v43n20) fun v44n21 =>
    insB (evBS3 PP 22 1 [(0, v44n21)]) fun v45n22 =>
    insB (zach PP 22 v40n18 v45n22) fun v46n23 =>
    optK (nil2 a0) fun v47n24 =>
    optK (evFA3 PP 130 2 v47n24 2) fun v48n25 =>
    insB (zaaq PP 22 v48n25 v46n23) fun u26 =>
    outK [(Value.int .i64 0)]) (
    (inside (rec 136 #[a1, (Value.int .i64 1)])).bind fun v51n27 =>
    optK (evExtract v51n27 0) fun v52n28 =>
    optK (evExtract v51n27 1) fun v53n29 =>
    optK (q_neq PP 29 v53n29 (Value.int .i64 0)) fun v55n30 =>
    ifV v55n30 (
     outK [v53n29]) (
     optK (nil2 a0) fun v59n31 =>
     optK (evFA3 PP 130 1 v59n31 1) fun v60n32 =>
     insB (zaai PP 3 v60n32) fun v61n33 =>
     optK (q_add PP 3 v61n33 (Value.int .i64 1)) fun v62n34 =>
     conv3 PP 23 3 .u32 .i64 v52n28 fun v64n35 =>
     optK (q_mul PP 3 (Value.int .i64 2) v64n35) fun v65n36 =>
     optK (q_sub PP 3 v62n34 v65n36) fun v66n37 =>
     (inside (rec 138 #[a0, v66n37])).bind fun v67n38 =>
     outK [v67n38]))))
theorem zbbh (lf d : Nat) (a0 a1 : Value) : inside (zakq lf d (evC lf d) a0 a1) = evC lf (d + 1) 123 #[a0, a1] := by
 unfold zakq; (try simp only [zaag, zade zbtl, zacd, zaeh, zaal (P := PP) zbxu, zaal (P := PP) zboy, zaaj (P := PP) ga22, zaaj (P := PP) ga3, zaao (P := PP) gs22, zaah, zaap (P := PP) nf3, zabk (P := PP) nf23, zabk (P := PP) nf3, zain (P := PP) nf3, zabg (P := PP) nf29, zabd (P := PP) nf3]); kernel_rfl

noncomputable def zavx (lf d fu : Nat) (k : KT) (x0 x2 x3 x6 x7 : Value) : M Value := loopK (fun s1 k1 => codeK PP (evC lf d) (gtA 124) lf (codeAt (bodyOf PP 124) [true, true, false, true, false, false]) s1 k1) [0, 2, 3, 6, 7] fu [(0, x0), (2, x2), (3, x3), (6, x6), (7, x7)] k
noncomputable def zaiq (lf d : Nat) : KT := contAt PP (evC lf d) (gtA 124) lf (bodyOf PP 124) [true, true, false, true, false] (endK PP (resOf PP 124))
noncomputable def zagv (lf d : Nat) (rec : RT) (k : KT) : Nat → Value → Value → Value → Value → Value → M Value
 | 0, _, _, _, _, _ => M.fail
 | fu + 1, x0, x2, x3, x6, x7 =>
  optK (q_lss PP 3 x7 (Value.int .i64 4)) fun v8n2 =>
  ifV v8n2 (
   optK (zaee PP 158 x6 x7) fun v9n3 =>
   optK (q_geq PP 3 x0 v9n3) fun v12n4 =>
   ifV v12n4 (
    optK (q_add PP 3 x3 (Value.int .i64 1)) fun v14n5 =>
    optK (q_add PP 3 x7 (Value.int .i64 1)) fun v15n6 =>
    zagv lf d rec k fu x0 x2 v14n5 x6 v15n6) (
    optK (q_add PP 3 x7 (Value.int .i64 1)) fun v15n7 =>
    zagv lf d rec k fu x0 x2 x3 x6 v15n7)) (
   k (Ex.exit 0) [(0, x0), (2, x2), (3, x3), (6, x6), (7, x7), (8, v8n2)])
noncomputable def zaol (lf d : Nat) (rec : RT) (dflt : KT) : KT := (kEx 0 (runCur [0, 2, 3, 6, 7, 8] (fun y0 y2 y3 y6 y7 y8 =>
 outK [y3]) (dflt (Ex.exit 0))) dflt)
noncomputable def zaqn (lf d : Nat) (rec : RT) (a0 : Value) : M Value :=
 insB (zats PP 158 4 (Value.pointer (some ⟨0, 0, none⟩))) fun v6n1 =>
 zagv lf d rec (zaol lf d rec (zaiq lf d)) lf a0 (Value.int .i64 0) (Value.int .i64 2) v6n1 (Value.int .i64 0)
theorem zawa (lf d : Nat) (k : KT) : ∀ fu : Nat, zagv lf d (evC lf d) k fu = zavx lf d fu k
 | 0 => by funext x0 x2 x3 x6 x7; kernel_rfl
 | fu + 1 => by
  have ih := zawa lf d k fu
  funext x0 x2 x3 x6 x7; simp only [zagv, ih, zaag, zaah, zaap (P := PP) nf3, zadp (P := PP) nf3, zaat (P := PP) nf3]; kernel_rfl
set_option maxRecDepth 20000 in
theorem zbjt (lf d : Nat) : zaol lf d (evC lf d) (zaiq lf d) = zaiq lf d := by
  unfold zaol
  refine Eq.trans (zaba ?_) ?_
  · exact (zaam _ _ _ (by intro y0 y2 y3 y6 y7 y8; show _ = _; (try simp only [zaag, zaah]); kernel_rfl))
  rfl
theorem zbjq (lf d : Nat) (a0 : Value) : inside (zaqn lf d (evC lf d) a0) = evC lf (d + 1) 124 #[a0] := by
 unfold zaqn; (try simp only [zbjt lf d, zawa, zaag, zauc (P := PP) ga158 gs158, zaah]); kernel_rfl

noncomputable def zbaf (lf d fu : Nat) (k : KT) (x0 x1 x4 x5 x6 x11 x12 x13 : Value) : M Value := loopK (fun s1 k1 => codeK PP (evC lf d) (gtA 125) lf (codeAt (bodyOf PP 125) [true, true, false, true, false, false]) s1 k1) [0, 1, 4, 5, 6, 11, 12, 13] fu [(0, x0), (1, x1), (4, x4), (5, x5), (6, x6), (11, x11), (12, x12), (13, x13)] k
noncomputable def zali (lf d : Nat) : KT := contAt PP (evC lf d) (gtA 125) lf (bodyOf PP 125) [true, true, false, true, false] (endK PP (resOf PP 125))
noncomputable def zajd (lf d : Nat) (rec : RT) (k : KT) : Nat → Value → Value → Value → Value → Value → Value → Value → Value → M Value
 | 0, _, _, _, _, _, _, _, _ => M.fail
 | fu + 1, x0, x1, x4, x5, x6, x11, x12, x13 =>
  optK (q_lss PP 3 x13 x12) fun v14n2 =>
  ifV v14n2 (
   optK (evIA3 PP 65 1 x11 x13) fun v16n3 =>
   insB (zaai PP 22 v16n3) fun v17n4 =>
   (inside (rec 77 #[x0, v17n4])).bind fun v21n5 =>
   optK (evExtract v21n5 0) fun v22n6 =>
   optK (evExtract v21n5 1) fun v23n7 =>
   optK (q_lss PP 3 v22n6 x6) fun v26n8 =>
   ifV v26n8 (
    optK (q_add PP 3 x13 (Value.int .i64 1)) fun v29n9 =>
    zajd lf d rec k fu x0 x1 x4 x13 v22n6 x11 x12 v29n9) (
    optK (q_add PP 3 x13 (Value.int .i64 1)) fun v29n10 =>
    zajd lf d rec k fu x0 x1 x4 x5 x6 x11 x12 v29n10)) (
   k (Ex.exit 0) [(0, x0), (1, x1), (4, x4), (5, x5), (6, x6), (11, x11), (12, x12), (13, x13), (14, v14n2)])
noncomputable def zasu (lf d : Nat) (rec : RT) (dflt : KT) : KT := (kEx 0 (runCur [0, 1, 4, 5, 6, 11, 12, 13, 14] (fun y0 y1 y4 y5 y6 y11 y12 y13 y14 =>
 outK [y5]) (dflt (Ex.exit 0))) dflt)
noncomputable def zavn (lf d : Nat) (rec : RT) (a0 a1 : Value) : M Value :=
 optK (len2 PP #[65] [a1]) fun v12n1 =>
 zajd lf d rec (zasu lf d rec (zali lf d)) lf a0 a1 (Value.int .i64 0) (Value.int .i64 0) (Value.int .i64 1099511627776) a1 v12n1 (Value.int .i64 0)
theorem zbad (lf d : Nat) (k : KT) : ∀ fu : Nat, zajd lf d (evC lf d) k fu = zbaf lf d fu k
 | 0 => by funext x0 x1 x4 x5 x6 x11 x12 x13; kernel_rfl
 | fu + 1 => by
  have ih := zbad lf d k fu
  funext x0 x1 x4 x5 x6 x11 x12 x13; simp only [zajd, ih, zaag, zaax (P := PP) Tryz.underlying65 gs22, zaaj (P := PP) ga22, zaah, zaap (P := PP) nf3, zaat (P := PP) nf3]; kernel_rfl
set_option maxRecDepth 20000 in
theorem zbmv (lf d : Nat) : zasu lf d (evC lf d) (zali lf d) = zali lf d := by
  unfold zasu
  refine Eq.trans (zaba ?_) ?_
  · exact (zaam _ _ _ (by intro y0 y1 y4 y5 y6 y11 y12 y13 y14; show _ = _; (try simp only [zaag, zaah]); kernel_rfl))
  rfl
theorem zbnl (lf d : Nat) (a0 a1 : Value) : inside (zavn lf d (evC lf d) a0 a1) = evC lf (d + 1) 125 #[a0, a1] := by
 unfold zavn; (try simp only [zbmv lf d, zbad, zaag, zaah]); kernel_rfl

noncomputable def zbhr (lf d fu : Nat) (k : KT) (x0 x1 x4 x5 x6 x22 x27 x28 : Value) : M Value := loopK (fun s1 k1 => codeK PP (evC lf d) (gtA 126) lf (codeAt (bodyOf PP 126) [true, true, true, false, true, false, false]) s1 k1) [0, 1, 4, 5, 6, 22, 27, 28] fu [(0, x0), (1, x1), (4, x4), (5, x5), (6, x6), (22, x22), (27, x27), (28, x28)] k
noncomputable def zaqv (lf d : Nat) : KT := contAt PP (evC lf d) (gtA 126) lf (bodyOf PP 126) [true, true, true, false, true, false] (endK PP (resOf PP 126))
noncomputable def zaub (lf d : Nat) (rec : RT) (k : KT) : Nat → Value → Value → Value → Value → Value → Value → Value → Value → M Value
 | 0, _, _, _, _, _, _, _, _ => M.fail
 | fu + 1, x0, x1, x4, x5, x6, x22, x27, x28 =>
  optK (q_lss PP 3 x28 x27) fun v29n11 =>
  ifV v29n11 (
   optK (evIA3 PP 22 1 x0 x28) fun v35n12 =>
   insB (zaai PP 3 v35n12) fun v36n13 =>
   optK (evIA3 PP 22 1 x1 x28) fun v39n14 =>
   insB (zaai PP 3 v39n14) fun v40n15 =>
   (inside (rec 112 #[v36n13, v40n15])).bind fun v41n16 =>
   optK (evIA3 PP 22 1 x6 x28) fun v42n17 =>
   insB (zaaq PP 3 v42n17 v41n16) fun u18 =>
   optK (q_add PP 3 x28 (Value.int .i64 1)) fun v43n19 =>
   zaub lf d rec k fu x0 x1 x4 x5 x6 x22 x27 v43n19) (
   k (Ex.exit 0) [(0, x0), (1, x1), (4, x4), (5, x5), (6, x6), (22, x22), (27, x27), (28, x28), (29, v29n11)])
noncomputable def zbal (lf d : Nat) (rec : RT) (dflt : KT) : KT := (kEx 0 (runCur [0, 1, 4, 5, 6, 22, 27, 28, 29] (fun y0 y1 y4 y5 y6 y22 y27 y28 y29 =>
 outK [y6, (Value.int .i64 0)]) (dflt (Ex.exit 0))) dflt)
noncomputable def zbdd (lf d : Nat) (rec : RT) (a0 a1 : Value) : M Value :=
 optK (len2 PP #[22] [a0]) fun v9n1 =>
 optK (len2 PP #[22] [a1]) fun v11n2 =>
 optK (q_neq PP 3 v9n1 v11n2) fun v12n3 =>
 ifV v12n3 (
  outK [(Value.slice none 0 0), (Value.int .i64 1)]) (
  (inside (rec 111 #[a0])).bind fun v15n4 =>
  optK (un3 PP .not v15n4) fun v16n5 =>
  ifV v16n5 (
   outK [(Value.slice none 0 0), (Value.int .i64 1)]) (
   (inside (rec 111 #[a1])).bind fun v20n6 =>
   optK (un3 PP .not v20n6) fun v21n7 =>
   ifV v21n7 (
    outK [(Value.slice none 0 0), (Value.int .i64 1)]) (
    optK (len2 PP #[22] [a0]) fun v24n8 =>
    insB (zagt PP 22 v24n8 v24n8) fun v25n9 =>
    optK (len2 PP #[22] [v25n9]) fun v27n10 =>
    zaub lf d rec (zbal lf d rec (zaqv lf d)) lf a0 a1 (Value.slice none 0 0) (Value.int .i64 0) v25n9 v21n7 v27n10 (Value.int .i64 0))))
theorem zbis (lf d : Nat) (k : KT) : ∀ fu : Nat, zaub lf d (evC lf d) k fu = zbhr lf d fu k
 | 0 => by funext x0 x1 x4 x5 x6 x22 x27 x28; kernel_rfl
 | fu + 1 => by
  have ih := zbis lf d k fu
  funext x0 x1 x4 x5 x6 x22 x27 x28; simp only [zaub, ih, zaag, zaax (P := PP) Tryz.underlying22 gs3, zaaj (P := PP) ga3, zaao (P := PP) gs3, zaah, zaap (P := PP) nf3, zaat (P := PP) nf3]; kernel_rfl
set_option maxRecDepth 20000 in
theorem zbru (lf d : Nat) : zbal lf d (evC lf d) (zaqv lf d) = zaqv lf d := by
  unfold zbal
  refine Eq.trans (zaba ?_) ?_
  · exact (zaam _ _ _ (by intro y0 y1 y4 y5 y6 y22 y27 y28 y29; show _ = _; (try simp only [zaag, zaah]); kernel_rfl))
  rfl
theorem zbsx (lf d : Nat) (a0 a1 : Value) : inside (zbdd lf d (evC lf d) a0 a1) = evC lf (d + 1) 126 #[a0, a1] := by
 unfold zbdd; (try simp only [zbru lf d, zbis, zaag, zaeg, zaah, zabg (P := PP) nf3, zack]); kernel_rfl

noncomputable def zbki (lf d fu : Nat) (k : KT) (x0 x2 x3 x4 x20 x24 x25 x26 : Value) : M Value := loopK (fun s1 k1 => codeK PP (evC lf d) (gtA 127) lf (codeAt (bodyOf PP 127) [true, true, true, false, true, false, false]) s1 k1) [0, 2, 3, 4, 20, 24, 25, 26] fu [(0, x0), (2, x2), (3, x3), (4, x4), (20, x20), (24, x24), (25, x25), (26, x26)] k
noncomputable def zatw (lf d : Nat) : KT := contAt PP (evC lf d) (gtA 127) lf (bodyOf PP 127) [true, true, true, false, true, false] (endK PP (resOf PP 127))
noncomputable def zbkc (lf d fu : Nat) (k : KT) (x0 x2 x3 x4 x20 x24 x25 x26 x27 : Value) : M Value := loopK (fun s1 k1 => codeK PP (evC lf d) (gtA 127) lf (codeAt (bodyOf PP 127) [true, true, true, true, false, false]) s1 k1) [0, 2, 3, 4, 20, 24, 25, 26, 27] fu [(0, x0), (2, x2), (3, x3), (4, x4), (20, x20), (24, x24), (25, x25), (26, x26), (27, x27)] k
noncomputable def zatz (lf d : Nat) : KT := contAt PP (evC lf d) (gtA 127) lf (bodyOf PP 127) [true, true, true, true, false] (endK PP (resOf PP 127))
noncomputable def zawp (lf d : Nat) (rec : RT) (k : KT) : Nat → Value → Value → Value → Value → Value → Value → Value → Value → M Value
 | 0, _, _, _, _, _, _, _, _ => M.fail
 | fu + 1, x0, x2, x3, x4, x20, x24, x25, x26 =>
  optK (q_lss PP 3 x26 x25) fun v27n10 =>
  ifV v27n10 (
   optK (evIA3 PP 22 1 x24 x26) fun v29n11 =>
   insB (zaai PP 3 v29n11) fun v30n12 =>
   optK (max2 [v30n12, (Value.int .i64 1)]) fun v34n13 =>
   optK (evIA3 PP 22 1 x4 x26) fun v35n14 =>
   insB (zaaq PP 3 v35n14 v34n13) fun u15 =>
   optK (q_add PP 3 x26 (Value.int .i64 1)) fun v36n16 =>
   zawp lf d rec k fu x0 x2 x3 x4 x20 x24 x25 v36n16) (
   k (Ex.exit 0) [(0, x0), (2, x2), (3, x3), (4, x4), (20, x20), (24, x24), (25, x25), (26, x26), (27, v27n10)])
noncomputable def zawt (lf d : Nat) (rec : RT) (k : KT) : Nat → Value → Value → Value → Value → Value → Value → Value → Value → Value → M Value
 | 0, _, _, _, _, _, _, _, _, _ => M.fail
 | fu + 1, x0, x2, x3, x4, x20, x24, x25, x26, x27 =>
  (inside (rec 139 #[x4])).bind fun v38n17 =>
  (inside (rec 140 #[v38n17])).bind fun v40n18 =>
  optK (q_leq PP 3 v40n18 (Value.int .i64 20)) fun v41n19 =>
  ifV v41n19 (
   (inside (rec 72 #[v38n17])).bind fun v43n20 =>
   k Ex.ret [(0, x0), (2, v43n20), (3, (Value.int .i64 0)), (4, x4), (7, v38n17), (20, x20), (24, x24), (25, x25), (26, x26), (27, x27), (41, v41n19)]) (
   (inside (rec 141 #[x4])).bind fun v45n21 =>
   zawt lf d rec k fu x0 x2 x3 v45n21 x20 x24 x25 x26 x27)
noncomputable def zbfb (lf d : Nat) (rec : RT) (dflt : KT) : KT := (kRt (runCur [0, 2, 3, 4, 7, 20, 24, 25, 26, 27, 41] (fun y0 y2 y3 y4 y7 y20 y24 y25 y26 y27 y41 =>
 outK [y2, y3]) (dflt Ex.ret)) dflt)
noncomputable def zbfd (lf d : Nat) (rec : RT) (dflt : KT) : KT := (kEx 0 (runCur [0, 2, 3, 4, 20, 24, 25, 26, 27] (fun y0 y2 y3 y4 y20 y24 y25 y26 y27 =>
 zawt lf d rec (zbfb lf d rec (zatz lf d)) lf y0 y2 y3 y4 y20 y24 y25 y26 y27) (dflt (Ex.exit 0))) dflt)
noncomputable def zbiv (lf d : Nat) (rec : RT) (a0 : Value) : M Value :=
 optK (len2 PP #[22] [a0]) fun v9n1 =>
 optK (q_lss PP 3 v9n1 (Value.int .i64 3)) fun v10n2 =>
 ifV v10n2 (
  outK [(Value.slice none 0 0), (Value.int .i64 1)]) (
  optK (len2 PP #[22] [a0]) fun v13n3 =>
  optK (q_gtr PP 3 v13n3 (Value.int .i64 258)) fun v14n4 =>
  ifV v14n4 (
   outK [(Value.slice none 0 0), (Value.int .i64 1)]) (
   (inside (rec 130 #[a0, (Value.int .i64 0), (Value.int .i64 1099511627776)])).bind fun v18n5 =>
   optK (un3 PP .not v18n5) fun v19n6 =>
   ifV v19n6 (
    outK [(Value.slice none 0 0), (Value.int .i64 1)]) (
    optK (len2 PP #[22] [a0]) fun v22n7 =>
    insB (zagt PP 22 v22n7 v22n7) fun v23n8 =>
    optK (len2 PP #[22] [a0]) fun v25n9 =>
    zawp lf d rec (zbfd lf d rec (zatw lf d)) lf a0 (Value.slice none 0 0) (Value.int .i64 0) v23n8 v19n6 a0 v25n9 (Value.int .i64 0))))
theorem zbkg (lf d : Nat) (k : KT) : ∀ fu : Nat, zawp lf d (evC lf d) k fu = zbki lf d fu k
 | 0 => by funext x0 x2 x3 x4 x20 x24 x25 x26; kernel_rfl
 | fu + 1 => by
  have ih := zbkg lf d k fu
  funext x0 x2 x3 x4 x20 x24 x25 x26; simp only [zawp, ih, zaag, zaax (P := PP) Tryz.underlying22 gs3, zaaj (P := PP) ga3, zaao (P := PP) gs3, zaah, zaap (P := PP) nf3, zaat (P := PP) nf3]; kernel_rfl
theorem zbkk (lf d : Nat) (k : KT) : ∀ fu : Nat, zawt lf d (evC lf d) k fu = zbkc lf d fu k
 | 0 => by funext x0 x2 x3 x4 x20 x24 x25 x26 x27; kernel_rfl
 | fu + 1 => by
  have ih := zbkk lf d k fu
  funext x0 x2 x3 x4 x20 x24 x25 x26 x27; simp only [zawt, ih, zaag, zaah, zafx (P := PP) nf3]; kernel_rfl
set_option maxRecDepth 20000 in
theorem zbuk (lf d : Nat) : zbfb lf d (evC lf d) (zatz lf d) = zatz lf d := by
  unfold zbfb
  refine Eq.trans (zant ?_) ?_
  · exact (zaam _ _ _ (by intro y0 y2 y3 y4 y7 y20 y24 y25 y26 y27 y41; show _ = _; (try simp only [zaag, zaah]); kernel_rfl))
  rfl
set_option maxRecDepth 20000 in
theorem zbul (lf d : Nat) : zbfd lf d (evC lf d) (zatw lf d) = zatw lf d := by
  unfold zbfd
  refine Eq.trans (zaba ?_) ?_
  · exact (zaam _ _ _ (by intro y0 y2 y3 y4 y20 y24 y25 y26 y27; show _ = _; (try simp only [zbuk lf d, zbkk, zaag, zaah]); kernel_rfl))
  rfl
theorem zbuh (lf d : Nat) (a0 : Value) : inside (zbiv lf d (evC lf d) a0) = evC lf (d + 1) 127 #[a0] := by
 unfold zbiv; (try simp only [zbul lf d, zbkg, zaag, zaeg, zaah, zacq (P := PP) nf3, zaat (P := PP) nf3, zack]); kernel_rfl

noncomputable def zabn (lf d fu : Nat) (k : KT) (x0 x1 x4 x7 x8 : Value) : M Value := loopK (fun s1 k1 => codeK PP (evC lf d) (gtA 128) lf (codeAt (bodyOf PP 128) [true, false, true, false, false]) s1 k1) [0, 1, 4, 7, 8] fu [(0, x0), (1, x1), (4, x4), (7, x7), (8, x8)] k
noncomputable def zabb (lf d : Nat) : KT := contAt PP (evC lf d) (gtA 128) lf (bodyOf PP 128) [true, false, true, false] (endK PP (resOf PP 128))
noncomputable def zadt (lf d : Nat) (rec : RT) (k : KT) : Nat → Value → Value → Value → Value → Value → M Value
 | 0, _, _, _, _, _ => M.fail
 | fu + 1, x0, x1, x4, x7, x8 =>
  optK (q_lss PP 3 x8 x7) fun v9n2 =>
  ifV v9n2 (
   optK (evIA3 PP 22 1 x0 x8) fun v14n3 =>
   insB (zaai PP 3 v14n3) fun v15n4 =>
   callV PP rec x1 [v15n4] fun v16n5 =>
   ifV v16n5 (
    k Ex.ret [(0, x0), (1, x1), (4, x8), (5, x8), (7, x7), (8, x8), (9, v9n2), (16, v16n5)]) (
    optK (q_add PP 3 x8 (Value.int .i64 1)) fun v18n6 =>
    zadt lf d rec k fu x0 x1 x4 x7 v18n6)) (
   k (Ex.exit 0) [(0, x0), (1, x1), (4, x4), (7, x7), (8, x8), (9, v9n2)])
noncomputable def zaff (lf d : Nat) (rec : RT) (dflt : KT) : KT := (kEx 0 (runCur [0, 1, 4, 7, 8, 9] (fun y0 y1 y4 y7 y8 y9 =>
 outK [(Value.int .i64 (-1))]) (dflt (Ex.exit 0))) (kRt (runCur [0, 1, 4, 5, 7, 8, 9, 16] (fun y0 y1 y4 y5 y7 y8 y9 y16 =>
 outK [y4]) (dflt Ex.ret)) dflt))
noncomputable def zafz (lf d : Nat) (rec : RT) (a0 a1 : Value) : M Value :=
 optK (len2 PP #[22] [a0]) fun v7n1 =>
 zadt lf d rec (zaff lf d rec (zabb lf d)) lf a0 a1 (Value.int .i64 0) v7n1 (Value.int .i64 0)
theorem zajb (lf d : Nat) (k : KT) : ∀ fu : Nat, zadt lf d (evC lf d) k fu = zabn lf d fu k
 | 0 => by funext x0 x1 x4 x7 x8; kernel_rfl
 | fu + 1 => by
  have ih := zajb lf d k fu
  funext x0 x1 x4 x7 x8; simp only [zadt, ih, zaag, zaax (P := PP) Tryz.underlying22 gs3, zaaj (P := PP) ga3, zaah, zaap (P := PP) nf3, zaat (P := PP) nf3]; kernel_rfl
set_option maxRecDepth 20000 in
theorem zath (lf d : Nat) : zaff lf d (evC lf d) (zabb lf d) = zabb lf d := by
  unfold zaff
  refine Eq.trans (zaba ?_) ?_
  · exact (zaam _ _ _ (by intro y0 y1 y4 y7 y8 y9; show _ = _; (try simp only [zaag, zaah]); kernel_rfl))
  refine Eq.trans (zant ?_) ?_
  · exact (zaam _ _ _ (by intro y0 y1 y4 y5 y7 y8 y9 y16; show _ = _; (try simp only [zaag, zaah]); kernel_rfl))
  rfl
theorem zasn (lf d : Nat) (a0 a1 : Value) : inside (zafz lf d (evC lf d) a0 a1) = evC lf (d + 1) 128 #[a0, a1] := by
 unfold zafz; (try simp only [zath lf d, zajb, zaag, zaah]); kernel_rfl

noncomputable def zacz (lf d fu : Nat) (k : KT) (x0 x1 x4 x5 x6 : Value) : M Value := loopK (fun s1 k1 => codeK PP (evC lf d) (gtA 129) lf (codeAt (bodyOf PP 129) [true, true, false, true, false, false]) s1 k1) [0, 1, 4, 5, 6] fu [(0, x0), (1, x1), (4, x4), (5, x5), (6, x6)] k
noncomputable def zace (lf d : Nat) : KT := contAt PP (evC lf d) (gtA 129) lf (bodyOf PP 129) [true, true, false, true, false] (endK PP (resOf PP 129))
noncomputable def zagd (lf d : Nat) (rec : RT) (k : KT) : Nat → Value → Value → Value → Value → Value → M Value
 | 0, _, _, _, _, _ => M.fail
 | fu + 1, x0, x1, x4, x5, x6 =>
  optK (q_gtr PP 3 x6 (Value.int .i64 0)) fun v14n4 =>
  ifV v14n4 (
   optK (q_sub PP 3 x6 (Value.int .i64 1)) fun v21n5 =>
   optK (nil2 x0) fun v22n6 =>
   optK (zaht PP 132 6 1 v22n6 v21n5) fun v23n7 =>
   insB (zaai PP 3 v23n7) fun v24n8 =>
   optK (nil2 x0) fun v25n9 =>
   optK (zaht PP 132 6 1 v25n9 x6) fun v26n10 =>
   insB (zaaq PP 3 v26n10 v24n8) fun u11 =>
   optK (q_sub PP 3 x6 (Value.int .i64 1)) fun v16n12 =>
   zagd lf d rec k fu x0 x1 x4 x5 v16n12) (
   k (Ex.exit 0) [(0, x0), (1, x1), (4, x4), (5, x5), (6, x6), (14, v14n4)])
noncomputable def zajj (lf d : Nat) (rec : RT) (dflt : KT) : KT := (kEx 0 (runCur [0, 1, 4, 5, 6, 14] (fun y0 y1 y4 y5 y6 y14 =>
 optK (nil2 y0) fun v29n13 =>
 optK (zaht PP 132 6 1 v29n13 (Value.int .i64 0)) fun v30n14 =>
 insB (zaaq PP 3 v30n14 y5) fun u15 =>
 outK [y5]) (dflt (Ex.exit 0))) dflt)
noncomputable def zakb (lf d : Nat) (rec : RT) (a0 a1 : Value) : M Value :=
 optK (nil2 a0) fun v9n1 =>
 optK (zaht PP 132 6 1 v9n1 a1) fun v10n2 =>
 insB (zaai PP 3 v10n2) fun v11n3 =>
 zagd lf d rec (zajj lf d rec (zace lf d)) lf a0 a1 (Value.int .i64 0) v11n3 a1
theorem zapk (lf d : Nat) (k : KT) : ∀ fu : Nat, zagd lf d (evC lf d) k fu = zacz lf d fu k
 | 0 => by funext x0 x1 x4 x5 x6; kernel_rfl
 | fu + 1 => by
  have ih := zapk lf d k fu
  funext x0 x1 x4 x5 x6; simp only [zagd, ih, zaag, zago (P := PP) Tryz.underlying132 gs3, zaaj (P := PP) ga3, zaao (P := PP) gs3, zaah, zacq (P := PP) nf3, zabd (P := PP) nf3]; kernel_rfl
set_option maxRecDepth 20000 in
theorem zbbz (lf d : Nat) : zajj lf d (evC lf d) (zace lf d) = zace lf d := by
  unfold zajj
  refine Eq.trans (zaba ?_) ?_
  · exact (zaam _ _ _ (by intro y0 y1 y4 y5 y6 y14; show _ = _; (try simp only [zaag, zago (P := PP) Tryz.underlying132 gs3, zaao (P := PP) gs3, zaah]); kernel_rfl))
  rfl
theorem zbca (lf d : Nat) (a0 a1 : Value) : inside (zakb lf d (evC lf d) a0 a1) = evC lf (d + 1) 129 #[a0, a1] := by
 unfold zakb; (try simp only [zbbz lf d, zapk, zaag, zago (P := PP) Tryz.underlying132 gs3, zaaj (P := PP) ga3, zaah]); kernel_rfl

noncomputable def zatm (lf d : Nat) (rec : RT) (a0 a1 a2 : Value) : M Value :=
 insB (zagy PP 3 a1) fun v4n1 =>
 insB (zagy PP 3 a2) fun v5n2 =>
 (inside (rec 103 #[a0, (Value.func (Go.Fn.func 142) #[] #[v4n1, v5n2])])).bind fun v9n3 =>
 optK (un3 PP .not v9n3) fun v10n4 =>
 outK [v10n4]
theorem zbkq (lf d : Nat) (a0 a1 a2 : Value) : inside (zatm lf d (evC lf d) a0 a1 a2) = evC lf (d + 1) 130 #[a0, a1, a2] := by
 unfold zatm; (try simp only [zaag, zafd, zaah, zack]); kernel_rfl

noncomputable def zays (lf d : Nat) (rec : RT) (a0 : Value) : M Value :=
 (inside (rec 132 #[a0])).bind fun v4n1 =>
 optK (un3 PP .not v4n1) fun v5n2 =>
 outK [v5n2]
theorem zbpk (lf d : Nat) (a0 : Value) : inside (zays lf d (evC lf d) a0) = evC lf (d + 1) 131 #[a0] := by
 unfold zays; (try simp only [zaag, zaah, zack]); kernel_rfl

noncomputable def zbcz (lf d : Nat) (rec : RT) (a0 : Value) : M Value :=
 optK (q_geq PP 3 a0 (Value.int .i64 0)) fun v4n1 =>
 ifV v4n1 (
  optK (q_leq PP 3 a0 (Value.int .i64 1099511627776)) fun v7n2 =>
  outK [v7n2]) (
  outK [(Value.bool false)])
theorem zbrt (lf d : Nat) (a0 : Value) : inside (zbcz lf d (evC lf d) a0) = evC lf (d + 1) 132 #[a0] := by
 unfold zbcz; (try simp only [zaag, zaah, zadp (P := PP) nf3, zafx (P := PP) nf3]); kernel_rfl

noncomputable def zadv (lf d fu : Nat) (k : KT) (x0 x1 x4 x5 x6 x7 x10 x17 x22 x23 : Value) : M Value := loopK (fun s1 k1 => codeK PP (evC lf d) (gtA 136) lf (codeAt (bodyOf PP 136) [true, true, true, false, true, false, false]) s1 k1) [0, 1, 4, 5, 6, 7, 10, 17, 22, 23] fu [(0, x0), (1, x1), (4, x4), (5, x5), (6, x6), (7, x7), (10, x10), (17, x17), (22, x22), (23, x23)] k
noncomputable def zacm (lf d : Nat) : KT := contAt PP (evC lf d) (gtA 136) lf (bodyOf PP 136) [true, true, true, false, true, false] (endK PP (resOf PP 136))
noncomputable def zahy (lf d : Nat) (rec : RT) (k : KT) : Nat → Value → Value → Value → Value → Value → Value → Value → Value → Value → Value → M Value
 | 0, _, _, _, _, _, _, _, _, _, _ => M.fail
 | fu + 1, x0, x1, x4, x5, x6, x7, x10, x17, x22, x23 =>
  optK (q_lss PP 3 x23 x22) fun v24n6 =>
  ifV v24n6 (
   optK (q_shl PP 23 x6 (Value.int .u64 1)) fun v26n7 =>
   optK (nil2 x0) fun v29n8 =>
   optK (evFA3 PP 85 2 v29n8 2) fun v30n9 =>
   insB (zaai PP 3 v30n9) fun v31n10 =>
   (inside (rec 145 #[x0, v31n10])).bind fun v32n11 =>
   optK (q_or PP 23 v26n7 v32n11) fun v33n12 =>
   optK (nil2 x0) fun v35n13 =>
   optK (evFA3 PP 85 2 v35n13 2) fun v36n14 =>
   insB (zaai PP 3 v36n14) fun v37n15 =>
   optK (q_add PP 3 v37n15 (Value.int .i64 1)) fun v38n16 =>
   optK (nil2 x0) fun v39n17 =>
   optK (evFA3 PP 85 2 v39n17 2) fun v40n18 =>
   insB (zaaq PP 3 v40n18 v38n16) fun u19 =>
   optK (q_add PP 3 x23 (Value.int .i64 1)) fun v41n20 =>
   zahy lf d rec k fu x0 x1 x4 x5 v33n12 x7 x10 x17 x22 v41n20) (
   k (Ex.exit 1) [(0, x0), (1, x1), (4, x4), (5, x5), (6, x6), (7, x7), (10, x10), (17, x17), (22, x22), (23, x23), (24, v24n6)])
noncomputable def zalu (lf d : Nat) (rec : RT) (dflt : KT) : KT := (kEx 1 (runCur [0, 1, 4, 5, 6, 7, 10, 17, 22, 23, 24] (fun y0 y1 y4 y5 y6 y7 y10 y17 y22 y23 y24 =>
 outK [y6, (Value.int .i64 0)]) (dflt (Ex.exit 1))) dflt)
noncomputable def zano (lf d : Nat) (rec : RT) (a0 a1 : Value) : M Value :=
 optK (zacg PP 42 a0 (Value.pointer none)) fun v9n1 =>
 ifV v9n1 (
  outK [(Value.int .u32 0), (Value.int .i64 7)]) (
  optK (q_lss PP 3 a1 (Value.int .i64 0)) fun v12n2 =>
  ifV v12n2 (
   outK [(Value.int .u32 0), (Value.int .i64 1)]) (
   optK (q_gtr PP 3 a1 (Value.int .i64 32)) fun v15n3 =>
   ifV v15n3 (
    outK [(Value.int .u32 0), (Value.int .i64 1)]) (
    (inside (rec 144 #[a0])).bind fun v19n4 =>
    optK (q_lss PP 3 v19n4 a1) fun v21n5 =>
    ifV v21n5 (
     outK [(Value.int .u32 0), (Value.int .i64 3)]) (
     zahy lf d rec (zalu lf d rec (zacm lf d)) lf a0 a1 (Value.int .u32 0) (Value.int .i64 0) (Value.int .u32 0) v9n1 v15n3 v21n5 a1 (Value.int .i64 0)))))
theorem zase (lf d : Nat) (k : KT) : ∀ fu : Nat, zahy lf d (evC lf d) k fu = zadv lf d fu k
 | 0 => by funext x0 x1 x4 x5 x6 x7 x10 x17 x22 x23; kernel_rfl
 | fu + 1 => by
  have ih := zase lf d k fu
  funext x0 x1 x4 x5 x6 x7 x10 x17 x22 x23; simp only [zahy, ih, zaag, zaal (P := PP) zbmq, zaaj (P := PP) ga3, zaao (P := PP) gs3, zaah, zaap (P := PP) nf3, zaat (P := PP) nf3, zbwr (P := PP) nf23, zbet (P := PP) nf23]; kernel_rfl
set_option maxRecDepth 20000 in
theorem zbfx (lf d : Nat) : zalu lf d (evC lf d) (zacm lf d) = zacm lf d := by
  unfold zalu
  refine Eq.trans (zaba ?_) ?_
  · exact (zaam _ _ _ (by intro y0 y1 y4 y5 y6 y7 y10 y17 y22 y23 y24; show _ = _; (try simp only [zaag, zaah]); kernel_rfl))
  rfl
theorem zbgh (lf d : Nat) (a0 a1 : Value) : inside (zano lf d (evC lf d) a0 a1) = evC lf (d + 1) 136 #[a0, a1] := by
 unfold zano; (try simp only [zbfx lf d, zase, zaag, zaah, zabc (P := PP) Tryz.underlying42, zacq (P := PP) nf3, zaat (P := PP) nf3]); kernel_rfl

noncomputable def zakj (lf d : Nat) (rec : RT) (a0 : Value) : M Value :=
 optK (nil2 a0) fun v4n1 =>
 optK (evFA3 PP 135 9 v4n1 4) fun v5n2 =>
 insB (zaaq PP 4 v5n2 (Value.bool true)) fun u3 =>
 outK [(Value.int .i64 25)]
theorem zbci (lf d : Nat) (a0 : Value) : inside (zakj lf d (evC lf d) a0) = evC lf (d + 1) 137 #[a0] := by
 unfold zakj; (try simp only [zaag, zaal (P := PP) zbxz, zaao (P := PP) gs4, zaah]); kernel_rfl

noncomputable def zaiz (lf d : Nat) (rec : RT) (a0 a1 : Value) : M Value :=
 (inside (rec 107 #[a1])).bind fun v6n1 =>
 optK (un3 PP .not v6n1) fun v7n2 =>
 ifV v7n2 (
  optK (nil2 a0) fun v9n3 =>
  optK (evFA3 PP 130 3 v9n3 3) fun v10n4 =>
  insB (zaaq PP 4 v10n4 (Value.bool true)) fun u5 =>
  outK [(Value.int .i64 22)]) (
  optK (nil2 a0) fun v13n6 =>
  optK (evFA3 PP 130 1 v13n6 1) fun v14n7 =>
  insB (zaaq PP 3 v14n7 a1) fun u8 =>
  outK [(Value.int .i64 0)])
theorem zazc (lf d : Nat) (a0 a1 : Value) : inside (zaiz lf d (evC lf d) a0 a1) = evC lf (d + 1) 138 #[a0, a1] := by
 unfold zaiz; (try simp only [zaag, zaal (P := PP) zbxu, zaal (P := PP) zbvd, zaao (P := PP) gs3, zaao (P := PP) gs4, zaah, zack]); kernel_rfl

end Go.Proofs.YtdagfcflbphoiaaGreatDoor.Fa

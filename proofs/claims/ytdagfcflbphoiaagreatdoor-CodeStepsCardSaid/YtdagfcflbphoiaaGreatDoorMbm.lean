import Derived.Test.YtdagfcflbphoiaaGreatDoorMbl
namespace Go.Proofs.YtdagfcflbphoiaaGreatDoor
set_option linter.unusedVariables false
set_option linter.unusedSimpArgs false
open Go.RowKit Ev Cn

theorem zckg : cellTs Tryz.prog 8 9 = some [9] := by kernel_rfl
theorem zcjm : isAggT Tryz.prog 9 = false := by kernel_rfl
set_option maxRecDepth 20000 in
theorem zcke {h : H} {n : Nat} {v : Value} (x : ArgH Tryz.prog h n 9 v) : ∃ s : List UInt8, v = .string ⟨s.toArray⟩ ∧ s.length ≤ 9223372036854775807 := zcih (f := 7) Tryz.underlying9 (zbql zckg zcjm x)
end Go.Proofs.YtdagfcflbphoiaaGreatDoor

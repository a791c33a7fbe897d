import Derived.Test.YtdagfcflbphoiaaGreatDoorMbj
namespace Go.Proofs.YtdagfcflbphoiaaGreatDoor
set_option linter.unusedVariables false
set_option linter.unusedSimpArgs false
open Go.RowKit Ev Cn

theorem zcjw : cellTs Tryz.prog 8 9 = some [9] := by kernel_rfl
theorem zcit : isAggT Tryz.prog 9 = false := by kernel_rfl
theorem zcjr : cellTs Tryz.prog 8 41 = some [3, 3] := by kernel_rfl
theorem zcjh : isAggT Tryz.prog 41 = true := by kernel_rfl
set_option maxRecDepth 20000 in
theorem zckb {h : H} {n : Nat} {v : Value} (x : ArgH Tryz.prog h n 9 v) : ∃ s : List UInt8, v = .string ⟨s.toArray⟩ ∧ s.length ≤ 9223372036854775807 := zchy (f := 7) Tryz.underlying9 (zbqk zcjw zcit x)
set_option maxRecDepth 20000 in
theorem zcjd {h : H} {n : Nat} {v : Value} (x : ArgH Tryz.prog h n 41 v) : ∃ a b : Int, v = .agg #[.int .i64 a, .int .i64 b] := by
  obtain ⟨cs, rfl, q⟩ := zcgb zcjr zcjh x
  obtain ⟨a, b, rfl, q1, q2⟩ := zcjy q
  obtain ⟨i, rfl, _⟩ := zbnq (f := 7) Tryz.underlying3 q1
  obtain ⟨j, rfl, _⟩ := zbnq (f := 7) Tryz.underlying3 q2
  exact ⟨i, j, rfl⟩
theorem zbuc {w : World} (hw : Ev.GlobAt w) {vs : List Value} (ha : All2 (ArgR Tryz.prog w) [9, 3, 41] vs) : Calls Tryz.prog 4 vs.toArray w fun e w' => e = .returned (.bool true) ∧ Below w.heap.size w w' :=
  zcfl (lf := 3000000) (d := 712) hw ha fun n h vs0 g q => by
    obtain ⟨a, b, c, rfl, h1, h2, h3⟩ := Ev.all2_3 q
    obtain ⟨s, rfl, hs⟩ := zckb h1
    obtain ⟨z, rfl, hz⟩ := a_num h2
    obtain ⟨x, y, rfl⟩ := zcjd h3
    exact zcht (lf := 3000000) (d := 700) g s z x y (by decide) hz hs
end Go.Proofs.YtdagfcflbphoiaaGreatDoor

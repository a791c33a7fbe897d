/- Layers 24 and 25: from the second form to calls. -/
import Derived.Test.YthhhkplbjcknkaaGreatUa
import Derived.Test.YthhhkplbjcknkaaGreatFg
import Derived.Test.YthhhkplbjcknkaaGreatEvY
namespace Go.Proofs.YthhhkplbjcknkaaGreat
set_option linter.unusedVariables false
set_option linter.unusedSimpArgs false
open Go.RowKit Ev

theorem ev_progK : Ev.okProg Tryz.prog Ev.KN = true := by kernel_rfl
theorem kn24 : Ev.Known Tryz.prog Ev.KN := by
  intro f hf hp w _
  have : f = 9 ∨ f = 34 ∨ f = 134 := by simpa [Ev.KN] using hf
  rcases this with rfl | rfl | rfl
  · exact l_none w
  · exact l_three w
  · exact absurd hp (by decide +kernel)
theorem the_law {f : FuncId} {ts : List TypeId} {vs : List Value} {w : World} (ha : All2 (ArgR Tryz.prog w) ts vs) (r : ∀ n h vs0, All2 (ArgH Tryz.prog h n) ts vs0 → Run (fun _ => False) n (evCall2 Tryz.prog gt 3000000 1000 f vs0.toArray) h n fun v _ _ => v = .bool true) :
    Calls Tryz.prog f vs.toArray w fun e w' => e = .returned (.bool true) ∧ Below w.heap.size w w' := by
  obtain ⟨m, x⟩ := laid_nil Tryz.prog w
  exact Ev.law_of ev_names ev_progK ev_mix kn24 okd ha x fun n h vs0 _ _ q => r n h vs0 q
theorem ce9 : cellTs Tryz.prog 8 9 = some [9] := by kernel_rfl
theorem ag9' : isAggT Tryz.prog 9 = false := by kernel_rfl
theorem ce3 : cellTs Tryz.prog 8 3 = some [3] := by kernel_rfl
theorem ag3' : isAggT Tryz.prog 3 = false := by kernel_rfl
set_option maxRecDepth 4000 in
theorem a_str {h : H} {n : Nat} {v : Value} (x : ArgH Tryz.prog h n 9 v) : ∃ l : List UInt8, v = .string ⟨l.toArray⟩ ∧ l.length ≤ maxLen := by
  have q := argH_cell (P := Tryz.prog) (h := h) (n := n) (t := 9) (v := v) ce9 ag9' x
  exact rep_str (f := 7) Tryz.underlying9 q
set_option maxRecDepth 4000 in
theorem a_int {h : H} {n : Nat} {v : Value} (x : ArgH Tryz.prog h n 3 v) : ∃ i : Int, v = .int .i64 i ∧ -9223372036854775808 ≤ i ∧ i ≤ 9223372036854775807 := by
  have q := argH_cell (P := Tryz.prog) (h := h) (n := n) (t := 3) (v := v) ce3 ag3' x
  obtain ⟨i, h1, h2⟩ := rep_int (f := 7) Tryz.underlying3 q
  exact ⟨i, h1, wf64 h2⟩

end Go.Proofs.YthhhkplbjcknkaaGreat

/- Layer 14: what the statement CodeNil wants. -/
import Derived.Test.YthhhkplbjcknkaaGreatDoorWb
namespace Go.Proofs.YthhhkplbjcknkaaGreatDoor
set_option linter.unusedVariables false
set_option linter.unusedSimpArgs false
open Go.RowKit Ev

theorem the_law {f : FuncId} {ts : List TypeId} {vs : List Value} {w : World} (hw : Ev.GlobAt w) (ha : All2 (ArgR Tryz.prog w) ts vs) (r : ∀ n h vs0, Tryz.prog.globals.size ≤ n → h.get 0 = some ⟨3, false, gV⟩ → All2 (ArgH Tryz.prog h n) ts vs0 → Run (fun _ => False) n (evCall2 Tryz.prog gt 3000000 1000 f vs0.toArray) h n fun v _ _ => v = .bool true) :
    Calls Tryz.prog f vs.toArray w fun e w' => e = .returned (.bool true) ∧ Below w.heap.size w w' := by
  obtain ⟨m, x⟩ := laid_hG hw
  exact Ev.law_of ev_names ev_progK ev_mix known okd ha x fun n h vs0 hn hg q => r n h vs0 hn (by rw [hg _ (by decide +kernel)]; exact get_eq _ _ _) q
theorem ceA2 : cellTs Tryz.prog 8 23 = some [3, 3] := by kernel_rfl
theorem agA2 : isAggT Tryz.prog 23 = true := by kernel_rfl
set_option maxRecDepth 4000 in
theorem a_two {h : H} {n : Nat} {v : Value} (x : ArgH Tryz.prog h n 23 v) : ∃ a b : Int, v = .agg #[.int .i64 a, .int .i64 b] := by
  obtain ⟨cs, rfl, q0⟩ := argH_agg ceA2 agA2 x
  obtain ⟨a, b, rfl, q1, q2⟩ := all2_2 q0
  obtain ⟨i, rfl, _⟩ := rep_int (f := 7) Tryz.underlying3 q1
  obtain ⟨j, rfl, _⟩ := rep_int (f := 7) Tryz.underlying3 q2
  exact ⟨i, j, rfl⟩
theorem call_CNil {w : World} (hw : Ev.GlobAt w) {vs : List Value} (ha : All2 (ArgR Tryz.prog w) [22, 23] vs) : Calls Tryz.prog 3 vs.toArray w fun e w' => e = .returned (.bool true) ∧ Below w.heap.size w w' := by
  refine the_law hw ha fun n h vs0 hn hg q => ?_
  obtain ⟨a, b, rfl, h1, h2⟩ := Ev.all2_2 q
  obtain ⟨i, j, rfl⟩ := a_two h2
  exact law_CNil 3000000 996 n h (by decide) a i j hn hg

end Go.Proofs.YthhhkplbjcknkaaGreatDoor

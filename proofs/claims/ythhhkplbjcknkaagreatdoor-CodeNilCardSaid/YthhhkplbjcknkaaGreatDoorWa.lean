/- Layer 21: statement StreamNil. -/
import Derived.Test.YthhhkplbjcknkaaGreatDoorShB
import Derived.Test.YthhhkplbjcknkaaGreatDoorCl
import Derived.Test.YthhhkplbjcknkaaGreatDoorEvYb
import Derived.Test.YthhhkplbjcknkaaGreatDoorGl
namespace Go.Proofs.YthhhkplbjcknkaaGreatDoor
set_option linter.unusedVariables false
set_option linter.unusedSimpArgs false
open Go.RowKit Ev

theorem wrap_succ {x : Nat} (h : x < 9223372036854775807) : IntKind.i64.wrap ((x : Int) + 1) = ((x + 1 : Nat) : Int) := by rw [wrap_id (by omega) (by omega)]; rfl
theorem wrap_pred {x : Nat} (h : x < 9223372036854775807) : IntKind.i64.wrap (((x + 1 : Nat) : Int) - 1) = ((x : Nat) : Int) := by rw [wrap_id (by omega) (by omega)]; omega
theorem law_SNil (s : List UInt8) (x u : Int) : Run (fun _ => False) Tryz.prog.globals.size (evCall2 Tryz.prog gt 3000000 1000 4 #[.string ⟨s.toArray⟩, .int .i64 x, .int .u32 u]) hG Tryz.prog.globals.size fun v _ _ => v = .bool true := by
  rw [sh_balerlaw21_StreamNil]
  refine Run.inside_ ?_
  unfold b_balerlaw21_StreamNil
  by_cases h60 : (60 : Int) < s.length
  · try simp (disch := first | omega | assumption | exact one_int _ _ | exact one_slice _ _ _ | exact one_ptr _ | exact one_bool _ | exact one_string _) only [optK_some_eq, nil2_ptr, ifV_true, ifV_false, run_if, run_out0, run_out1, run_out2, run_out3, optG_some, one_int, one_bool, one_string, one_slice, one_ptr, min2_eq, max2_eq, pick2_eq, u_not, u_neg, cells_agg, inside_ret, chk_true, get_eq, get_ne, List.getElem?_cons_zero, List.getElem?_cons_succ, List.set_cons_zero, List.set_cons_succ, List.length_cons, List.length_nil, Int.toNat_natCast, Int.toNat_zero, Nat.zero_add, Nat.add_zero, decide_eq_true_eq, decide_eq_false_iff_not, true_and, and_true, if_true, if_false, true_or, or_true, Bool.false_eq_true, Bool.true_eq_false, Nat.reduceAdd, Nat.reduceLT, wrap_id, wrap_succ, wrap_pred, FX1, FX2, false_and, and_false, Bool.not_true, Bool.not_false, beq_self_eq_true, bne_self_eq_false, decide_true, decide_false, Int.reduceBEq, Int.reduceBNe, Int.reduceLT, Int.reduceLE, Int.reduceEq, Int.reduceNe, Int.reduceAdd, Int.reduceSub, Int.reduceMul, Int.reduceNeg, Bool.and_true, Bool.true_and, Bool.and_false, Bool.false_and, h60]
    exact run_ker (by kernel_rfl)
  · try simp (disch := first | omega | assumption | exact one_int _ _ | exact one_slice _ _ _ | exact one_ptr _ | exact one_bool _ | exact one_string _) only [optK_some_eq, nil2_ptr, ifV_true, ifV_false, run_if, run_out0, run_out1, run_out2, run_out3, optG_some, one_int, one_bool, one_string, one_slice, one_ptr, min2_eq, max2_eq, pick2_eq, u_not, u_neg, cells_agg, inside_ret, chk_true, get_eq, get_ne, List.getElem?_cons_zero, List.getElem?_cons_succ, List.set_cons_zero, List.set_cons_succ, List.length_cons, List.length_nil, Int.toNat_natCast, Int.toNat_zero, Nat.zero_add, Nat.add_zero, decide_eq_true_eq, decide_eq_false_iff_not, true_and, and_true, if_true, if_false, true_or, or_true, Bool.false_eq_true, Bool.true_eq_false, Nat.reduceAdd, Nat.reduceLT, wrap_id, wrap_succ, wrap_pred, FX1, FX2, false_and, and_false, Bool.not_true, Bool.not_false, beq_self_eq_true, bne_self_eq_false, decide_true, decide_false, Int.reduceBEq, Int.reduceBNe, Int.reduceLT, Int.reduceLE, Int.reduceEq, Int.reduceNe, Int.reduceAdd, Int.reduceSub, Int.reduceMul, Int.reduceNeg, Bool.and_true, Bool.true_and, Bool.and_false, Bool.false_and, h60]
    exact run_ker (by kernel_rfl)
theorem the_flat {f : FuncId} {vs : List Value} {w : World} (hw : Ev.GlobAt w) (ha : vs.all flat = true) (r : Run (fun _ => False) Tryz.prog.globals.size (evCall2 Tryz.prog gt 3000000 1000 f vs.toArray) hG Tryz.prog.globals.size fun v _ _ => v = .bool true) :
    Calls Tryz.prog f vs.toArray w fun e w' => e = .returned (.bool true) ∧ Below w.heap.size w w' := by
  obtain ⟨m, x⟩ := laid_hG hw
  exact Ev.law_flat ev_names ev_progK ev_mix known okd ha x r
theorem ce9 : cellTs Tryz.prog 8 9 = some [9] := by kernel_rfl
theorem ag9' : isAggT Tryz.prog 9 = false := by kernel_rfl
theorem ce3 : cellTs Tryz.prog 8 3 = some [3] := by kernel_rfl
theorem ag3' : isAggT Tryz.prog 3 = false := by kernel_rfl
theorem ceU : cellTs Tryz.prog 8 38 = some [38] := by kernel_rfl
theorem agU' : isAggT Tryz.prog 38 = false := by kernel_rfl
theorem repR_str {P : Program} {w : World} {f : Nat} {t : TypeId} {v : Value} (hu : P.underlying t = some .string) (x : Rep1 P w (f + 1) t v) : ∃ s : List UInt8, v = .string ⟨s.toArray⟩ ∧ s.length ≤ maxLen := by
  unfold Rep1 at x
  rw [hu] at x
  obtain ⟨s, hv, hs⟩ := x
  exact ⟨s.data.toList, by rw [hv], by rw [← str_size, ← str_of]; exact hs⟩
set_option maxRecDepth 4000 in
theorem call_SNil {w : World} (hw : Ev.GlobAt w) {vs : List Value} (ha : All2 (ArgR Tryz.prog w) [9, 3, 38] vs) : Calls Tryz.prog 4 vs.toArray w fun e w' => e = .returned (.bool true) ∧ Below w.heap.size w w' := by
  obtain ⟨a, b, c, rfl, h1, h2, h3⟩ := all2_3 ha
  obtain ⟨s, rfl, _⟩ := repR_str (f := 7) Tryz.underlying9 (argR_cell ce9 ag9' h1)
  obtain ⟨x, rfl, _⟩ := repR_int (f := 7) Tryz.underlying3 (argR_cell ce3 ag3' h2)
  obtain ⟨u, rfl, _⟩ := repR_int (f := 7) Tryz.underlying38 (argR_cell ceU agU' h3)
  exact the_flat hw rfl (law_SNil s x u)

end Go.Proofs.YthhhkplbjcknkaaGreatDoor

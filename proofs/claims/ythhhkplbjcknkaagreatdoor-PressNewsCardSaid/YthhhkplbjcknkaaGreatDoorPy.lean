/- Layers 2, 4, 19 and 21: a new sum, a new packer, a new splitter, a new stream. -/
import Derived.Test.YthhhkplbjcknkaaGreatDoorPx
import Derived.Test.YthhhkplbjcknkaaGreatDoorPbc
import Derived.Test.YthhhkplbjcknkaaGreatDoorEvYd
namespace Go.Proofs.YthhhkplbjcknkaaGreatDoor
set_option linter.unusedVariables false
set_option linter.unusedSimpArgs false
open Go.RowKit Ev
def crcV (b : Nat) : Value := .int .u32 (crcT b : Int)
def crcC (i : Nat) : List Value := rc crcV (.int .u32 0) 256 i
section
variable {lf d : Nat}
theorem crc_inner (k : Ex → Fr → M Value) (fu : Nat) (x0 x1 x2 x5 x6 : Value) (b : Nat) (hb : b < 4294967296) {n0 n : Nat} {h : H} {Q : Value → H → Nat → Prop} {W : Nat → Prop} (hk : Run W n0 (kcB_crc_Table lf d fu k (Ex.exit 2) [(0, x0), (1, x1), (2, x2), (3, .int .u32 (crcI 8 b : Int)), (5, x5), (6, x6), (11, .int .i64 8), (12, .bool false)]) h n Q) : ∀ (m i f : Nat), i + m = 8 → m < f → Run W n0 (lpB_crc_Table lf d f (kcB_crc_Table lf d fu k) x0 x1 x2 (.int .u32 (crcI i b : Int)) x5 x6 (.int .i64 (i : Int))) h n Q := by
  intro m
  induction m with
  | zero =>
    intro i f hi hf
    obtain ⟨f, rfl⟩ : ∃ g, f = g + 1 := ⟨f - 1, by omega⟩
    obtain rfl : i = 8 := by omega
    rw [succB_crc_Table]
    have e0 : ¬ (((8 : Nat) : Int) < 8) := by omega
    try simp (disch := first | omega | assumption | exact one_int _ _ | exact one_slice _ _ _ | exact one_ptr _ | exact one_bool _ | exact one_string _) only [RXA, RXB, Nat.reduceAdd, Nat.reduceLT, wrap_id, wrap_succ, wrap_pred, FX1, FX2, FX3, Int.reduceBEq, Int.reduceBNe, Int.reduceLT, Int.reduceLE, Int.reduceEq, Int.reduceNe, Int.reduceAdd, Int.reduceSub, Int.reduceMul, Int.reduceNeg, e0]
    have e1 : decide (((8 : Nat) : Int) < 8) = false := by simp
    first | exact hk | (rw [e1]; exact hk)
  | succ m ih =>
    intro i f hi hf
    obtain ⟨f, rfl⟩ : ∃ g, f = g + 1 := ⟨f - 1, by omega⟩
    rw [succB_crc_Table]
    have e0 : (i : Int) < 8 := by omega
    have hx := crcI_lt i b hb
    have s1 : min (Int.toNat 31) (IntKind.u32).bits = 31 := rfl
    have s2 : min (Int.toNat 1) (IntKind.u32).bits = 1 := rfl
    have e1 : ((crcI i b : Nat) : Int).fdiv (2 ^ 31) = ((crcI i b / 2 ^ 31 : Nat) : Int) := by
      have := fdiv_pow (crcI i b) 31 32 (by decide)
      rwa [show min ((31 : Nat) : Int).toNat 32 = 31 from rfl] at this
    have e2 := shl32 (x := crcI i b) (k := 1)
    have e3 := mul32 (x := crcI i b / 2 ^ 31) (y := 79764919)
    have e4 := xor32 (a := crcI i b * 2 ^ 1 % 4294967296) (b := crcI i b / 2 ^ 31 * 79764919 % 4294967296) (Nat.mod_lt _ (by decide)) (Nat.mod_lt _ (by decide))
    have e5 : ((79764919 : Nat) : Int) = 79764919 := rfl
    rw [e5] at e3
    try simp (disch := first | omega | assumption | exact one_int _ _ | exact one_slice _ _ _ | exact one_ptr _ | exact one_bool _ | exact one_string _) only [RXA, RXB, Nat.reduceAdd, Nat.reduceLT, wrap_id, wrap_succ, wrap_pred, FX1, FX2, FX3, Int.reduceBEq, Int.reduceBNe, Int.reduceLT, Int.reduceLE, Int.reduceEq, Int.reduceNe, Int.reduceAdd, Int.reduceSub, Int.reduceMul, Int.reduceNeg, e0, s1, s2, e1, e2, e3, e4]
    exact ih (i + 1) f (by omega) (by omega)
theorem crc_outer {a b : Nat} (hab : a ≠ b) (hlf : 9 ≤ lf) : ∀ (m i fu n : Nat) (h : H), i + m = 256 → m < fu → h.get b = some ⟨204, true, crcC i⟩ → h.get a = some ⟨204, true, crcC 0⟩ → a < n → b < n → ∀ n0, n0 ≤ a → n0 ≤ b →
    Run (fun _ => False) n0 (lpA_crc_Table lf d fu (kcA_crc_Table lf d) (.pointer (some ⟨a, 0, none⟩)) (.pointer (some ⟨b, 0, none⟩)) (.int .i64 (i : Int))) h n fun v h' n' => v = .agg ((List.range 256).map crcV).toArray ∧ n' = n := by
  intro m
  induction m with
  | zero =>
    intro i fu n h hi hf gb ga ha hb n0 h1 h2
    obtain ⟨fu, rfl⟩ : ∃ f, fu = f + 1 := ⟨fu - 1, by omega⟩
    obtain rfl : i = 256 := by omega
    have hall : crcC 256 = (List.range 256).map crcV := rc_all _ _ _
    have hl : ((List.range 256).map crcV).length = 256 := by rw [List.length_map, List.length_range]
    have hone : ((List.range 256).map crcV).all one = true := by rw [List.all_map]; rw [List.all_eq_true]; intro x _; rfl
    rw [hall] at gb
    rw [succA_crc_Table]
    have e0 : ¬ (((256 : Nat) : Int) < 256) := by omega
    try simp (disch := first | omega | assumption | exact one_int _ _ | exact one_slice _ _ _ | exact one_ptr _ | exact one_bool _ | exact one_string _) only [RXA, RXB, Nat.reduceAdd, Nat.reduceLT, wrap_id, wrap_succ, wrap_pred, FX1, FX2, FX3, Int.reduceBEq, Int.reduceBNe, Int.reduceLT, Int.reduceLE, Int.reduceEq, Int.reduceNe, Int.reduceAdd, Int.reduceSub, Int.reduceMul, Int.reduceNeg, e0]
    rw [kcAa_crc_Table]
    refine run_lda aga204 sz204 _ _ _ gb hb (by rw [hl]; exact Nat.le_refl _) ?_
    have hd : (((List.range 256).map crcV).drop 0).take 256 = (List.range 256).map crcV := by rw [List.drop_zero, List.take_of_length_le (by rw [hl]; exact Nat.le_refl _)]
    show Run _ _ ((inside (evStore Tryz.prog 204 _ (.agg ((((List.range 256).map crcV).drop 0).take 256).toArray))).bind _) _ _ _
    rw [hd]
    refine run_sta sz204 (vs := (List.range 256).map crcV) rfl hl hone ga ha (by unfold crcC; rw [rc_len]; exact Nat.le_refl _) (.inl h1) _ fun h' ga' _ => ?_
    have hc0 : (crcC 0).take 0 ++ (List.range 256).map crcV ++ (crcC 0).drop (0 + 256) = (List.range 256).map crcV := by
      rw [List.take_zero, List.nil_append, List.drop_eq_nil_of_le (by unfold crcC; rw [rc_len]; exact Nat.le_refl _), List.append_nil]
    rw [hc0] at ga'
    refine run_lda0 aga204 sz204 _ _ _ ga' ha (by rw [hl]; exact Nat.le_refl _) ?_
    show Run _ _ (outK [.agg ((((List.range 256).map crcV).drop 0).take 256).toArray]) _ _ _
    rw [hd, run_out1]
    exact ⟨rfl, rfl⟩
  | succ m ih =>
    intro i fu n h hi hf gb ga ha hb n0 h1 h2
    obtain ⟨fu, rfl⟩ : ∃ f, fu = f + 1 := ⟨fu - 1, by omega⟩
    rw [succA_crc_Table]
    have e0 : (i : Int) < 256 := by omega
    have e1 : (0 : Int) ≤ (i : Int) := by omega
    have e2 : IntKind.u32.wrap (i : Int) = (i : Int) := w32 (by omega)
    have s1 : min (Int.toNat 24) (IntKind.u32).bits = 24 := rfl
    have e3 := shl32 (x := i) (k := 24)
    try simp (disch := first | omega | assumption | exact one_int _ _ | exact one_slice _ _ _ | exact one_ptr _ | exact one_bool _ | exact one_string _) only [RXA, RXB, Nat.reduceAdd, Nat.reduceLT, wrap_id, wrap_succ, wrap_pred, FX1, FX2, FX3, Int.reduceBEq, Int.reduceBNe, Int.reduceLT, Int.reduceLE, Int.reduceEq, Int.reduceNe, Int.reduceAdd, Int.reduceSub, Int.reduceMul, Int.reduceNeg, e0, e2, s1, e3]
    refine crc_inner _ _ _ _ _ _ _ (i * 2 ^ 24 % 4294967296) (Nat.mod_lt _ (by decide)) ?_ 8 0 lf (by omega) (by omega)
    rw [kcBa_crc_Table]
    have hi6 : i < 256 := by omega
    have hset : (crcC i).set i (.int .u32 (crcI 8 (i * 2 ^ 24 % 4294967296) : Int)) = crcC (i + 1) := rc_set (f := crcV) hi6
    have hlen : (crcC i).length = 256 := rc_len _ _ _ _
    try simp (disch := first | omega | assumption | exact one_int _ _ | exact one_slice _ _ _ | exact one_ptr _ | exact one_bool _ | exact one_string _) only [RXA, RXB, Nat.reduceAdd, Nat.reduceLT, wrap_id, wrap_succ, wrap_pred, FX1, FX2, FX3, Int.reduceBEq, Int.reduceBNe, Int.reduceLT, Int.reduceLE, Int.reduceEq, Int.reduceNe, Int.reduceAdd, Int.reduceSub, Int.reduceMul, Int.reduceNeg, gb, hlen, hset, hi6, h2, or_false]
    exact ih (i + 1) fu n _ (by omega) (by omega) (get_eq _ _ _) (by rw [get_ne _ _ hab]; exact ga) ha hb n0 h1 h2
theorem s_Table (hlf : 257 ≤ lf) (n : Nat) (h : H) : Run (fun _ => False) n (evCall2 Tryz.prog gt lf (d + 1) 169 #[]) h n fun v h' n' => v = .agg ((List.range 256).map crcV).toArray ∧ n' = n + 2 := by
  rw [sh_crc_Table]
  refine Run.inside_ ?_
  unfold b_crc_Table
  refine run_alloc zr204 _ ?_
  refine run_alloc zr204 _ ?_
  have hz : crcC 0 = List.replicate 256 (.int .u32 0) := rc_zero _ _ _
  exact crc_outer (a := n) (b := n + 1) (by omega) (by omega) 256 0 lf (n + 2) _ (by omega) (by omega) (by rw [hz]; exact get_eq _ _ _) (by rw [hz, get_ne _ _ (by omega)]; exact get_eq _ _ _) (by omega) (by omega) n (by omega) (by omega)
/-- a sum in memory -/
def crcB (x : Nat) : AB := ⟨207, true, (List.range 256).map crcV ++ [.int .u32 (x : Int)]⟩
theorem aggL (l : List Value) : (Value.agg l.toArray).cells.toList = l := rfl
theorem bdC {N : Nat} (vs : List Value) (hl : vs.length = 256) (x : Int) : evBuild Tryz.prog 207 [(0, .agg vs.toArray), (1, .int .u32 x)] = M.ret (.agg (vs ++ [Value.int .u32 x]).toArray) :=
  build_arr (N := 256) (zs := List.replicate 257 (Value.int .u32 0)) (z := .agg (List.replicate 257 (Value.int .u32 0)).toArray) (by kernel_rfl) rfl List.length_replicate Tryz.underlying207 (by kernel_rfl) (by kernel_rfl) (by kernel_rfl) hl rfl
theorem s_crcNew (hlf : 257 ≤ lf) (n : Nat) (h : H) : Run (fun _ => False) n (evCall2 Tryz.prog gt lf (d + 2) 119 #[]) h n fun v h' n' => ∃ p, v = .pointer (some ⟨p, 0, none⟩) ∧ n ≤ p ∧ p < n' ∧ h'.get p = some (crcB 4294967295) := by
  rw [sh_crc_New]
  refine Run.inside_ ?_
  unfold b_crc_New
  refine run_call okd (s_Table hlf n h) (Nat.le_refl _) (fun _ _ h => h.elim) ?_
  rintro _ h1 n1 hn1 fr1 ⟨rfl, rfl⟩
  rw [bdC (N := 0) _ (by rw [List.length_map, List.length_range]), inside_ret]
  refine run_box sz207 _ _ ?_
  rw [run_out1]
  exact ⟨n + 2, rfl, by omega, by omega, by rw [get_eq, aggL]; unfold crcB; rfl⟩
end

end Go.Proofs.YthhhkplbjcknkaaGreatDoor

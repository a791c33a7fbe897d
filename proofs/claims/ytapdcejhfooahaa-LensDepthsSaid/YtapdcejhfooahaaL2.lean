/- The trees of the lens package, by the second form: how they lie; the least one. -/
import Derived.Test.YtapdcejhfooahaaShL
import Derived.Test.YtapdcejhfooahaaLP
namespace Go.Proofs.Ytapdcejhfooahaa
set_option linter.unusedVariables false
set_option linter.unusedSimpArgs false
open Go.RowKit Ev Hu

theorem wrap_succ {x : Nat} (h : x < 9223372036854775807) : IntKind.i64.wrap ((x : Int) + 1) = ((x + 1 : Nat) : Int) := by rw [wrap_id (by omega) (by omega)]; rfl
theorem wrap_pred {x : Nat} (h : x < 9223372036854775807) : IntKind.i64.wrap (((x + 1 : Nat) : Int) - 1) = ((x : Nat) : Int) := by rw [wrap_id (by omega) (by omega)]; omega
def ints (xs : List Int) : List Value := xs.map (Value.int .i64)
def nats (xs : List Nat) : List Value := xs.map fun (x : Nat) => Value.int .i64 x
theorem ints_len (xs : List Int) : (ints xs).length = xs.length := by unfold ints; simp
theorem ints_at {xs : List Int} {i : Nat} (h : i < xs.length) : (ints xs)[i]? = some (.int .i64 (xs.getD i 0)) := by
  unfold ints; simp [h]

structure TreesAt (h : H) (n g : Nat) (t : HT) (bw bi bl off cl : Nat) (cs : List Value) : Prop where
  hg : h.get g = some ⟨46, true, [.slice (some ⟨bw, 0, none⟩) t.weight.length (CAP + t.weight.length), .slice (some ⟨bi, 0, none⟩) t.into.length (CAP + t.into.length), .slice (some ⟨bl, off, none⟩) t.leaves.length cl, .int .i64 (t.joined : Nat)]⟩
  hw : h.get bw = some ⟨3, true, ints t.weight⟩
  hi : h.get bi = some ⟨3, true, ints t.into⟩
  hl : h.get bl = some ⟨3, true, cs⟩
  hlen : off + t.leaves.length ≤ cs.length
  hcs : (cs.drop off).take t.leaves.length = nats t.leaves
  hcl : t.leaves.length ≤ cl
  d : g ≠ bw ∧ g ≠ bi ∧ g ≠ bl ∧ bw ≠ bi ∧ bw ≠ bl ∧ bi ≠ bl ∧ g < n ∧ bw < n ∧ bi < n ∧ bl < n

theorem nats_at {cs : List Value} {off : Nat} {l : List Nat} (hcs : (cs.drop off).take l.length = nats l) {i : Nat} (hi : i < l.length) : cs[off + i]? = some (.int .i64 (l.getD i 0 : Nat)) := by
  have h := congrArg (fun z => z[i]?) hcs
  simp only [List.getElem?_take, hi, if_true, List.getElem?_drop] at h
  rw [h]
  unfold nats
  simp [hi]
theorem TreesAt.leaf {h : H} {n g : Nat} {t : HT} {bw bi bl off cl : Nat} {cs : List Value} (hT : TreesAt h n g t bw bi bl off cl cs) (hil : isLeaf t = true) (h0 : 0 < t.leaves.length) {off' : Nat} (ho : off' = off + 1 ∨ t.leaves.length = 1 ∧ off' = off) {x : H}
    (hx : x = h.set g (some ⟨46, true, [.slice (some ⟨bw, 0, none⟩) t.weight.length (CAP + t.weight.length), .slice (some ⟨bi, 0, none⟩) t.into.length (CAP + t.into.length), .slice (some ⟨bl, off', none⟩) (t.leaves.length - 1) (cl - 1), .int .i64 (t.joined : Nat)]⟩)) : TreesAt x n g (taken t) bw bi bl off' (cl - 1) cs := by
  obtain ⟨hg, hbw, hbi, hbl, hlen, hcs, hcl, hd⟩ := hT
  subst hx
  have e : taken t = { t with leaves := t.leaves.tail } := by unfold taken; rw [if_pos hil]
  rw [e]
  refine ⟨?_, ?_, ?_, ?_, ?_, ?_, ?_, hd⟩
  · rw [get_eq]; simp
  · rw [get_ne _ _ (by omega)]; exact hbw
  · rw [get_ne _ _ (by omega)]; exact hbi
  · rw [get_ne _ _ (by omega)]; exact hbl
  · simp only [List.length_tail]; omega
  · simp only [List.length_tail]
    rcases ho with ho | ⟨ho, _⟩
    · subst ho
      have := congrArg List.tail hcs
      unfold nats at this ⊢
      rw [← List.map_tail] at this
      rw [← this, ← List.drop_one, List.drop_take, List.drop_drop]
    · have : t.leaves.tail = [] := by rw [← List.length_eq_zero_iff, List.length_tail]; omega
      rw [this, ho]
      simp [nats]
  · simp only [List.length_tail]; omega
theorem TreesAt.joined {h : H} {n g : Nat} {t : HT} {bw bi bl off cl : Nat} {cs : List Value} (hT : TreesAt h n g t bw bi bl off cl cs) (hil : isLeaf t = false) {x : H}
    (hx : x = h.set g (some ⟨46, true, [.slice (some ⟨bw, 0, none⟩) t.weight.length (CAP + t.weight.length), .slice (some ⟨bi, 0, none⟩) t.into.length (CAP + t.into.length), .slice (some ⟨bl, off, none⟩) t.leaves.length cl, .int .i64 ((t.joined + 1 : Nat) : Int)]⟩)) : TreesAt x n g (taken t) bw bi bl off cl cs := by
  obtain ⟨hg, hbw, hbi, hbl, hlen, hcs, hcl, hd⟩ := hT
  subst hx
  have e : taken t = { t with joined := t.joined + 1 } := by unfold taken; rw [hil]; rfl
  rw [e]
  refine ⟨?_, ?_, ?_, ?_, hlen, hcs, hcl, hd⟩
  · rw [get_eq]
  · rw [get_ne _ _ (by omega)]; exact hbw
  · rw [get_ne _ _ (by omega)]; exact hbi
  · rw [get_ne _ _ (by omega)]; exact hbl
theorem s_least (lf d g n : Nat) (h : H) (t : HT) (bw bi bl off cl : Nat) (cs : List Value) (hT : TreesAt h n g t bw bi bl off cl cs) (hjl : t.joined ≤ 100000) (hll : t.leaves.length ≤ 100000) (hw : t.weight.length ≤ 100000) (hok : isLeaf t = true → 0 < t.leaves.length) (hok1 : 0 < t.leaves.length → t.leaves.getD 0 0 < t.weight.length) (hok2 : t.joined ≤ t.weight.length) :
    Run (fun b => b = g) n (evCall2 Try.prog gt lf (d + 1) 29 #[.pointer (some ⟨g, 0, none⟩)]) h n fun v h' n' => v = .int .i64 (leastOf t : Nat) ∧ n' = n ∧ ∃ off' cl', TreesAt h' n g (taken t) bw bi bl off' cl' cs := by
  have hT0 := hT
  obtain ⟨hg, hbw, hbi, hbl, hlen, hcs, hcl, hd⟩ := hT
  rw [sh_lens_trees_least]
  refine Run.inside_ ?_
  unfold b_lens_trees_least
  have hgn := hd.2.2.2.2.2.2.1
  have hwn := hd.2.2.2.2.2.2.2.1
  have hln := hd.2.2.2.2.2.2.2.2.2
  have hL : isLeaf t = true → leastOf t = t.leaves.getD 0 0 := fun e => by unfold leastOf; rw [if_pos e]
  have hJ : isLeaf t = false → leastOf t = t.joined := fun e => by unfold leastOf; rw [e]; rfl
  have hcl2 : 0 < t.leaves.length → 0 < cl := fun _ => by omega
  by_cases hj : t.joined = t.weight.length
  · have hil : isLeaf t = true := by unfold isLeaf; simp [hj]
    have h0 := hok hil
    have hc0 : cs[off]? = some (.int .i64 (t.leaves.getD 0 0 : Nat)) := nats_at hcs h0
    have e1 : (((t.joined : Nat) : Int) == ((t.weight.length : Nat) : Int)) = true := by rw [hj]; simp
    try simp (disch := first | omega | assumption | exact one_int _ _ | exact one_slice _ _ _ | exact one_ptr _ | exact one_bool _ | exact one_string _) only [optK_some_eq, nil2_ptr, ifV_true, ifV_false, run_if, run_out0, run_out1, run_out2, run_out3, optG_some, one_int, one_bool, one_string, one_slice, one_ptr, min2_eq, max2_eq, pick2_eq, u_not, u_neg, cells_agg, inside_ret, chk_true, get_eq, get_ne, List.getElem?_cons_zero, List.getElem?_cons_succ, List.set_cons_zero, List.set_cons_succ, List.length_cons, List.length_nil, Int.toNat_natCast, Int.toNat_zero, Nat.zero_add, Nat.add_zero, decide_eq_true_eq, decide_eq_false_iff_not, true_and, and_true, if_true, if_false, true_or, or_true, Bool.false_eq_true, Bool.true_eq_false, Nat.reduceAdd, Nat.reduceLT, wrap_id, wrap_succ, wrap_pred, len22, bgtr3, bleq3, blss3, beql24, beql3, ix22, ldr3, badd3, bneq3, bneq24, bmul3, str3, bsub3, bshl3, bquo3, bd36x0x1x2, len34, ix34, fa36f2, ldr22, fa36f0, fa46f0, bgeq3, fa46f1, beql22s, beql22n, bd46x0x3, fa46f2, str22, fa46f3, fa36f1, cv3x54, bshr54, cv54x3, hg, hbw, hbi, hbl, e1, hc0]
    refine slice_run c1x22 (n0 := n) (l := 1) (hh := t.leaves.length) hbl rfl (by omega) off t.leaves.length cl _ _ (bound_nat _ 1 0) (bound_none _) (by omega) (by omega) (by omega) _ ns22 ?_
    try simp (disch := first | omega | assumption | exact one_int _ _ | exact one_slice _ _ _ | exact one_ptr _ | exact one_bool _ | exact one_string _) only [optK_some_eq, nil2_ptr, ifV_true, ifV_false, run_if, run_out0, run_out1, run_out2, run_out3, optG_some, one_int, one_bool, one_string, one_slice, one_ptr, min2_eq, max2_eq, pick2_eq, u_not, u_neg, cells_agg, inside_ret, chk_true, get_eq, get_ne, List.getElem?_cons_zero, List.getElem?_cons_succ, List.set_cons_zero, List.set_cons_succ, List.length_cons, List.length_nil, Int.toNat_natCast, Int.toNat_zero, Nat.zero_add, Nat.add_zero, decide_eq_true_eq, decide_eq_false_iff_not, true_and, and_true, if_true, if_false, true_or, or_true, Bool.false_eq_true, Bool.true_eq_false, Nat.reduceAdd, Nat.reduceLT, wrap_id, wrap_succ, wrap_pred, len22, bgtr3, bleq3, blss3, beql24, beql3, ix22, ldr3, badd3, bneq3, bneq24, bmul3, str3, bsub3, bshl3, bquo3, bd36x0x1x2, len34, ix34, fa36f2, ldr22, fa36f0, fa46f0, bgeq3, fa46f1, beql22s, beql22n, bd46x0x3, fa46f2, str22, fa46f3, fa36f1, cv3x54, bshr54, cv54x3, hg]
    exact ⟨by rw [hL hil], _, _, hT0.leaf hil h0 (by split; exact .inr ⟨by omega, rfl⟩; exact .inl rfl) rfl⟩
  · have e1 : (((t.joined : Nat) : Int) == ((t.weight.length : Nat) : Int)) = false := by rw [beq_eq_false_iff_ne]; omega
    have hjw : t.joined < t.weight.length := by omega
    have hwj : (ints t.weight)[t.joined]? = some (.int .i64 (wAt t t.joined)) := ints_at hjw
    by_cases h0 : 0 < t.leaves.length
    · have hc0 : cs[off]? = some (.int .i64 (t.leaves.getD 0 0 : Nat)) := nats_at hcs h0
      have hl1 := hok1 h0
      have hwl : (ints t.weight)[t.leaves.getD 0 0]? = some (.int .i64 (wAt t (t.leaves.getD 0 0))) := ints_at hl1
      have h0' : (0 : Int) < (t.leaves.length : Int) := by omega
      have hil : isLeaf t = decide (wAt t (t.leaves.getD 0 0) ≤ wAt t t.joined) := by unfold isLeaf; simp [hj, h0]
      by_cases hle : wAt t (t.leaves.getD 0 0) ≤ wAt t t.joined
      · rw [decide_eq_true hle] at hil
        try simp (disch := first | omega | assumption | exact one_int _ _ | exact one_slice _ _ _ | exact one_ptr _ | exact one_bool _ | exact one_string _) only [optK_some_eq, nil2_ptr, ifV_true, ifV_false, run_if, run_out0, run_out1, run_out2, run_out3, optG_some, one_int, one_bool, one_string, one_slice, one_ptr, min2_eq, max2_eq, pick2_eq, u_not, u_neg, cells_agg, inside_ret, chk_true, get_eq, get_ne, List.getElem?_cons_zero, List.getElem?_cons_succ, List.set_cons_zero, List.set_cons_succ, List.length_cons, List.length_nil, Int.toNat_natCast, Int.toNat_zero, Nat.zero_add, Nat.add_zero, decide_eq_true_eq, decide_eq_false_iff_not, true_and, and_true, if_true, if_false, true_or, or_true, Bool.false_eq_true, Bool.true_eq_false, Nat.reduceAdd, Nat.reduceLT, wrap_id, wrap_succ, wrap_pred, len22, bgtr3, bleq3, blss3, beql24, beql3, ix22, ldr3, badd3, bneq3, bneq24, bmul3, str3, bsub3, bshl3, bquo3, bd36x0x1x2, len34, ix34, fa36f2, ldr22, fa36f0, fa46f0, bgeq3, fa46f1, beql22s, beql22n, bd46x0x3, fa46f2, str22, fa46f3, fa36f1, cv3x54, bshr54, cv54x3, hg, hbw, hbi, hbl, e1, hc0, hwl, hwj, h0', hle]
        refine slice_run c1x22 (n0 := n) (l := 1) (hh := t.leaves.length) hbl rfl (by omega) off t.leaves.length cl _ _ (bound_nat _ 1 0) (bound_none _) (by omega) (by omega) (by omega) _ ns22 ?_
        try simp (disch := first | omega | assumption | exact one_int _ _ | exact one_slice _ _ _ | exact one_ptr _ | exact one_bool _ | exact one_string _) only [optK_some_eq, nil2_ptr, ifV_true, ifV_false, run_if, run_out0, run_out1, run_out2, run_out3, optG_some, one_int, one_bool, one_string, one_slice, one_ptr, min2_eq, max2_eq, pick2_eq, u_not, u_neg, cells_agg, inside_ret, chk_true, get_eq, get_ne, List.getElem?_cons_zero, List.getElem?_cons_succ, List.set_cons_zero, List.set_cons_succ, List.length_cons, List.length_nil, Int.toNat_natCast, Int.toNat_zero, Nat.zero_add, Nat.add_zero, decide_eq_true_eq, decide_eq_false_iff_not, true_and, and_true, if_true, if_false, true_or, or_true, Bool.false_eq_true, Bool.true_eq_false, Nat.reduceAdd, Nat.reduceLT, wrap_id, wrap_succ, wrap_pred, len22, bgtr3, bleq3, blss3, beql24, beql3, ix22, ldr3, badd3, bneq3, bneq24, bmul3, str3, bsub3, bshl3, bquo3, bd36x0x1x2, len34, ix34, fa36f2, ldr22, fa36f0, fa46f0, bgeq3, fa46f1, beql22s, beql22n, bd46x0x3, fa46f2, str22, fa46f3, fa36f1, cv3x54, bshr54, cv54x3, hg]
        exact ⟨by rw [hL hil], _, _, hT0.leaf hil h0 (by split; exact .inr ⟨by omega, rfl⟩; exact .inl rfl) rfl⟩
      · rw [decide_eq_false hle] at hil
        try simp (disch := first | omega | assumption | exact one_int _ _ | exact one_slice _ _ _ | exact one_ptr _ | exact one_bool _ | exact one_string _) only [optK_some_eq, nil2_ptr, ifV_true, ifV_false, run_if, run_out0, run_out1, run_out2, run_out3, optG_some, one_int, one_bool, one_string, one_slice, one_ptr, min2_eq, max2_eq, pick2_eq, u_not, u_neg, cells_agg, inside_ret, chk_true, get_eq, get_ne, List.getElem?_cons_zero, List.getElem?_cons_succ, List.set_cons_zero, List.set_cons_succ, List.length_cons, List.length_nil, Int.toNat_natCast, Int.toNat_zero, Nat.zero_add, Nat.add_zero, decide_eq_true_eq, decide_eq_false_iff_not, true_and, and_true, if_true, if_false, true_or, or_true, Bool.false_eq_true, Bool.true_eq_false, Nat.reduceAdd, Nat.reduceLT, wrap_id, wrap_succ, wrap_pred, len22, bgtr3, bleq3, blss3, beql24, beql3, ix22, ldr3, badd3, bneq3, bneq24, bmul3, str3, bsub3, bshl3, bquo3, bd36x0x1x2, len34, ix34, fa36f2, ldr22, fa36f0, fa46f0, bgeq3, fa46f1, beql22s, beql22n, bd46x0x3, fa46f2, str22, fa46f3, fa36f1, cv3x54, bshr54, cv54x3, hg, hbw, hbi, hbl, e1, hc0, hwl, hwj, h0', hle]
        exact ⟨by rw [hJ hil, Int.add_sub_cancel], _, _, hT0.joined hil rfl⟩
    · have h0' : ¬ (0 : Int) < (t.leaves.length : Int) := by omega
      have hil : isLeaf t = false := by unfold isLeaf; simp [hj, h0]
      try simp (disch := first | omega | assumption | exact one_int _ _ | exact one_slice _ _ _ | exact one_ptr _ | exact one_bool _ | exact one_string _) only [optK_some_eq, nil2_ptr, ifV_true, ifV_false, run_if, run_out0, run_out1, run_out2, run_out3, optG_some, one_int, one_bool, one_string, one_slice, one_ptr, min2_eq, max2_eq, pick2_eq, u_not, u_neg, cells_agg, inside_ret, chk_true, get_eq, get_ne, List.getElem?_cons_zero, List.getElem?_cons_succ, List.set_cons_zero, List.set_cons_succ, List.length_cons, List.length_nil, Int.toNat_natCast, Int.toNat_zero, Nat.zero_add, Nat.add_zero, decide_eq_true_eq, decide_eq_false_iff_not, true_and, and_true, if_true, if_false, true_or, or_true, Bool.false_eq_true, Bool.true_eq_false, Nat.reduceAdd, Nat.reduceLT, wrap_id, wrap_succ, wrap_pred, len22, bgtr3, bleq3, blss3, beql24, beql3, ix22, ldr3, badd3, bneq3, bneq24, bmul3, str3, bsub3, bshl3, bquo3, bd36x0x1x2, len34, ix34, fa36f2, ldr22, fa36f0, fa46f0, bgeq3, fa46f1, beql22s, beql22n, bd46x0x3, fa46f2, str22, fa46f3, fa36f1, cv3x54, bshr54, cv54x3, hg, hbw, hbi, hbl, e1, hwj, h0']
      exact ⟨by rw [hJ hil, Int.add_sub_cancel], _, _, hT0.joined hil rfl⟩

theorem ints_set (xs : List Int) (i : Nat) (v : Int) : (ints xs).set i (.int .i64 v) = ints (xs.set i v) := by unfold ints; rw [List.map_set]
theorem ints_app (xs : List Int) (v : Int) : ints xs ++ [.int .i64 v] = ints (xs ++ [v]) := by unfold ints; simp
set_option maxHeartbeats 1000000 in
theorem s_join (lf d g n a b : Nat) (h : H) (t : HT) (bw bi bl off cl : Nat) (cs : List Value) (hT : TreesAt h n g t bw bi bl off cl cs) (hw : t.weight.length ≤ 100000) (hi : t.into.length = t.weight.length) (ha : a < t.weight.length) (hb : b < t.weight.length) (hs : ∀ x ∈ t.weight, 0 ≤ x ∧ x ≤ 1152921504606846976) :
    Run (fun x => x = g ∨ x = bw ∨ x = bi) n (evCall2 Try.prog gt lf (d + 1) 30 #[.pointer (some ⟨g, 0, none⟩), .int .i64 (a : Nat), .int .i64 (b : Nat)]) h n fun v h' n' => v = .tuple #[] ∧ n ≤ n' ∧ ∃ bw' bi', TreesAt h' n' g (joinH t a b) bw' bi' bl off cl cs ∧ n ≤ bw' ∧ n ≤ bi' := by
  have hT0 := hT
  obtain ⟨hg, hbw, hbi, hbl, hlen, hcs, hcl, hd⟩ := hT
  rw [sh_lens_trees_join]
  refine Run.inside_ ?_
  unfold b_lens_trees_join
  have hgn := hd.2.2.2.2.2.2.1
  have hwn := hd.2.2.2.2.2.2.2.1
  have hin := hd.2.2.2.2.2.2.2.2.1
  have hwa : (ints t.weight)[a]? = some (.int .i64 (wAt t a)) := ints_at ha
  have hwb : (ints t.weight)[b]? = some (.int .i64 (wAt t b)) := ints_at hb
  have sa : 0 ≤ wAt t a ∧ wAt t a ≤ 1152921504606846976 := hs _ (by unfold wAt; simp [ha])
  have sb : 0 ≤ wAt t b ∧ wAt t b ≤ 1152921504606846976 := hs _ (by unfold wAt; simp [hb])
  try simp (disch := first | omega | assumption | exact one_int _ _ | exact one_slice _ _ _ | exact one_ptr _ | exact one_bool _ | exact one_string _) only [optK_some_eq, nil2_ptr, ifV_true, ifV_false, run_if, run_out0, run_out1, run_out2, run_out3, optG_some, one_int, one_bool, one_string, one_slice, one_ptr, min2_eq, max2_eq, pick2_eq, u_not, u_neg, cells_agg, inside_ret, chk_true, get_eq, get_ne, List.getElem?_cons_zero, List.getElem?_cons_succ, List.set_cons_zero, List.set_cons_succ, List.length_cons, List.length_nil, Int.toNat_natCast, Int.toNat_zero, Nat.zero_add, Nat.add_zero, decide_eq_true_eq, decide_eq_false_iff_not, true_and, and_true, if_true, if_false, true_or, or_true, Bool.false_eq_true, Bool.true_eq_false, Nat.reduceAdd, Nat.reduceLT, wrap_id, wrap_succ, wrap_pred, len22, bgtr3, bleq3, blss3, beql24, beql3, ix22, ldr3, badd3, bneq3, bneq24, bmul3, str3, bsub3, bshl3, bquo3, bd36x0x1x2, len34, ix34, fa36f2, ldr22, fa36f0, fa46f0, bgeq3, fa46f1, beql22s, beql22n, bd46x0x3, fa46f2, str22, fa46f3, fa36f1, cv3x54, bshr54, cv54x3, hg, hbw, hbi, ints_set, ints_len, List.length_set, hwa, hwb]
  refine ⟨by omega, by omega, ?_⟩
  refine run_push c1x22 (one_int _ _) (by rw [get_ne _ _ (by omega), get_ne _ _ (by omega)]; exact hbw) (by omega) (ints_len _) (by omega) (by omega) (.inr (.inr (.inl rfl))) _ ?_
  try simp (disch := first | omega | assumption | exact one_int _ _ | exact one_slice _ _ _ | exact one_ptr _ | exact one_bool _ | exact one_string _) only [optK_some_eq, nil2_ptr, ifV_true, ifV_false, run_if, run_out0, run_out1, run_out2, run_out3, optG_some, one_int, one_bool, one_string, one_slice, one_ptr, min2_eq, max2_eq, pick2_eq, u_not, u_neg, cells_agg, inside_ret, chk_true, get_eq, get_ne, List.getElem?_cons_zero, List.getElem?_cons_succ, List.set_cons_zero, List.set_cons_succ, List.length_cons, List.length_nil, Int.toNat_natCast, Int.toNat_zero, Nat.zero_add, Nat.add_zero, decide_eq_true_eq, decide_eq_false_iff_not, true_and, and_true, if_true, if_false, true_or, or_true, Bool.false_eq_true, Bool.true_eq_false, Nat.reduceAdd, Nat.reduceLT, wrap_id, wrap_succ, wrap_pred, len22, bgtr3, bleq3, blss3, beql24, beql3, ix22, ldr3, badd3, bneq3, bneq24, bmul3, str3, bsub3, bshl3, bquo3, bd36x0x1x2, len34, ix34, fa36f2, ldr22, fa36f0, fa46f0, bgeq3, fa46f1, beql22s, beql22n, bd46x0x3, fa46f2, str22, fa46f3, fa36f1, cv3x54, bshr54, cv54x3, hg, hbw, hbi, ints_set, ints_len, List.length_set, hwa, hwb]
  refine run_push c1x22 (cs := ints ((t.into.set a (t.weight.length : Nat)).set b (t.weight.length : Nat))) (one_int _ _) (by try simp (disch := first | omega | assumption | exact one_int _ _ | exact one_slice _ _ _ | exact one_ptr _ | exact one_bool _ | exact one_string _) only [optK_some_eq, nil2_ptr, ifV_true, ifV_false, run_if, run_out0, run_out1, run_out2, run_out3, optG_some, one_int, one_bool, one_string, one_slice, one_ptr, min2_eq, max2_eq, pick2_eq, u_not, u_neg, cells_agg, inside_ret, chk_true, get_eq, get_ne, List.getElem?_cons_zero, List.getElem?_cons_succ, List.set_cons_zero, List.set_cons_succ, List.length_cons, List.length_nil, Int.toNat_natCast, Int.toNat_zero, Nat.zero_add, Nat.add_zero, decide_eq_true_eq, decide_eq_false_iff_not, true_and, and_true, if_true, if_false, true_or, or_true, Bool.false_eq_true, Bool.true_eq_false, Nat.reduceAdd, Nat.reduceLT, wrap_id, wrap_succ, wrap_pred, len22, bgtr3, bleq3, blss3, beql24, beql3, ix22, ldr3, badd3, bneq3, bneq24, bmul3, str3, bsub3, bshl3, bquo3, bd36x0x1x2, len34, ix34, fa36f2, ldr22, fa36f0, fa46f0, bgeq3, fa46f1, beql22s, beql22n, bd46x0x3, fa46f2, str22, fa46f3, fa36f1, cv3x54, bshr54, cv54x3]) (by omega) (by simp [ints_len]) (by omega) (by omega) (.inr (.inr (.inr rfl))) _ ?_
  try simp (disch := first | omega | assumption | exact one_int _ _ | exact one_slice _ _ _ | exact one_ptr _ | exact one_bool _ | exact one_string _) only [optK_some_eq, nil2_ptr, ifV_true, ifV_false, run_if, run_out0, run_out1, run_out2, run_out3, optG_some, one_int, one_bool, one_string, one_slice, one_ptr, min2_eq, max2_eq, pick2_eq, u_not, u_neg, cells_agg, inside_ret, chk_true, get_eq, get_ne, List.getElem?_cons_zero, List.getElem?_cons_succ, List.set_cons_zero, List.set_cons_succ, List.length_cons, List.length_nil, Int.toNat_natCast, Int.toNat_zero, Nat.zero_add, Nat.add_zero, decide_eq_true_eq, decide_eq_false_iff_not, true_and, and_true, if_true, if_false, true_or, or_true, Bool.false_eq_true, Bool.true_eq_false, Nat.reduceAdd, Nat.reduceLT, wrap_id, wrap_succ, wrap_pred, len22, bgtr3, bleq3, blss3, beql24, beql3, ix22, ldr3, badd3, bneq3, bneq24, bmul3, str3, bsub3, bshl3, bquo3, bd36x0x1x2, len34, ix34, fa36f2, ldr22, fa36f0, fa46f0, bgeq3, fa46f1, beql22s, beql22n, bd46x0x3, fa46f2, str22, fa46f3, fa36f1, cv3x54, bshr54, cv54x3, hg, hbw, hbi]
  refine ⟨by omega, n + 1, n + 2 + 1, ?_, by omega, by omega⟩
  refine ⟨?_, ?_, ?_, ?_, hlen, hcs, hcl, by omega⟩
  · try simp (disch := first | omega | assumption | exact one_int _ _ | exact one_slice _ _ _ | exact one_ptr _ | exact one_bool _ | exact one_string _) only [optK_some_eq, nil2_ptr, ifV_true, ifV_false, run_if, run_out0, run_out1, run_out2, run_out3, optG_some, one_int, one_bool, one_string, one_slice, one_ptr, min2_eq, max2_eq, pick2_eq, u_not, u_neg, cells_agg, inside_ret, chk_true, get_eq, get_ne, List.getElem?_cons_zero, List.getElem?_cons_succ, List.set_cons_zero, List.set_cons_succ, List.length_cons, List.length_nil, Int.toNat_natCast, Int.toNat_zero, Nat.zero_add, Nat.add_zero, decide_eq_true_eq, decide_eq_false_iff_not, true_and, and_true, if_true, if_false, true_or, or_true, Bool.false_eq_true, Bool.true_eq_false, Nat.reduceAdd, Nat.reduceLT, wrap_id, wrap_succ, wrap_pred, len22, bgtr3, bleq3, blss3, beql24, beql3, ix22, ldr3, badd3, bneq3, bneq24, bmul3, str3, bsub3, bshl3, bquo3, bd36x0x1x2, len34, ix34, fa36f2, ldr22, fa36f0, fa46f0, bgeq3, fa46f1, beql22s, beql22n, bd46x0x3, fa46f2, str22, fa46f3, fa36f1, cv3x54, bshr54, cv54x3]
    simp [joinH]
  · try simp (disch := first | omega | assumption | exact one_int _ _ | exact one_slice _ _ _ | exact one_ptr _ | exact one_bool _ | exact one_string _) only [optK_some_eq, nil2_ptr, ifV_true, ifV_false, run_if, run_out0, run_out1, run_out2, run_out3, optG_some, one_int, one_bool, one_string, one_slice, one_ptr, min2_eq, max2_eq, pick2_eq, u_not, u_neg, cells_agg, inside_ret, chk_true, get_eq, get_ne, List.getElem?_cons_zero, List.getElem?_cons_succ, List.set_cons_zero, List.set_cons_succ, List.length_cons, List.length_nil, Int.toNat_natCast, Int.toNat_zero, Nat.zero_add, Nat.add_zero, decide_eq_true_eq, decide_eq_false_iff_not, true_and, and_true, if_true, if_false, true_or, or_true, Bool.false_eq_true, Bool.true_eq_false, Nat.reduceAdd, Nat.reduceLT, wrap_id, wrap_succ, wrap_pred, len22, bgtr3, bleq3, blss3, beql24, beql3, ix22, ldr3, badd3, bneq3, bneq24, bmul3, str3, bsub3, bshl3, bquo3, bd36x0x1x2, len34, ix34, fa36f2, ldr22, fa36f0, fa46f0, bgeq3, fa46f1, beql22s, beql22n, bd46x0x3, fa46f2, str22, fa46f3, fa36f1, cv3x54, bshr54, cv54x3]
    rw [ints_app]; rfl
  · try simp (disch := first | omega | assumption | exact one_int _ _ | exact one_slice _ _ _ | exact one_ptr _ | exact one_bool _ | exact one_string _) only [optK_some_eq, nil2_ptr, ifV_true, ifV_false, run_if, run_out0, run_out1, run_out2, run_out3, optG_some, one_int, one_bool, one_string, one_slice, one_ptr, min2_eq, max2_eq, pick2_eq, u_not, u_neg, cells_agg, inside_ret, chk_true, get_eq, get_ne, List.getElem?_cons_zero, List.getElem?_cons_succ, List.set_cons_zero, List.set_cons_succ, List.length_cons, List.length_nil, Int.toNat_natCast, Int.toNat_zero, Nat.zero_add, Nat.add_zero, decide_eq_true_eq, decide_eq_false_iff_not, true_and, and_true, if_true, if_false, true_or, or_true, Bool.false_eq_true, Bool.true_eq_false, Nat.reduceAdd, Nat.reduceLT, wrap_id, wrap_succ, wrap_pred, len22, bgtr3, bleq3, blss3, beql24, beql3, ix22, ldr3, badd3, bneq3, bneq24, bmul3, str3, bsub3, bshl3, bquo3, bd36x0x1x2, len34, ix34, fa36f2, ldr22, fa36f0, fa46f0, bgeq3, fa46f1, beql22s, beql22n, bd46x0x3, fa46f2, str22, fa46f3, fa36f1, cv3x54, bshr54, cv54x3]
    rw [ints_app]; rfl
  · try simp (disch := first | omega | assumption | exact one_int _ _ | exact one_slice _ _ _ | exact one_ptr _ | exact one_bool _ | exact one_string _) only [optK_some_eq, nil2_ptr, ifV_true, ifV_false, run_if, run_out0, run_out1, run_out2, run_out3, optG_some, one_int, one_bool, one_string, one_slice, one_ptr, min2_eq, max2_eq, pick2_eq, u_not, u_neg, cells_agg, inside_ret, chk_true, get_eq, get_ne, List.getElem?_cons_zero, List.getElem?_cons_succ, List.set_cons_zero, List.set_cons_succ, List.length_cons, List.length_nil, Int.toNat_natCast, Int.toNat_zero, Nat.zero_add, Nat.add_zero, decide_eq_true_eq, decide_eq_false_iff_not, true_and, and_true, if_true, if_false, true_or, or_true, Bool.false_eq_true, Bool.true_eq_false, Nat.reduceAdd, Nat.reduceLT, wrap_id, wrap_succ, wrap_pred, len22, bgtr3, bleq3, blss3, beql24, beql3, ix22, ldr3, badd3, bneq3, bneq24, bmul3, str3, bsub3, bshl3, bquo3, bd36x0x1x2, len34, ix34, fa36f2, ldr22, fa36f0, fa46f0, bgeq3, fa46f1, beql22s, beql22n, bd46x0x3, fa46f2, str22, fa46f3, fa36f1, cv3x54, bshr54, cv54x3, hbl]

end Go.Proofs.Ytapdcejhfooahaa

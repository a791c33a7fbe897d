/- One round of the reference's depths: two trees are joined. -/
import Derived.Test.YtapdcejhfooahaaLo
namespace Go.Proofs.Ytapdcejhfooahaa
set_option linter.unusedVariables false
set_option linter.unusedSimpArgs false
open Go.RowKit Ev Hu

set_option maxHeartbeats 1000000 in
theorem join2 (lf d fu : Nat) (hlf : 3000000 ≤ lf) {W : Nat → Prop} {n0 : Nat} {Q : Value → H → Nat → Prop} (h : H) (n lo n1 n4 bo N c : Nat) (next : Nat) (hnx : next ≤ 1000000) (v57 : Value) (l2 : List RT) (wa wb : Int) (ma mb la lb : Value) (lsa lsb : List Nat) (out : List Int) (x0 x2 x3 x9 x11 x18 x19 x20 x21 x39 : Value) (k : Ex → Fr → M Value)
    (G1 : h.get n1 = some ⟨36, true, [.int .i64 wa, ma, la]⟩) (G2 : h.get n4 = some ⟨36, true, [.int .i64 wb, mb, lb]⟩) (l1 : n1 < n) (l4 : n4 < n) (Ra : Row h n 3 .i64 la (natsI lsa)) (Rb : Row h n 3 .i64 lb (natsI lsb))
    (go : h.get bo = some ⟨3, true, ints out⟩) (hbo : bo < n) (nbo : n0 ≤ bo) (b1 : n1 ≠ bo) (b4 : n4 ≠ bo) (o6 : Own3 h lo n 36 v57 (l2.map tv)) (hlo : n0 ≤ lo) (hln : lo ≤ n) (s6 : ¬ InBlk v57 bo) (hl2 : l2.length ≤ 1000) (hla : lsa.length ≤ 1000) (hlb : lsb.length ≤ 1000)
    (hnd : (lsa ++ lsb).Nodup) (hil : ∀ i ∈ lsa ++ lsb, i < N) (hol : out.length = N) (hob : ∀ i, 0 ≤ out.getD i 0 ∧ out.getD i 0 ≤ 1000000) (hw0 : 0 ≤ wa + wb) (hw1 : wa + wb ≤ 1152921504606846976)
    (hK : ∀ h' n' v10 lv8, n ≤ n' → Own3 h' lo n' 36 v10 ((l2 ++ [(wa + wb, next, lv8)]).map tv) → (∀ b, InBlk v10 b → n ≤ b) → Row h' n' 3 .i64 lv8 (natsI (lsa ++ lsb)) → IsSl lv8 → (∀ b, InBlk lv8 b → n ≤ b ∧ ¬ InBlk v10 b) → h'.get bo = some ⟨3, true, ints (incAll out (lsa ++ lsb))⟩ → (∀ b, b < n → b ≠ bo → ¬ InBlk v57 b → h'.get b = h.get b) →
      Run W n0 (lpB_balerref09_Depths lf d fu k x0 x2 x3 v10 (.slice (some ⟨bo, 0, none⟩) N c) (.int .i64 ((next + 1 : Nat) : Int)) x18 x19 x20 x21) h' n' Q) :
    Run W n0 (optK (evFieldAddr Try.prog 36 (.pointer (some ⟨n1, 0, none⟩)) 2) fun v59 => (inside (evLoad Try.prog 22 v59)).bind fun v60 => (inside (evAppend Try.prog 22 (.slice none 0 0) v60)).bind fun v61 =>
      optK (evFieldAddr Try.prog 36 (.pointer (some ⟨n4, 0, none⟩)) 2) fun v63 => (inside (evLoad Try.prog 22 v63)).bind fun v64 => (inside (evAppend Try.prog 22 v61 v64)).bind fun v65 =>
      optK (len2 Try.prog #[22] [v65]) fun v67 => lpC_balerref09_Depths lf d lf (kcC_balerref09_Depths lf d fu k) x0 x2 x3 v57 (.slice (some ⟨bo, 0, none⟩) N c) (.int .i64 (next : Nat)) x9 (.pointer (some ⟨n1, 0, none⟩)) x11 (.pointer (some ⟨n4, 0, none⟩)) v65 x18 x19 x20 x21 x39 v65 v67 (.int .i64 0)) h n Q := by
  try simp (disch := first | omega | assumption | exact one_int _ _ | exact one_slice _ _ _ | exact one_ptr _ | exact one_bool _ | exact one_string _) only [optK_some_eq, nil2_ptr, ifV_true, ifV_false, run_if, run_out0, run_out1, run_out2, run_out3, optG_some, one_int, one_bool, one_string, one_slice, one_ptr, min2_eq, max2_eq, pick2_eq, u_not, u_neg, cells_agg, inside_ret, chk_true, get_eq, get_ne, List.getElem?_cons_zero, List.getElem?_cons_succ, List.set_cons_zero, List.set_cons_succ, List.length_cons, List.length_nil, Int.toNat_natCast, Int.toNat_zero, Nat.zero_add, Nat.add_zero, decide_eq_true_eq, decide_eq_false_iff_not, true_and, and_true, if_true, if_false, true_or, or_true, Bool.false_eq_true, Bool.true_eq_false, Nat.reduceAdd, Nat.reduceLT, wrap_id, wrap_succ, wrap_pred, len22, bgtr3, bleq3, blss3, beql24, beql3, ix22, ldr3, badd3, bneq3, bneq24, bmul3, str3, bsub3, bshl3, bquo3, bd36x0x1x2, len34, ix34, fa36f2, ldr22, fa36f0, fa46f0, bgeq3, fa46f1, beql22s, beql22n, bd46x0x3, fa46f2, str22, fa46f3, fa36f1, cv3x54, bshr54, cv54x3, G1, G2, inv_fld2]
  refine run_appO c1x22 (lo := n) (Own.nil h n n 3) Ra (by rw [natsI_len]; simp; omega) (by omega) (Nat.le_refl _) _ (fun v7 h7 n7 hn7 o7 b7 k7 => ?_)
  have k7' : ∀ c, c < n → h7.get c = h.get c := fun c hc => k7 c hc fun q => q.not_nil
  try simp (disch := first | omega | assumption | exact one_int _ _ | exact one_slice _ _ _ | exact one_ptr _ | exact one_bool _ | exact one_string _) only [optK_some_eq, nil2_ptr, ifV_true, ifV_false, run_if, run_out0, run_out1, run_out2, run_out3, optG_some, one_int, one_bool, one_string, one_slice, one_ptr, min2_eq, max2_eq, pick2_eq, u_not, u_neg, cells_agg, inside_ret, chk_true, get_eq, get_ne, List.getElem?_cons_zero, List.getElem?_cons_succ, List.set_cons_zero, List.set_cons_succ, List.length_cons, List.length_nil, Int.toNat_natCast, Int.toNat_zero, Nat.zero_add, Nat.add_zero, decide_eq_true_eq, decide_eq_false_iff_not, true_and, and_true, if_true, if_false, true_or, or_true, Bool.false_eq_true, Bool.true_eq_false, Nat.reduceAdd, Nat.reduceLT, wrap_id, wrap_succ, wrap_pred, len22, bgtr3, bleq3, blss3, beql24, beql3, ix22, ldr3, badd3, bneq3, bneq24, bmul3, str3, bsub3, bshl3, bquo3, bd36x0x1x2, len34, ix34, fa36f2, ldr22, fa36f0, fa46f0, bgeq3, fa46f1, beql22s, beql22n, bd46x0x3, fa46f2, str22, fa46f3, fa36f1, cv3x54, bshr54, cv54x3, (k7' n4 l4).trans G2, inv_fld2]
  refine run_appO c1x22 (lo := n) o7 (Rb.keep hn7 k7') (by rw [natsI_len, List.length_append, intsV_len, natsI_len]; simp; omega) (by omega) (by omega) _ (fun v8 h8 n8 hn8 o8 b8 k8 => ?_)
  have k8' : ∀ c, c < n → h8.get c = h7.get c := fun c hc => k8 c (by omega) fun q => by
    rcases b7 c q with r | r
    · exact r.not_nil
    · omega
  have e8 : ([] ++ intsV .i64 (natsI lsa)) ++ intsV .i64 (natsI lsb) = intsV .i64 (natsI (lsa ++ lsb)) := by unfold intsV natsI; simp
  rw [e8] at o8
  have R8 : Row h8 n8 3 .i64 v8 (natsI (lsa ++ lsb)) := o8.row
  have v8lt := fun c hc => o8.lt (b := c) hc
  obtain ⟨a8, c8, rfl⟩ := R8.len
  rw [len22, optK_some_eq]
  have K8 : ∀ c, c < n → h8.get c = h.get c := fun c hc => by rw [k8' c hc, k7' c hc]
  obtain ⟨ls, hls⟩ : ∃ ls, lsa ++ lsb = ls := ⟨_, rfl⟩
  have hll : ls.length ≤ 2000 := by rw [← hls, List.length_append]; omega
  rw [hls] at hnd hil o8 R8 v8lt ⊢
  simp only [hls] at hK
  clear o7 b7 k7 b8 k8 e8
  have e0 : (.int .i64 0 : Value) = .int .i64 ((0 : Nat) : Int) := rfl
  rw [e0]
  have hR0 := R8
  have e67 : (Value.int .i64 ((natsI ls).length : Nat)) = .int .i64 (ls.length : Nat) := by rw [natsI_len]
  rw [e67]
  refine rdC lf d n8 h8 _ ls hR0 (by omega) bo N c out (by omega) (fun q hq => by have := (v8lt q hq).1; omega) hol hnd hil hob _ _ _ _ _ _ _ _ _ _ _ _ _ _ _ nbo _ (fun h9 y69 go9 k9 => ?_) ls.length 0 lf h8 (by omega) (by omega) (by omega) (by rw [List.take_zero]; exact (K8 bo hbo).trans go) (fun _ _ => rfl)
  rw [kcCa_balerref09_Depths]
  have G1' : h9.get n1 = some ⟨36, true, [.int .i64 wa, ma, la]⟩ := by rw [k9 n1 b1, K8 n1 l1]; exact G1
  have G2' : h9.get n4 = some ⟨36, true, [.int .i64 wb, mb, lb]⟩ := by rw [k9 n4 b4, K8 n4 l4]; exact G2
  have wr1 : IntKind.i64.wrap (wa + wb) = wa + wb := wrap_id (by omega) (by omega)
  have wr2 : ((next : Nat) : Int) + 1 = ((next + 1 : Nat) : Int) := by omega
  try simp (disch := first | omega | assumption | exact one_int _ _ | exact one_slice _ _ _ | exact one_ptr _ | exact one_bool _ | exact one_string _) only [optK_some_eq, nil2_ptr, ifV_true, ifV_false, run_if, run_out0, run_out1, run_out2, run_out3, optG_some, one_int, one_bool, one_string, one_slice, one_ptr, min2_eq, max2_eq, pick2_eq, u_not, u_neg, cells_agg, inside_ret, chk_true, get_eq, get_ne, List.getElem?_cons_zero, List.getElem?_cons_succ, List.set_cons_zero, List.set_cons_succ, List.length_cons, List.length_nil, Int.toNat_natCast, Int.toNat_zero, Nat.zero_add, Nat.add_zero, decide_eq_true_eq, decide_eq_false_iff_not, true_and, and_true, if_true, if_false, true_or, or_true, Bool.false_eq_true, Bool.true_eq_false, Nat.reduceAdd, Nat.reduceLT, wrap_id, wrap_succ, wrap_pred, len22, bgtr3, bleq3, blss3, beql24, beql3, ix22, ldr3, badd3, bneq3, bneq24, bmul3, str3, bsub3, bshl3, bquo3, bd36x0x1x2, len34, ix34, fa36f2, ldr22, fa36f0, fa46f0, bgeq3, fa46f1, beql22s, beql22n, bd46x0x3, fa46f2, str22, fa46f3, fa36f1, cv3x54, bshr54, cv54x3, G1', G2', inv_fld0, wr1]
  have o6' : Own3 h9 lo n8 36 v57 (l2.map tv) := o6.keep (by omega) fun c hc => by
    have := o6.lt hc
    rw [k9 c (fun e => s6 (e ▸ hc)), K8 c this.2]
  refine run_push3 c3t (x := tv (wa + wb, next, .slice a8 (natsI ls).length c8)) ⟨rfl, rfl, rfl⟩ o6' (by rw [List.length_map]; omega) hlo (by omega) _ (fun v10 h10 o10 b10 k10 => ?_)
  try simp (disch := first | omega | assumption | exact one_int _ _ | exact one_slice _ _ _ | exact one_ptr _ | exact one_bool _ | exact one_string _) only [optK_some_eq, nil2_ptr, ifV_true, ifV_false, run_if, run_out0, run_out1, run_out2, run_out3, optG_some, one_int, one_bool, one_string, one_slice, one_ptr, min2_eq, max2_eq, pick2_eq, u_not, u_neg, cells_agg, inside_ret, chk_true, get_eq, get_ne, List.getElem?_cons_zero, List.getElem?_cons_succ, List.set_cons_zero, List.set_cons_succ, List.length_cons, List.length_nil, Int.toNat_natCast, Int.toNat_zero, Nat.zero_add, Nat.add_zero, decide_eq_true_eq, decide_eq_false_iff_not, true_and, and_true, if_true, if_false, true_or, or_true, Bool.false_eq_true, Bool.true_eq_false, Nat.reduceAdd, Nat.reduceLT, wrap_id, wrap_succ, wrap_pred, len22, bgtr3, bleq3, blss3, beql24, beql3, ix22, ldr3, badd3, bneq3, bneq24, bmul3, str3, bsub3, bshl3, bquo3, bd36x0x1x2, len34, ix34, fa36f2, ldr22, fa36f0, fa46f0, bgeq3, fa46f1, beql22s, beql22n, bd46x0x3, fa46f2, str22, fa46f3, fa36f1, cv3x54, bshr54, cv54x3]
  rw [wr2]
  refine hK h10 (n8 + 2) v10 (.slice a8 (natsI ls).length c8) (by omega) (by rw [List.map_append]; exact o10) (fun b hb => by have := b10 b hb; omega) (R8.keep' (by omega) fun q hq => ?_) ⟨_, _, _, rfl⟩ (fun q hq => ⟨(v8lt q hq).1, fun r => by have := b10 q r; have := v8lt q hq; omega⟩) ?_ (fun q hq hne hns => ?_)
  · have := v8lt q hq
    rw [k10 q (by omega) (fun r => by have := (o6.lt r).2; omega), k9 q (by omega)]
  · rw [k10 bo (by omega) s6]
    exact go9
  · rw [k10 q (by omega) hns, k9 q hne, K8 q hq]

end Go.Proofs.Ytapdcejhfooahaa

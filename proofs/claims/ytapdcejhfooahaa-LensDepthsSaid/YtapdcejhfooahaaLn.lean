/- The reference's depths, by the second form: they are the program's. -/
import Derived.Test.YtapdcejhfooahaaLm
namespace Go.Proofs.Ytapdcejhfooahaa
set_option linter.unusedVariables false
set_option linter.unusedSimpArgs false
open Go.RowKit Ev Hu

def natsI (ls : List Nat) : List Int := ls.map fun (i : Nat) => (i : Int)
theorem natsI_len (ls : List Nat) : (natsI ls).length = ls.length := by unfold natsI; simp
theorem natsI_at {ls : List Nat} {i : Nat} (h : i < ls.length) : (natsI ls).getD i 0 = (ls.getD i 0 : Nat) := by
  unfold natsI
  rw [List.getD_eq_getElem?_getD, List.getElem?_map, List.getElem?_eq_getElem h, List.getD_eq_getElem?_getD, List.getElem?_eq_getElem h]
  rfl
/-- how the reference's trees lie in memory -/
structure RM (h : H) (lo n : Nat) (v : Value) (l : List RT) (lv : Nat → List Nat) : Prop where
  own : Own3 h lo n 36 v (l.map tv)
  row : ∀ t ∈ l, Row h n 3 .i64 t.2.2 (natsI (lv t.2.1)) ∧ IsSl t.2.2
  sep : ∀ t ∈ l, ∀ b, InBlk t.2.2 b → ¬ InBlk v b

theorem rdA (lf d nb : Nat) (h0 : H) (v : Value) (ws : List Int) (hR : Row h0 nb 3 .i64 v ws) (hl : ws.length ≤ 1000000) (x2 x3 : Value) {W : Nat → Prop} {n0 : Nat} (hn0 : n0 ≤ nb) {Q : Value → H → Nat → Prop} (k : Ex → Fr → M Value)
    (hK : ∀ h n v4 y21 l, nb ≤ n → RM h nb n v4 l (fun i => [i]) → l.map (·.2.1) = List.range ws.length → (∀ t ∈ l, t.1 = ws.getD t.2.1 0) → Run W n0 (k (Ex.exit 0) [(0, v), (2, x2), (3, x3), (4, v4), (18, v), (19, .int .i64 (ws.length : Nat)), (20, .int .i64 (ws.length : Nat)), (21, y21)]) h n Q) :
    ∀ (m i fu : Nat) (h : H) (n : Nat) (v4 : Value) (l : List RT), ws.length - i = m → m < fu → i ≤ ws.length → nb ≤ n → (∀ b, b < nb → h.get b = h0.get b) → RM h nb n v4 l (fun i => [i]) → l.map (·.2.1) = List.range i → (∀ t ∈ l, t.1 = ws.getD t.2.1 0) →
      Run W n0 (lpA_balerref09_Depths lf d fu k v x2 x3 v4 v (.int .i64 (ws.length : Nat)) (.int .i64 (i : Nat))) h n Q := by
  intro m
  induction m with
  | zero =>
    intro i fu h n v4 l hm hfu hi hn hk hM hnum hw
    obtain ⟨fu, rfl⟩ : ∃ f, fu = f + 1 := ⟨fu - 1, by omega⟩
    obtain rfl : i = ws.length := by omega
    rw [succA_balerref09_Depths]
    try simp (disch := first | omega | assumption | exact one_int _ _ | exact one_slice _ _ _ | exact one_ptr _ | exact one_bool _ | exact one_string _) only [optK_some_eq, nil2_ptr, ifV_true, ifV_false, run_if, run_out0, run_out1, run_out2, run_out3, optG_some, one_int, one_bool, one_string, one_slice, one_ptr, min2_eq, max2_eq, pick2_eq, u_not, u_neg, cells_agg, inside_ret, chk_true, get_eq, get_ne, List.getElem?_cons_zero, List.getElem?_cons_succ, List.set_cons_zero, List.set_cons_succ, List.length_cons, List.length_nil, Int.toNat_natCast, Int.toNat_zero, Nat.zero_add, Nat.add_zero, decide_eq_true_eq, decide_eq_false_iff_not, true_and, and_true, if_true, if_false, true_or, or_true, Bool.false_eq_true, Bool.true_eq_false, Nat.reduceAdd, Nat.reduceLT, wrap_id, wrap_succ, wrap_pred, len22, bgtr3, bleq3, blss3, beql24, beql3, ix22, ldr3, badd3, bneq3, bneq24, bmul3, str3, bsub3, bshl3, bquo3, bd36x0x1x2, len34, ix34, fa36f2, ldr22, fa36f0, fa46f0, bgeq3, fa46f1, beql22s, beql22n, bd46x0x3, fa46f2, str22, fa46f3, fa36f1, cv3x54, bshr54, cv54x3, Int.lt_irrefl]
    exact hK h n v4 _ l hn hM hnum hw
  | succ m ih =>
    intro i fu h n v4 l hm hfu hi hn hk hM hnum hw
    obtain ⟨fu, rfl⟩ : ∃ f, fu = f + 1 := ⟨fu - 1, by omega⟩
    have hR1 : Row h n 3 .i64 v ws := hR.keep hn hk
    obtain ⟨b, off, cap, o, cs, rfl, hg, hb, _, _, _, hat⟩ := hR1.some (by omega)
    have e1 : ((i : Nat) : Int) < ((ws.length : Nat) : Int) := by omega
    have c1 := hat i (by omega)
    have w1 : ((i : Nat) : Int) + 1 = ((i + 1 : Nat) : Int) := by omega
    have hll : l.length = i := by have := congrArg List.length hnum; simpa using this
    rw [succA_balerref09_Depths]
    try simp (disch := first | omega | assumption | exact one_int _ _ | exact one_slice _ _ _ | exact one_ptr _ | exact one_bool _ | exact one_string _) only [optK_some_eq, nil2_ptr, ifV_true, ifV_false, run_if, run_out0, run_out1, run_out2, run_out3, optG_some, one_int, one_bool, one_string, one_slice, one_ptr, min2_eq, max2_eq, pick2_eq, u_not, u_neg, cells_agg, inside_ret, chk_true, get_eq, get_ne, List.getElem?_cons_zero, List.getElem?_cons_succ, List.set_cons_zero, List.set_cons_succ, List.length_cons, List.length_nil, Int.toNat_natCast, Int.toNat_zero, Nat.zero_add, Nat.add_zero, decide_eq_true_eq, decide_eq_false_iff_not, true_and, and_true, if_true, if_false, true_or, or_true, Bool.false_eq_true, Bool.true_eq_false, Nat.reduceAdd, Nat.reduceLT, wrap_id, wrap_succ, wrap_pred, len22, bgtr3, bleq3, blss3, beql24, beql3, ix22, ldr3, badd3, bneq3, bneq24, bmul3, str3, bsub3, bshl3, bquo3, bd36x0x1x2, len34, ix34, fa36f2, ldr22, fa36f0, fa46f0, bgeq3, fa46f1, beql22s, beql22n, bd46x0x3, fa46f2, str22, fa46f3, fa36f1, cv3x54, bshr54, cv54x3, e1, hg, c1]
    refine run_lit1 c1x22 (one_int _ _) _ ?_
    try simp (disch := first | omega | assumption | exact one_int _ _ | exact one_slice _ _ _ | exact one_ptr _ | exact one_bool _ | exact one_string _) only [optK_some_eq, nil2_ptr, ifV_true, ifV_false, run_if, run_out0, run_out1, run_out2, run_out3, optG_some, one_int, one_bool, one_string, one_slice, one_ptr, min2_eq, max2_eq, pick2_eq, u_not, u_neg, cells_agg, inside_ret, chk_true, get_eq, get_ne, List.getElem?_cons_zero, List.getElem?_cons_succ, List.set_cons_zero, List.set_cons_succ, List.length_cons, List.length_nil, Int.toNat_natCast, Int.toNat_zero, Nat.zero_add, Nat.add_zero, decide_eq_true_eq, decide_eq_false_iff_not, true_and, and_true, if_true, if_false, true_or, or_true, Bool.false_eq_true, Bool.true_eq_false, Nat.reduceAdd, Nat.reduceLT, wrap_id, wrap_succ, wrap_pred, len22, bgtr3, bleq3, blss3, beql24, beql3, ix22, ldr3, badd3, bneq3, bneq24, bmul3, str3, bsub3, bshl3, bquo3, bd36x0x1x2, len34, ix34, fa36f2, ldr22, fa36f0, fa46f0, bgeq3, fa46f1, beql22s, beql22n, bd46x0x3, fa46f2, str22, fa46f3, fa36f1, cv3x54, bshr54, cv54x3]
    obtain ⟨h1, hh1⟩ : ∃ h1, h.set n (some ⟨3, true, [.int .i64 (i : Nat)]⟩) = h1 := ⟨_, rfl⟩
    have g1 : h1.get n = some ⟨3, true, [.int .i64 (i : Nat)]⟩ := by rw [← hh1, get_eq]
    have k1 : ∀ c, c < n → h1.get c = h.get c := fun c hc => by rw [← hh1, get_ne _ _ (by omega)]
    rw [hh1]
    have t1 : RT := (ws.getD i 0, i, .slice (some ⟨n, 0, none⟩) 1 1)
    have own1 : Own3 h1 nb (n + 1) 36 v4 (l.map tv) := hM.own.keep (by omega) fun c hc => k1 c (hM.own.lt hc).2
    refine run_push3 c3t (x := tv (ws.getD i 0, i, .slice (some ⟨n, 0, none⟩) 1 1)) ⟨rfl, rfl, rfl⟩ own1 (by rw [List.length_map]; omega) hn0 (by omega) _ (fun v5 h5 o5 b5 k5 => ?_)
    try simp (disch := first | omega | assumption | exact one_int _ _ | exact one_slice _ _ _ | exact one_ptr _ | exact one_bool _ | exact one_string _) only [optK_some_eq, nil2_ptr, ifV_true, ifV_false, run_if, run_out0, run_out1, run_out2, run_out3, optG_some, one_int, one_bool, one_string, one_slice, one_ptr, min2_eq, max2_eq, pick2_eq, u_not, u_neg, cells_agg, inside_ret, chk_true, get_eq, get_ne, List.getElem?_cons_zero, List.getElem?_cons_succ, List.set_cons_zero, List.set_cons_succ, List.length_cons, List.length_nil, Int.toNat_natCast, Int.toNat_zero, Nat.zero_add, Nat.add_zero, decide_eq_true_eq, decide_eq_false_iff_not, true_and, and_true, if_true, if_false, true_or, or_true, Bool.false_eq_true, Bool.true_eq_false, Nat.reduceAdd, Nat.reduceLT, wrap_id, wrap_succ, wrap_pred, len22, bgtr3, bleq3, blss3, beql24, beql3, ix22, ldr3, badd3, bneq3, bneq24, bmul3, str3, bsub3, bshl3, bquo3, bd36x0x1x2, len34, ix34, fa36f2, ldr22, fa36f0, fa46f0, bgeq3, fa46f1, beql22s, beql22n, bd46x0x3, fa46f2, str22, fa46f3, fa36f1, cv3x54, bshr54, cv54x3]
    rw [w1]
    refine ih (i + 1) fu h5 (n + 1 + 2) v5 (l ++ [(ws.getD i 0, i, .slice (some ⟨n, 0, none⟩) 1 1)]) (by omega) (by omega) (by omega) (by omega) (fun c hc => ?_) ⟨?_, fun t ht => ?_, fun t ht c hc q => ?_⟩ ?_ (fun t ht => ?_)
    · rw [k5 c (by omega) (fun q => by have := (own1.lt q).1; omega), k1 c (by omega)]
      exact hk c hc
    · rw [List.map_append]
      exact o5
    · rcases List.mem_append.1 ht with q | q
      · obtain ⟨r, s⟩ := hM.row t q
        refine ⟨r.keep' (by omega) fun c hc => ?_, s⟩
        have := r.lt hc
        rw [k5 c (by omega) (hM.sep t q c hc), k1 c this]
      · obtain rfl := List.mem_singleton.1 q
        refine ⟨.inr ⟨n, 0, 1, true, [.int .i64 (i : Nat)], rfl, ?_, by omega, by simp [natsI], rfl, by simp [natsI]⟩, ⟨_, _, _, rfl⟩⟩
        rw [k5 n (by omega) (fun q => by have := own1.lt q; have := hM.own.lt (b := n) q; omega)]
        exact g1
    · have hc2 := b5 c q
      rcases List.mem_append.1 ht with r | r
      · have := (hM.row t r).1.lt hc
        omega
      · obtain rfl := List.mem_singleton.1 r
        have := hc.inj
        omega
    · rw [List.map_append, hnum, List.range_succ]
      rfl
    · rcases List.mem_append.1 ht with q | q
      · exact hw t q
      · obtain rfl := List.mem_singleton.1 q
        rfl

theorem rdC (lf d n : Nat) (h0 : H) (v : Value) (ls : List Nat) (hR : Row h0 n 3 .i64 v (natsI ls)) (hll : ls.length ≤ 1000000) (bo N c : Nat) (out : List Int) (hbo : bo < n) (hsep : ∀ b, InBlk v b → b ≠ bo) (ho : out.length = N) (hnd : ls.Nodup) (hil : ∀ i ∈ ls, i < N) (hpos : ∀ i, 0 ≤ out.getD i 0 ∧ out.getD i 0 ≤ 1000000) (x0 x2 x3 x4 x8 x9 x10 x11 x12 x13 x18 x19 x20 x21 x39 : Value) {W : Nat → Prop} {n0 : Nat} (hn0 : n0 ≤ bo) {Q : Value → H → Nat → Prop} (k : Ex → Fr → M Value)
    (hK : ∀ h y69, h.get bo = some ⟨3, true, ints (incAll out ls)⟩ → (∀ b, b ≠ bo → h.get b = h0.get b) → Run W n0 (k (Ex.exit 4) [(0, x0), (2, x2), (3, x3), (4, x4), (7, .slice (some ⟨bo, 0, none⟩) N c), (8, x8), (9, x9), (10, x10), (11, x11), (12, x12), (13, x13), (18, x18), (19, x19), (20, x20), (21, x21), (39, x39), (66, v), (67, .int .i64 (ls.length : Nat)), (68, .int .i64 (ls.length : Nat)), (69, y69)]) h n Q) :
    ∀ (m i fu : Nat) (h : H), ls.length - i = m → m < fu → i ≤ ls.length → h.get bo = some ⟨3, true, ints (incAll out (ls.take i))⟩ → (∀ b, b ≠ bo → h.get b = h0.get b) →
      Run W n0 (lpC_balerref09_Depths lf d fu k x0 x2 x3 x4 (.slice (some ⟨bo, 0, none⟩) N c) x8 x9 x10 x11 x12 x13 x18 x19 x20 x21 x39 v (.int .i64 (ls.length : Nat)) (.int .i64 (i : Nat))) h n Q := by
  intro m
  induction m with
  | zero =>
    intro i fu h hm hfu hi hg1 hk
    obtain ⟨fu, rfl⟩ : ∃ f, fu = f + 1 := ⟨fu - 1, by omega⟩
    obtain rfl : i = ls.length := by omega
    rw [succC_balerref09_Depths]
    try simp (disch := first | omega | assumption | exact one_int _ _ | exact one_slice _ _ _ | exact one_ptr _ | exact one_bool _ | exact one_string _) only [optK_some_eq, nil2_ptr, ifV_true, ifV_false, run_if, run_out0, run_out1, run_out2, run_out3, optG_some, one_int, one_bool, one_string, one_slice, one_ptr, min2_eq, max2_eq, pick2_eq, u_not, u_neg, cells_agg, inside_ret, chk_true, get_eq, get_ne, List.getElem?_cons_zero, List.getElem?_cons_succ, List.set_cons_zero, List.set_cons_succ, List.length_cons, List.length_nil, Int.toNat_natCast, Int.toNat_zero, Nat.zero_add, Nat.add_zero, decide_eq_true_eq, decide_eq_false_iff_not, true_and, and_true, if_true, if_false, true_or, or_true, Bool.false_eq_true, Bool.true_eq_false, Nat.reduceAdd, Nat.reduceLT, wrap_id, wrap_succ, wrap_pred, len22, bgtr3, bleq3, blss3, beql24, beql3, ix22, ldr3, badd3, bneq3, bneq24, bmul3, str3, bsub3, bshl3, bquo3, bd36x0x1x2, len34, ix34, fa36f2, ldr22, fa36f0, fa46f0, bgeq3, fa46f1, beql22s, beql22n, bd46x0x3, fa46f2, str22, fa46f3, fa36f1, cv3x54, bshr54, cv54x3, Int.lt_irrefl]
    rw [List.take_length] at hg1
    exact hK h _ hg1 hk
  | succ m ih =>
    intro i fu h hm hfu hi hg1 hk
    obtain ⟨fu, rfl⟩ : ∃ f, fu = f + 1 := ⟨fu - 1, by omega⟩
    have hR1 : Row h n 3 .i64 v (natsI ls) := hR.keep' (Nat.le_refl _) fun b hb => hk b (hsep b hb)
    have hil2 : i < ls.length := by omega
    obtain ⟨b, off, cap, o, cs, rfl, hg, hb, _, _, _, hat⟩ := hR1.some (by rw [natsI_len]; omega)
    rw [natsI_len] at hat ⊢
    simp only [natsI_len] at ih
    have hbb : b ≠ bo := hsep b ⟨_, _, _, rfl⟩
    have e1 : ((i : Nat) : Int) < ((ls.length : Nat) : Int) := by omega
    have c1 := hat i hil2
    rw [natsI_at hil2] at c1
    obtain ⟨j, hj⟩ : ∃ j, ls.getD i 0 = j := ⟨_, rfl⟩
    have hj2 : ls[i] = j := by rw [← hj, List.getD_eq_getElem?_getD, List.getElem?_eq_getElem hil2]; rfl
    have hjm : j ∈ ls := by rw [← hj2]; exact List.getElem_mem _
    have hjN := hil j hjm
    rw [hj] at c1
    have w1 : ((i : Nat) : Int) + 1 = ((i + 1 : Nat) : Int) := by omega
    have e2 : ((j : Nat) : Int) < ((N : Nat) : Int) := by omega
    obtain ⟨o2, ho2⟩ : ∃ o2, incAll out (ls.take i) = o2 := ⟨_, rfl⟩
    have lo2 : o2.length = N := by rw [← ho2, inc_len, ho]
    have hv2 : 0 ≤ o2.getD j 0 ∧ o2.getD j 0 ≤ 1000001 := by
      have := inc_at (ls.take i) out (hnd.sublist (List.take_sublist _ _)) (fun x hx => by rw [ho]; exact hil x (List.mem_of_mem_take hx)) j
      rw [ho2] at this
      have := hpos j
      split at * <;> omega
    rw [ho2] at hg1
    have g2 : (ints o2)[j]? = some (.int .i64 (o2.getD j 0)) := ints_at (by omega)
    have hstep : o2.set j (o2.getD j 0 + 1) = incAll out (ls.take (i + 1)) := by
      rw [List.take_succ_eq_append_getElem hil2, inc_app, ho2, hj2]
      rfl
    have w2 : IntKind.i64.wrap (o2.getD j 0 + 1) = o2.getD j 0 + 1 := wrap_id (by omega) (by omega)
    rw [succC_balerref09_Depths]
    try simp (disch := first | omega | assumption | exact one_int _ _ | exact one_slice _ _ _ | exact one_ptr _ | exact one_bool _ | exact one_string _) only [optK_some_eq, nil2_ptr, ifV_true, ifV_false, run_if, run_out0, run_out1, run_out2, run_out3, optG_some, one_int, one_bool, one_string, one_slice, one_ptr, min2_eq, max2_eq, pick2_eq, u_not, u_neg, cells_agg, inside_ret, chk_true, get_eq, get_ne, List.getElem?_cons_zero, List.getElem?_cons_succ, List.set_cons_zero, List.set_cons_succ, List.length_cons, List.length_nil, Int.toNat_natCast, Int.toNat_zero, Nat.zero_add, Nat.add_zero, decide_eq_true_eq, decide_eq_false_iff_not, true_and, and_true, if_true, if_false, true_or, or_true, Bool.false_eq_true, Bool.true_eq_false, Nat.reduceAdd, Nat.reduceLT, wrap_id, wrap_succ, wrap_pred, len22, bgtr3, bleq3, blss3, beql24, beql3, ix22, ldr3, badd3, bneq3, bneq24, bmul3, str3, bsub3, bshl3, bquo3, bd36x0x1x2, len34, ix34, fa36f2, ldr22, fa36f0, fa46f0, bgeq3, fa46f1, beql22s, beql22n, bd46x0x3, fa46f2, str22, fa46f3, fa36f1, cv3x54, bshr54, cv54x3, e1, e2, hg, hg1, c1, g2, w2, ints_set, ints_len, lo2]
    refine ⟨by omega, .inl hn0, ?_⟩
    rw [w1]
    refine ih (i + 1) fu _ (by omega) (by omega) (by omega) ?_ (fun c hc => by rw [get_ne _ _ hc]; exact hk c hc)
    rw [get_eq, hstep]

end Go.Proofs.Ytapdcejhfooahaa

/- The reference's trees: which is less, the least one, all but one; by the second form. -/
import Derived.Test.YtapdcejhfooahaaLj
import Derived.Test.YtapdcejhfooahaaEvV
namespace Go.Proofs.Ytapdcejhfooahaa
set_option linter.unusedVariables false
set_option linter.unusedSimpArgs false
open Go.RowKit Ev Hu

/-- a tree: its weight, its number, its leaves -/
abbrev RT := Int × Nat × Value
def tv (t : RT) : V3 := (.int .i64 t.1, .int .i64 (t.2.1 : Nat), t.2.2)
theorem c3t : Cell3 Try.prog 34 36 (.agg #[.int .i64 0, .int .i64 0, .slice none 0 0]) :=
  ⟨Try.underlying34, ⟨Try.t36, by kernel_rfl, by kernel_rfl, by decide⟩, by kernel_rfl, rfl, by kernel_rfl, fun a b c => by kernel_rfl⟩
def ltT (t u : RT) : Bool := decide (t.1 < u.1) || (t.1 == u.1 && decide (t.2.1 < u.2.1))
theorem ltT_iff {t u : RT} : ltT t u = true ↔ t.1 < u.1 ∨ t.1 = u.1 ∧ t.2.1 < u.2.1 := by unfold ltT; simp
def IsSl (v : Value) : Prop := ∃ a n c, v = .slice a n c
theorem tv_one {t : RT} (h : IsSl t.2.2) : One3 (tv t) := by
  obtain ⟨a, n, c, h⟩ := h
  exact ⟨rfl, rfl, by show one t.2.2 = true; rw [h]; rfl⟩

theorem s_less (lf d n : Nat) (h : H) (t u : RT) : Run (fun _ => False) n (evCall2 Try.prog gt lf (d + 1) 31 #[agg3 (tv t), agg3 (tv u)]) h n fun v' h' n' => v' = .bool (ltT t u) := by
  rw [sh_balerref09_less]
  refine Run.inside_ ?_
  unfold b_balerref09_less
  refine run_box sz36 _ _ ?_
  refine run_box sz36 _ _ ?_
  obtain ⟨h2, hh2⟩ : ∃ h2, (h.set n (some ⟨36, true, (agg3 (tv t)).cells.toList⟩)).set (n + 1) (some ⟨36, true, (agg3 (tv u)).cells.toList⟩) = h2 := ⟨_, rfl⟩
  have g1 : h2.get n = some ⟨36, true, [.int .i64 t.1, .int .i64 (t.2.1 : Nat), t.2.2]⟩ := by rw [← hh2, get_ne _ _ (by omega), get_eq]; rfl
  have g2 : h2.get (n + 1) = some ⟨36, true, [.int .i64 u.1, .int .i64 (u.2.1 : Nat), u.2.2]⟩ := by rw [← hh2, get_eq]; rfl
  rw [hh2]
  have z0 : ∀ a b c : Value, [a, b, c][0]? = some a := fun _ _ _ => rfl
  have z1 : ∀ a b c : Value, [a, b, c][1]? = some b := fun _ _ _ => rfl
  unfold ltT
  by_cases h1 : t.1 < u.1
  · try simp (disch := first | omega | assumption | exact one_int _ _ | exact one_slice _ _ _ | exact one_ptr _ | exact one_bool _ | exact one_string _) only [optK_some_eq, nil2_ptr, ifV_true, ifV_false, run_if, run_out0, run_out1, run_out2, run_out3, optG_some, one_int, one_bool, one_string, one_slice, one_ptr, min2_eq, max2_eq, pick2_eq, u_not, u_neg, cells_agg, inside_ret, chk_true, get_eq, get_ne, List.getElem?_cons_zero, List.getElem?_cons_succ, List.set_cons_zero, List.set_cons_succ, List.length_cons, List.length_nil, Int.toNat_natCast, Int.toNat_zero, Nat.zero_add, Nat.add_zero, decide_eq_true_eq, decide_eq_false_iff_not, true_and, and_true, if_true, if_false, true_or, or_true, Bool.false_eq_true, Bool.true_eq_false, Nat.reduceAdd, Nat.reduceLT, wrap_id, wrap_succ, wrap_pred, len22, bgtr3, bleq3, blss3, beql24, beql3, ix22, ldr3, badd3, bneq3, bneq24, bmul3, str3, bsub3, bshl3, bquo3, bd36x0x1x2, len34, ix34, fa36f2, ldr22, fa36f0, fa46f0, bgeq3, fa46f1, beql22s, beql22n, bd46x0x3, fa46f2, str22, fa46f3, fa36f1, cv3x54, bshr54, cv54x3, g1, g2, z0, z1, h1]
    simp [h1]
  · by_cases h2 : t.1 = u.1
    · have e2 : (t.1 == u.1) = true := by simp [h2]
      try simp (disch := first | omega | assumption | exact one_int _ _ | exact one_slice _ _ _ | exact one_ptr _ | exact one_bool _ | exact one_string _) only [optK_some_eq, nil2_ptr, ifV_true, ifV_false, run_if, run_out0, run_out1, run_out2, run_out3, optG_some, one_int, one_bool, one_string, one_slice, one_ptr, min2_eq, max2_eq, pick2_eq, u_not, u_neg, cells_agg, inside_ret, chk_true, get_eq, get_ne, List.getElem?_cons_zero, List.getElem?_cons_succ, List.set_cons_zero, List.set_cons_succ, List.length_cons, List.length_nil, Int.toNat_natCast, Int.toNat_zero, Nat.zero_add, Nat.add_zero, decide_eq_true_eq, decide_eq_false_iff_not, true_and, and_true, if_true, if_false, true_or, or_true, Bool.false_eq_true, Bool.true_eq_false, Nat.reduceAdd, Nat.reduceLT, wrap_id, wrap_succ, wrap_pred, len22, bgtr3, bleq3, blss3, beql24, beql3, ix22, ldr3, badd3, bneq3, bneq24, bmul3, str3, bsub3, bshl3, bquo3, bd36x0x1x2, len34, ix34, fa36f2, ldr22, fa36f0, fa46f0, bgeq3, fa46f1, beql22s, beql22n, bd46x0x3, fa46f2, str22, fa46f3, fa36f1, cv3x54, bshr54, cv54x3, g1, g2, z0, z1, h1, e2]
      simp [h2]
    · have e2 : (t.1 == u.1) = false := by simp [h2]
      try simp (disch := first | omega | assumption | exact one_int _ _ | exact one_slice _ _ _ | exact one_ptr _ | exact one_bool _ | exact one_string _) only [optK_some_eq, nil2_ptr, ifV_true, ifV_false, run_if, run_out0, run_out1, run_out2, run_out3, optG_some, one_int, one_bool, one_string, one_slice, one_ptr, min2_eq, max2_eq, pick2_eq, u_not, u_neg, cells_agg, inside_ret, chk_true, get_eq, get_ne, List.getElem?_cons_zero, List.getElem?_cons_succ, List.set_cons_zero, List.set_cons_succ, List.length_cons, List.length_nil, Int.toNat_natCast, Int.toNat_zero, Nat.zero_add, Nat.add_zero, decide_eq_true_eq, decide_eq_false_iff_not, true_and, and_true, if_true, if_false, true_or, or_true, Bool.false_eq_true, Bool.true_eq_false, Nat.reduceAdd, Nat.reduceLT, wrap_id, wrap_succ, wrap_pred, len22, bgtr3, bleq3, blss3, beql24, beql3, ix22, ldr3, badd3, bneq3, bneq24, bmul3, str3, bsub3, bshl3, bquo3, bd36x0x1x2, len34, ix34, fa36f2, ldr22, fa36f0, fa46f0, bgeq3, fa46f1, beql22s, beql22n, bd46x0x3, fa46f2, str22, fa46f3, fa36f1, cv3x54, bshr54, cv54x3, g1, g2, z0, z1, h1, e2]
      simp [h1]

/-! the least one -/
def IsMin (l : List RT) (i at_ : Nat) : Prop := ∀ j (hj : j < i) (h : j < l.length) (ha : at_ < l.length), j = at_ ∨ ltT l[at_] l[j] = true
theorem lsA (lf d n0' : Nat) (lo : Nat) (l : List RT) (hl : l.length ≤ 1000000) (hd : ∀ i j (hi : i < l.length) (hj : j < l.length), i ≠ j → l[i].2.1 ≠ l[j].2.1) (hs : ∀ t ∈ l, IsSl t.2.2) (v x2 : Value) {W : Nat → Prop} {n0 : Nat} :
    ∀ (m i fu at_ : Nat) (h : H) (n : Nat), l.length - i = m → m < fu → i ≤ l.length → at_ < l.length → IsMin l i at_ → n0 ≤ n → Own3 h lo n 36 v (l.map tv) →
      Run W n0 (lpA_balerref09_least lf (d + 1) fu (kcA_balerref09_least lf (d + 1)) v x2 (.int .i64 (at_ : Nat)) v (.int .i64 (l.length : Nat)) (.int .i64 (i : Nat))) h n fun v' _ _ => ∃ a : Nat, v' = .int .i64 (a : Nat) ∧ a < l.length ∧ IsMin l l.length a := by
  intro m
  induction m with
  | zero =>
    intro i fu at_ h n hm hfu hi ha hmin hn hO
    obtain ⟨fu, rfl⟩ : ∃ f, fu = f + 1 := ⟨fu - 1, by omega⟩
    obtain rfl : i = l.length := by omega
    rw [succA_balerref09_least]
    try simp (disch := first | omega | assumption | exact one_int _ _ | exact one_slice _ _ _ | exact one_ptr _ | exact one_bool _ | exact one_string _) only [optK_some_eq, nil2_ptr, ifV_true, ifV_false, run_if, run_out0, run_out1, run_out2, run_out3, optG_some, one_int, one_bool, one_string, one_slice, one_ptr, min2_eq, max2_eq, pick2_eq, u_not, u_neg, cells_agg, inside_ret, chk_true, get_eq, get_ne, List.getElem?_cons_zero, List.getElem?_cons_succ, List.set_cons_zero, List.set_cons_succ, List.length_cons, List.length_nil, Int.toNat_natCast, Int.toNat_zero, Nat.zero_add, Nat.add_zero, decide_eq_true_eq, decide_eq_false_iff_not, true_and, and_true, if_true, if_false, true_or, or_true, Bool.false_eq_true, Bool.true_eq_false, Nat.reduceAdd, Nat.reduceLT, wrap_id, wrap_succ, wrap_pred, len22, bgtr3, bleq3, blss3, beql24, beql3, ix22, ldr3, badd3, bneq3, bneq24, bmul3, str3, bsub3, bshl3, bquo3, bd36x0x1x2, len34, ix34, fa36f2, ldr22, fa36f0, fa46f0, bgeq3, fa46f1, beql22s, beql22n, bd46x0x3, fa46f2, str22, fa46f3, fa36f1, cv3x54, bshr54, cv54x3, Int.lt_irrefl]
    rw [kcAa_balerref09_least]
    try simp (disch := first | omega | assumption | exact one_int _ _ | exact one_slice _ _ _ | exact one_ptr _ | exact one_bool _ | exact one_string _) only [optK_some_eq, nil2_ptr, ifV_true, ifV_false, run_if, run_out0, run_out1, run_out2, run_out3, optG_some, one_int, one_bool, one_string, one_slice, one_ptr, min2_eq, max2_eq, pick2_eq, u_not, u_neg, cells_agg, inside_ret, chk_true, get_eq, get_ne, List.getElem?_cons_zero, List.getElem?_cons_succ, List.set_cons_zero, List.set_cons_succ, List.length_cons, List.length_nil, Int.toNat_natCast, Int.toNat_zero, Nat.zero_add, Nat.add_zero, decide_eq_true_eq, decide_eq_false_iff_not, true_and, and_true, if_true, if_false, true_or, or_true, Bool.false_eq_true, Bool.true_eq_false, Nat.reduceAdd, Nat.reduceLT, wrap_id, wrap_succ, wrap_pred, len22, bgtr3, bleq3, blss3, beql24, beql3, ix22, ldr3, badd3, bneq3, bneq24, bmul3, str3, bsub3, bshl3, bquo3, bd36x0x1x2, len34, ix34, fa36f2, ldr22, fa36f0, fa46f0, bgeq3, fa46f1, beql22s, beql22n, bd46x0x3, fa46f2, str22, fa46f3, fa36f1, cv3x54, bshr54, cv54x3]
    exact ⟨at_, rfl, ha, hmin⟩
  | succ m ih =>
    intro i fu at_ h n hm hfu hi ha hmin hn hO
    obtain ⟨fu, rfl⟩ : ∃ f, fu = f + 1 := ⟨fu - 1, by omega⟩
    have hO0 := hO
    rcases hO with ⟨rfl, hnil⟩ | ⟨b, rfl, hg, hb1, hb2⟩
    · have := congrArg List.length hnil
      simp at this
      subst this
      simp at ha
    rw [List.length_map] at hO0 ⊢
    simp only [List.length_map] at ih
    have hil : i < l.length := by omega
    have e1 : ((i : Nat) : Int) < ((l.length : Nat) : Int) := by omega
    have e2 : ((at_ : Nat) : Int) < ((l.length : Nat) : Int) := by omega
    have w1 : ((i : Nat) : Int) + 1 = ((i + 1 : Nat) : Int) := by omega
    have r1 : ((flat3 (l.map tv)).drop (i * 3)).take 3 = [(tv l[i]).1, (tv l[i]).2.1, (tv l[i]).2.2] := by
      have := flat3_at (l.map tv) i (by simpa using hil)
      simpa using this
    have r2 : ((flat3 (l.map tv)).drop (at_ * 3)).take 3 = [(tv l[at_]).1, (tv l[at_]).2.1, (tv l[at_]).2.2] := by
      have := flat3_at (l.map tv) at_ (by simpa using ha)
      simpa using this
    rw [succA_balerref09_least]
    try simp (disch := first | omega | assumption | exact one_int _ _ | exact one_slice _ _ _ | exact one_ptr _ | exact one_bool _ | exact one_string _) only [optK_some_eq, nil2_ptr, ifV_true, ifV_false, run_if, run_out0, run_out1, run_out2, run_out3, optG_some, one_int, one_bool, one_string, one_slice, one_ptr, min2_eq, max2_eq, pick2_eq, u_not, u_neg, cells_agg, inside_ret, chk_true, get_eq, get_ne, List.getElem?_cons_zero, List.getElem?_cons_succ, List.set_cons_zero, List.set_cons_succ, List.length_cons, List.length_nil, Int.toNat_natCast, Int.toNat_zero, Nat.zero_add, Nat.add_zero, decide_eq_true_eq, decide_eq_false_iff_not, true_and, and_true, if_true, if_false, true_or, or_true, Bool.false_eq_true, Bool.true_eq_false, Nat.reduceAdd, Nat.reduceLT, wrap_id, wrap_succ, wrap_pred, len22, bgtr3, bleq3, blss3, beql24, beql3, ix22, ldr3, badd3, bneq3, bneq24, bmul3, str3, bsub3, bshl3, bquo3, bd36x0x1x2, len34, ix34, fa36f2, ldr22, fa36f0, fa46f0, bgeq3, fa46f1, beql22s, beql22n, bd46x0x3, fa46f2, str22, fa46f3, fa36f1, cv3x54, bshr54, cv54x3, e1, e2]
    refine run_ld3 c3t hg hb2 r1 _ ?_
    refine run_var3 c3t (tv l[i]) (tv_one (hs _ (List.getElem_mem hil))) _ (fun h2 g2 k2 => ?_) hn
    refine run_ld3 c3t g2 (Nat.lt_succ_self n) (x := tv l[i]) rfl _ ?_
    try simp (disch := first | omega | assumption | exact one_int _ _ | exact one_slice _ _ _ | exact one_ptr _ | exact one_bool _ | exact one_string _) only [optK_some_eq, nil2_ptr, ifV_true, ifV_false, run_if, run_out0, run_out1, run_out2, run_out3, optG_some, one_int, one_bool, one_string, one_slice, one_ptr, min2_eq, max2_eq, pick2_eq, u_not, u_neg, cells_agg, inside_ret, chk_true, get_eq, get_ne, List.getElem?_cons_zero, List.getElem?_cons_succ, List.set_cons_zero, List.set_cons_succ, List.length_cons, List.length_nil, Int.toNat_natCast, Int.toNat_zero, Nat.zero_add, Nat.add_zero, decide_eq_true_eq, decide_eq_false_iff_not, true_and, and_true, if_true, if_false, true_or, or_true, Bool.false_eq_true, Bool.true_eq_false, Nat.reduceAdd, Nat.reduceLT, wrap_id, wrap_succ, wrap_pred, len22, bgtr3, bleq3, blss3, beql24, beql3, ix22, ldr3, badd3, bneq3, bneq24, bmul3, str3, bsub3, bshl3, bquo3, bd36x0x1x2, len34, ix34, fa36f2, ldr22, fa36f0, fa46f0, bgeq3, fa46f1, beql22s, beql22n, bd46x0x3, fa46f2, str22, fa46f3, fa36f1, cv3x54, bshr54, cv54x3, e1, e2]
    have hgb : h2.get b = some ⟨36, true, flat3 (l.map tv)⟩ := (k2 b hb2).trans hg
    refine run_ld3 c3t hgb (by omega) r2 _ ?_
    refine run_call okd (s_less lf d (n + 1) h2 l[i] l[at_]) (by omega) (fun _ _ h => h.elim) fun v3 h3 n3 hn3 fr3 hq => ?_
    subst hq
    have hO3 : Own3 h3 lo n3 36 (.slice (some ⟨b, 0, none⟩) l.length (CAP + l.length)) (l.map tv) := .inr ⟨b, by rw [List.length_map], (fr3 b (by omega) id).trans hgb, hb1, by omega⟩
    by_cases hlt : ltT l[i] l[at_] = true
    · rw [hlt]
      try simp (disch := first | omega | assumption | exact one_int _ _ | exact one_slice _ _ _ | exact one_ptr _ | exact one_bool _ | exact one_string _) only [optK_some_eq, nil2_ptr, ifV_true, ifV_false, run_if, run_out0, run_out1, run_out2, run_out3, optG_some, one_int, one_bool, one_string, one_slice, one_ptr, min2_eq, max2_eq, pick2_eq, u_not, u_neg, cells_agg, inside_ret, chk_true, get_eq, get_ne, List.getElem?_cons_zero, List.getElem?_cons_succ, List.set_cons_zero, List.set_cons_succ, List.length_cons, List.length_nil, Int.toNat_natCast, Int.toNat_zero, Nat.zero_add, Nat.add_zero, decide_eq_true_eq, decide_eq_false_iff_not, true_and, and_true, if_true, if_false, true_or, or_true, Bool.false_eq_true, Bool.true_eq_false, Nat.reduceAdd, Nat.reduceLT, wrap_id, wrap_succ, wrap_pred, len22, bgtr3, bleq3, blss3, beql24, beql3, ix22, ldr3, badd3, bneq3, bneq24, bmul3, str3, bsub3, bshl3, bquo3, bd36x0x1x2, len34, ix34, fa36f2, ldr22, fa36f0, fa46f0, bgeq3, fa46f1, beql22s, beql22n, bd46x0x3, fa46f2, str22, fa46f3, fa36f1, cv3x54, bshr54, cv54x3]
      rw [w1]
      refine ih (i + 1) fu i h3 n3 (by omega) (by omega) (by omega) hil (fun j hj h1 h2 => ?_) (by omega) hO3
      by_cases e : j = i
      · exact .inl e
      · right
        rcases hmin j (by omega) h1 ha with q | q
        · subst q; exact hlt
        · rw [ltT_iff] at hlt q ⊢; omega
    · rw [Bool.eq_false_iff.2 hlt]
      try simp (disch := first | omega | assumption | exact one_int _ _ | exact one_slice _ _ _ | exact one_ptr _ | exact one_bool _ | exact one_string _) only [optK_some_eq, nil2_ptr, ifV_true, ifV_false, run_if, run_out0, run_out1, run_out2, run_out3, optG_some, one_int, one_bool, one_string, one_slice, one_ptr, min2_eq, max2_eq, pick2_eq, u_not, u_neg, cells_agg, inside_ret, chk_true, get_eq, get_ne, List.getElem?_cons_zero, List.getElem?_cons_succ, List.set_cons_zero, List.set_cons_succ, List.length_cons, List.length_nil, Int.toNat_natCast, Int.toNat_zero, Nat.zero_add, Nat.add_zero, decide_eq_true_eq, decide_eq_false_iff_not, true_and, and_true, if_true, if_false, true_or, or_true, Bool.false_eq_true, Bool.true_eq_false, Nat.reduceAdd, Nat.reduceLT, wrap_id, wrap_succ, wrap_pred, len22, bgtr3, bleq3, blss3, beql24, beql3, ix22, ldr3, badd3, bneq3, bneq24, bmul3, str3, bsub3, bshl3, bquo3, bd36x0x1x2, len34, ix34, fa36f2, ldr22, fa36f0, fa46f0, bgeq3, fa46f1, beql22s, beql22n, bd46x0x3, fa46f2, str22, fa46f3, fa36f1, cv3x54, bshr54, cv54x3]
      rw [w1]
      refine ih (i + 1) fu at_ h3 n3 (by omega) (by omega) (by omega) ha (fun j hj h1 h2 => ?_) (by omega) hO3
      by_cases e : j = i
      · subst e
        by_cases e2 : j = at_
        · exact .inl e2
        · right
          have := hd j at_ h1 h2 e2
          rw [ltT_iff] at hlt ⊢
          omega
      · exact hmin j (by omega) h1 h2
theorem s_leastR (lf d n lo : Nat) (h : H) (v : Value) (l : List RT) (hO : Own3 h lo n 36 v (l.map tv)) (h0 : 0 < l.length) (hl : l.length ≤ 1000000) (hd : ∀ i j (hi : i < l.length) (hj : j < l.length), i ≠ j → l[i].2.1 ≠ l[j].2.1) (hs : ∀ t ∈ l, IsSl t.2.2) (hlf : 3000000 ≤ lf) :
    Run (fun _ => False) n (evCall2 Try.prog gt lf (d + 2) 24 #[v]) h n fun v' _ _ => ∃ a : Nat, v' = .int .i64 (a : Nat) ∧ a < l.length ∧ IsMin l l.length a := by
  rw [sh_balerref09_least]
  refine Run.inside_ ?_
  unfold b_balerref09_least
  have hO0 := hO
  obtain ⟨a, c, rfl⟩ := hO.len
  rw [List.length_map] at hO0 ⊢
  try simp (disch := first | omega | assumption | exact one_int _ _ | exact one_slice _ _ _ | exact one_ptr _ | exact one_bool _ | exact one_string _) only [optK_some_eq, nil2_ptr, ifV_true, ifV_false, run_if, run_out0, run_out1, run_out2, run_out3, optG_some, one_int, one_bool, one_string, one_slice, one_ptr, min2_eq, max2_eq, pick2_eq, u_not, u_neg, cells_agg, inside_ret, chk_true, get_eq, get_ne, List.getElem?_cons_zero, List.getElem?_cons_succ, List.set_cons_zero, List.set_cons_succ, List.length_cons, List.length_nil, Int.toNat_natCast, Int.toNat_zero, Nat.zero_add, Nat.add_zero, decide_eq_true_eq, decide_eq_false_iff_not, true_and, and_true, if_true, if_false, true_or, or_true, Bool.false_eq_true, Bool.true_eq_false, Nat.reduceAdd, Nat.reduceLT, wrap_id, wrap_succ, wrap_pred, len22, bgtr3, bleq3, blss3, beql24, beql3, ix22, ldr3, badd3, bneq3, bneq24, bmul3, str3, bsub3, bshl3, bquo3, bd36x0x1x2, len34, ix34, fa36f2, ldr22, fa36f0, fa46f0, bgeq3, fa46f1, beql22s, beql22n, bd46x0x3, fa46f2, str22, fa46f3, fa36f1, cv3x54, bshr54, cv54x3]
  have e0 : (.int .i64 0 : Value) = .int .i64 ((0 : Nat) : Int) := rfl
  rw [e0]
  exact lsA lf d n lo l hl hd hs _ _ l.length 0 lf 0 h n (by omega) (by omega) (by omega) h0 (fun j hj => by omega) (Nat.le_refl _) hO0

/-! all but one -/
theorem wiA (lf d lo : Nat) (l : List RT) (at_ : Nat) (hl : l.length ≤ 1000000) (hs : ∀ t ∈ l, IsSl t.2.2) (v x4 : Value) {W : Nat → Prop} {n0 nb : Nat} (hn0 : n0 ≤ nb) :
    ∀ (m i fu : Nat) (h : H) (n : Nat) (v5 : Value), l.length - i = m → m < fu → i ≤ l.length → nb ≤ n → (∀ b, InBlk v b → b < nb) → Own3 h lo nb 36 v (l.map tv) → Own3 h nb n 36 v5 (((l.take i).eraseIdx at_).map tv) →
      Run W n0 (lpA_balerref09_without lf (d + 1) fu (kcA_balerref09_without lf (d + 1)) v (.int .i64 (at_ : Nat)) x4 v5 v (.int .i64 (l.length : Nat)) (.int .i64 (i : Nat))) h n fun v' h' n' => Own3 h' nb n' 36 v' ((l.eraseIdx at_).map tv) := by
  intro m
  induction m with
  | zero =>
    intro i fu h n v5 hm hfu hi hnb hvb hO hA
    obtain ⟨fu, rfl⟩ : ∃ f, fu = f + 1 := ⟨fu - 1, by omega⟩
    obtain rfl : i = l.length := by omega
    rw [succA_balerref09_without]
    try simp (disch := first | omega | assumption | exact one_int _ _ | exact one_slice _ _ _ | exact one_ptr _ | exact one_bool _ | exact one_string _) only [optK_some_eq, nil2_ptr, ifV_true, ifV_false, run_if, run_out0, run_out1, run_out2, run_out3, optG_some, one_int, one_bool, one_string, one_slice, one_ptr, min2_eq, max2_eq, pick2_eq, u_not, u_neg, cells_agg, inside_ret, chk_true, get_eq, get_ne, List.getElem?_cons_zero, List.getElem?_cons_succ, List.set_cons_zero, List.set_cons_succ, List.length_cons, List.length_nil, Int.toNat_natCast, Int.toNat_zero, Nat.zero_add, Nat.add_zero, decide_eq_true_eq, decide_eq_false_iff_not, true_and, and_true, if_true, if_false, true_or, or_true, Bool.false_eq_true, Bool.true_eq_false, Nat.reduceAdd, Nat.reduceLT, wrap_id, wrap_succ, wrap_pred, len22, bgtr3, bleq3, blss3, beql24, beql3, ix22, ldr3, badd3, bneq3, bneq24, bmul3, str3, bsub3, bshl3, bquo3, bd36x0x1x2, len34, ix34, fa36f2, ldr22, fa36f0, fa46f0, bgeq3, fa46f1, beql22s, beql22n, bd46x0x3, fa46f2, str22, fa46f3, fa36f1, cv3x54, bshr54, cv54x3, Int.lt_irrefl]
    rw [kcAa_balerref09_without]
    try simp (disch := first | omega | assumption | exact one_int _ _ | exact one_slice _ _ _ | exact one_ptr _ | exact one_bool _ | exact one_string _) only [optK_some_eq, nil2_ptr, ifV_true, ifV_false, run_if, run_out0, run_out1, run_out2, run_out3, optG_some, one_int, one_bool, one_string, one_slice, one_ptr, min2_eq, max2_eq, pick2_eq, u_not, u_neg, cells_agg, inside_ret, chk_true, get_eq, get_ne, List.getElem?_cons_zero, List.getElem?_cons_succ, List.set_cons_zero, List.set_cons_succ, List.length_cons, List.length_nil, Int.toNat_natCast, Int.toNat_zero, Nat.zero_add, Nat.add_zero, decide_eq_true_eq, decide_eq_false_iff_not, true_and, and_true, if_true, if_false, true_or, or_true, Bool.false_eq_true, Bool.true_eq_false, Nat.reduceAdd, Nat.reduceLT, wrap_id, wrap_succ, wrap_pred, len22, bgtr3, bleq3, blss3, beql24, beql3, ix22, ldr3, badd3, bneq3, bneq24, bmul3, str3, bsub3, bshl3, bquo3, bd36x0x1x2, len34, ix34, fa36f2, ldr22, fa36f0, fa46f0, bgeq3, fa46f1, beql22s, beql22n, bd46x0x3, fa46f2, str22, fa46f3, fa36f1, cv3x54, bshr54, cv54x3]
    rw [List.take_length] at hA
    exact hA
  | succ m ih =>
    intro i fu h n v5 hm hfu hi hnb hvb hO hA
    obtain ⟨fu, rfl⟩ : ∃ f, fu = f + 1 := ⟨fu - 1, by omega⟩
    have hO0 := hO
    rcases hO with ⟨rfl, hnil⟩ | ⟨b, rfl, hg, hb1, hb2⟩
    · have := congrArg List.length hnil
      simp at this
      subst this
      simp at hm
    rw [List.length_map] at hO0 hvb ⊢
    simp only [List.length_map] at ih
    have hil : i < l.length := by omega
    have e1 : ((i : Nat) : Int) < ((l.length : Nat) : Int) := by omega
    have w1 : ((i : Nat) : Int) + 1 = ((i + 1 : Nat) : Int) := by omega
    have r1 : ((flat3 (l.map tv)).drop (i * 3)).take 3 = [(tv l[i]).1, (tv l[i]).2.1, (tv l[i]).2.2] := by
      have := flat3_at (l.map tv) i (by simpa using hil)
      simpa using this
    have o1 := tv_one (hs _ (List.getElem_mem hil))
    rw [succA_balerref09_without]
    try simp (disch := first | omega | assumption | exact one_int _ _ | exact one_slice _ _ _ | exact one_ptr _ | exact one_bool _ | exact one_string _) only [optK_some_eq, nil2_ptr, ifV_true, ifV_false, run_if, run_out0, run_out1, run_out2, run_out3, optG_some, one_int, one_bool, one_string, one_slice, one_ptr, min2_eq, max2_eq, pick2_eq, u_not, u_neg, cells_agg, inside_ret, chk_true, get_eq, get_ne, List.getElem?_cons_zero, List.getElem?_cons_succ, List.set_cons_zero, List.set_cons_succ, List.length_cons, List.length_nil, Int.toNat_natCast, Int.toNat_zero, Nat.zero_add, Nat.add_zero, decide_eq_true_eq, decide_eq_false_iff_not, true_and, and_true, if_true, if_false, true_or, or_true, Bool.false_eq_true, Bool.true_eq_false, Nat.reduceAdd, Nat.reduceLT, wrap_id, wrap_succ, wrap_pred, len22, bgtr3, bleq3, blss3, beql24, beql3, ix22, ldr3, badd3, bneq3, bneq24, bmul3, str3, bsub3, bshl3, bquo3, bd36x0x1x2, len34, ix34, fa36f2, ldr22, fa36f0, fa46f0, bgeq3, fa46f1, beql22s, beql22n, bd46x0x3, fa46f2, str22, fa46f3, fa36f1, cv3x54, bshr54, cv54x3, e1]
    refine run_ld3 c3t hg (by omega) r1 _ ?_
    refine run_var3 c3t (tv l[i]) o1 _ (fun h2 g2 k2 => ?_) (by omega)
    have hA2 : Own3 h2 nb (n + 1) 36 v5 (((l.take i).eraseIdx at_).map tv) := hA.keep (by omega) fun c hc => k2 c (hA.lt hc).2
    have hO2 : Own3 h2 lo nb 36 (.slice (some ⟨b, 0, none⟩) l.length (CAP + l.length)) (l.map tv) := hO0.keep (Nat.le_refl _) fun c hc => k2 c (by have := hvb c hc; omega)
    have tk : l.take (i + 1) = l.take i ++ [l[i]] := List.take_succ_eq_append_getElem hil
    by_cases he : i = at_
    · have n1 : (((i : Nat) : Int) != ((at_ : Nat) : Int)) = false := by rw [he]; simp
      try simp (disch := first | omega | assumption | exact one_int _ _ | exact one_slice _ _ _ | exact one_ptr _ | exact one_bool _ | exact one_string _) only [optK_some_eq, nil2_ptr, ifV_true, ifV_false, run_if, run_out0, run_out1, run_out2, run_out3, optG_some, one_int, one_bool, one_string, one_slice, one_ptr, min2_eq, max2_eq, pick2_eq, u_not, u_neg, cells_agg, inside_ret, chk_true, get_eq, get_ne, List.getElem?_cons_zero, List.getElem?_cons_succ, List.set_cons_zero, List.set_cons_succ, List.length_cons, List.length_nil, Int.toNat_natCast, Int.toNat_zero, Nat.zero_add, Nat.add_zero, decide_eq_true_eq, decide_eq_false_iff_not, true_and, and_true, if_true, if_false, true_or, or_true, Bool.false_eq_true, Bool.true_eq_false, Nat.reduceAdd, Nat.reduceLT, wrap_id, wrap_succ, wrap_pred, len22, bgtr3, bleq3, blss3, beql24, beql3, ix22, ldr3, badd3, bneq3, bneq24, bmul3, str3, bsub3, bshl3, bquo3, bd36x0x1x2, len34, ix34, fa36f2, ldr22, fa36f0, fa46f0, bgeq3, fa46f1, beql22s, beql22n, bd46x0x3, fa46f2, str22, fa46f3, fa36f1, cv3x54, bshr54, cv54x3, n1]
      rw [w1]
      refine ih (i + 1) fu h2 (n + 1) v5 (by omega) (by omega) (by omega) (by omega) hvb hO2 ?_
      rw [tk, List.eraseIdx_append_of_length_le (by rw [List.length_take]; omega)]
      rw [List.eraseIdx_of_length_le (by rw [List.length_take]; omega)] at hA2
      rw [show at_ - (l.take i).length = 0 by rw [List.length_take]; omega]
      simpa using hA2
    · have n1 : (((i : Nat) : Int) != ((at_ : Nat) : Int)) = true := bne_iff_ne.2 (by omega)
      try simp (disch := first | omega | assumption | exact one_int _ _ | exact one_slice _ _ _ | exact one_ptr _ | exact one_bool _ | exact one_string _) only [optK_some_eq, nil2_ptr, ifV_true, ifV_false, run_if, run_out0, run_out1, run_out2, run_out3, optG_some, one_int, one_bool, one_string, one_slice, one_ptr, min2_eq, max2_eq, pick2_eq, u_not, u_neg, cells_agg, inside_ret, chk_true, get_eq, get_ne, List.getElem?_cons_zero, List.getElem?_cons_succ, List.set_cons_zero, List.set_cons_succ, List.length_cons, List.length_nil, Int.toNat_natCast, Int.toNat_zero, Nat.zero_add, Nat.add_zero, decide_eq_true_eq, decide_eq_false_iff_not, true_and, and_true, if_true, if_false, true_or, or_true, Bool.false_eq_true, Bool.true_eq_false, Nat.reduceAdd, Nat.reduceLT, wrap_id, wrap_succ, wrap_pred, len22, bgtr3, bleq3, blss3, beql24, beql3, ix22, ldr3, badd3, bneq3, bneq24, bmul3, str3, bsub3, bshl3, bquo3, bd36x0x1x2, len34, ix34, fa36f2, ldr22, fa36f0, fa46f0, bgeq3, fa46f1, beql22s, beql22n, bd46x0x3, fa46f2, str22, fa46f3, fa36f1, cv3x54, bshr54, cv54x3, n1]
      refine run_ld3 c3t g2 (Nat.lt_succ_self n) (x := tv l[i]) rfl _ ?_
      refine run_push3 c3t o1 hA2 (by rw [List.length_map]; have : ((l.take i).eraseIdx at_).length ≤ (l.take i).length := by rw [List.length_eraseIdx]; split <;> omega
                                      rw [List.length_take] at this; omega) (by omega) (by omega) _ (fun v6 h6 o6 b6 k6 => ?_)
      try simp (disch := first | omega | assumption | exact one_int _ _ | exact one_slice _ _ _ | exact one_ptr _ | exact one_bool _ | exact one_string _) only [optK_some_eq, nil2_ptr, ifV_true, ifV_false, run_if, run_out0, run_out1, run_out2, run_out3, optG_some, one_int, one_bool, one_string, one_slice, one_ptr, min2_eq, max2_eq, pick2_eq, u_not, u_neg, cells_agg, inside_ret, chk_true, get_eq, get_ne, List.getElem?_cons_zero, List.getElem?_cons_succ, List.set_cons_zero, List.set_cons_succ, List.length_cons, List.length_nil, Int.toNat_natCast, Int.toNat_zero, Nat.zero_add, Nat.add_zero, decide_eq_true_eq, decide_eq_false_iff_not, true_and, and_true, if_true, if_false, true_or, or_true, Bool.false_eq_true, Bool.true_eq_false, Nat.reduceAdd, Nat.reduceLT, wrap_id, wrap_succ, wrap_pred, len22, bgtr3, bleq3, blss3, beql24, beql3, ix22, ldr3, badd3, bneq3, bneq24, bmul3, str3, bsub3, bshl3, bquo3, bd36x0x1x2, len34, ix34, fa36f2, ldr22, fa36f0, fa46f0, bgeq3, fa46f1, beql22s, beql22n, bd46x0x3, fa46f2, str22, fa46f3, fa36f1, cv3x54, bshr54, cv54x3]
      rw [w1]
      refine ih (i + 1) fu h6 (n + 1 + 2) v6 (by omega) (by omega) (by omega) (by omega) hvb (hO2.keep (Nat.le_refl _) fun c hc => k6 c (by have := hvb c hc; omega) (fun q => by have := (hA2.lt q).1; have := hvb c hc; omega)) ?_
      have : (l.take (i + 1)).eraseIdx at_ = (l.take i).eraseIdx at_ ++ [l[i]] := by
        rw [tk]
        by_cases hlt : at_ < i
        · rw [List.eraseIdx_append_of_lt_length (by rw [List.length_take]; omega)]
        · rw [List.eraseIdx_append_of_length_le (by rw [List.length_take]; omega), List.eraseIdx_of_length_le (l := l.take i) (by rw [List.length_take]; omega)]
          congr 1
          rw [List.eraseIdx_of_length_le (by rw [List.length_take]; simp; omega)]
      rw [this, List.map_append]
      exact o6
theorem s_without (lf d n lo : Nat) (h : H) (v : Value) (l : List RT) (at_ : Nat) (hO : Own3 h lo n 36 v (l.map tv)) (hl : l.length ≤ 1000000) (hs : ∀ t ∈ l, IsSl t.2.2) (hlf : 3000000 ≤ lf) :
    Run (fun _ => False) n (evCall2 Try.prog gt lf (d + 2) 25 #[v, .int .i64 (at_ : Nat)]) h n fun v' h' n' => Own3 h' n n' 36 v' ((l.eraseIdx at_).map tv) := by
  rw [sh_balerref09_without]
  refine Run.inside_ ?_
  unfold b_balerref09_without
  have hO0 := hO
  have hvb := fun b hb => (hO.lt (b := b) hb).2
  obtain ⟨a, c, rfl⟩ := hO.len
  rw [List.length_map] at hO0 hvb ⊢
  try simp (disch := first | omega | assumption | exact one_int _ _ | exact one_slice _ _ _ | exact one_ptr _ | exact one_bool _ | exact one_string _) only [optK_some_eq, nil2_ptr, ifV_true, ifV_false, run_if, run_out0, run_out1, run_out2, run_out3, optG_some, one_int, one_bool, one_string, one_slice, one_ptr, min2_eq, max2_eq, pick2_eq, u_not, u_neg, cells_agg, inside_ret, chk_true, get_eq, get_ne, List.getElem?_cons_zero, List.getElem?_cons_succ, List.set_cons_zero, List.set_cons_succ, List.length_cons, List.length_nil, Int.toNat_natCast, Int.toNat_zero, Nat.zero_add, Nat.add_zero, decide_eq_true_eq, decide_eq_false_iff_not, true_and, and_true, if_true, if_false, true_or, or_true, Bool.false_eq_true, Bool.true_eq_false, Nat.reduceAdd, Nat.reduceLT, wrap_id, wrap_succ, wrap_pred, len22, bgtr3, bleq3, blss3, beql24, beql3, ix22, ldr3, badd3, bneq3, bneq24, bmul3, str3, bsub3, bshl3, bquo3, bd36x0x1x2, len34, ix34, fa36f2, ldr22, fa36f0, fa46f0, bgeq3, fa46f1, beql22s, beql22n, bd46x0x3, fa46f2, str22, fa46f3, fa36f1, cv3x54, bshr54, cv54x3]
  exact wiA lf d lo l at_ hl hs _ _ (Nat.le_refl n) l.length 0 lf h n _ (by omega) (by omega) (by omega) (Nat.le_refl _) hvb hO0 (by simpa using Own3.nil h n n _)

end Go.Proofs.Ytapdcejhfooahaa

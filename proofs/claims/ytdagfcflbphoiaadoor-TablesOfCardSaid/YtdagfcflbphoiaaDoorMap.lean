/- Layer 12 by the second form: which choices are the same. -/
import Derived.Test.YtdagfcflbphoiaaDoorMao
import Derived.Test.YtdagfcflbphoiaaDoorMaf
namespace Go.Proofs.YtdagfcflbphoiaaDoor
set_option linter.unusedVariables false
set_option linter.unusedSimpArgs false
open Go.RowKit Ev Tb

theorem drop_same {α : Type} [DecidableEq α] (d : α) {xs ys : List α} (hl : xs.length = ys.length) {i : Nat} (hi : i < xs.length) : decide (xs.drop i = ys.drop i) = (decide (xs.getD i d = ys.getD i d) && decide (xs.drop (i + 1) = ys.drop (i + 1))) := by
  rw [drop_next d hi, drop_next d (show i < ys.length by omega)]
  by_cases h1 : xs.getD i d = ys.getD i d
  · rw [h1, decide_eq_true rfl, Bool.true_and]
    simp only [List.cons.injEq, true_and]
  · rw [decide_eq_false h1, Bool.false_and]
    exact decide_eq_false fun q => h1 (List.cons.inj q).1
theorem drop_all {α : Type} [DecidableEq α] {xs ys : List α} (hl : xs.length = ys.length) : decide (xs.drop xs.length = ys.drop xs.length) = true := by
  rw [List.drop_length, hl, List.drop_length]
  exact decide_eq_true rfl
section
variable (lf d n : Nat) (h : H)
theorem s_Equal (v u : Value) (xs ys : List Int) (hR : Row h n 3 .i64 v xs) (hS : Row h n 3 .i64 u ys) (hl : xs.length < lf) (hm : xs.length ≤ 9223372036854775807) :
    Run (fun _ => False) n (evCall2 Tryd.prog gt lf (d + 1) 41 #[v, u]) h n fun v' h' n' => v' = .bool (decide (xs = ys)) ∧ h' = h ∧ n' = n := by
  rw [sh_slices_Equal_int_int]
  refine Run.inside_ ?_
  unfold b_slices_Equal_int_int
  have hR0 := hR
  have hS0 := hS
  obtain ⟨a, c, rfl⟩ := hR.len
  obtain ⟨a2, c2, rfl⟩ := hS.len
  by_cases hxy : xs.length = ys.length
  · have n1 : (((xs.length : Nat) : Int) != ((ys.length : Nat) : Int)) = false := by rw [hxy]; simp
    try simp (disch := first | omega | assumption | exact one_int _ _ | exact one_slice _ _ _ | exact one_ptr _ | exact one_bool _ | exact one_string _) only [RXA, RXB, Nat.reduceAdd, Nat.reduceLT, wrap_id, wrap_succ, wrap_pred, FX1, n1]
    refine run_for xs.length (fun fu i (_ : Unit) => lpA_slices_Equal_int_int lf d fu (kcA_slices_Equal_int_int lf d) (.slice a xs.length c) (.slice a2 ys.length c2) _ _ (.int .i64 (xs.length : Nat)) (.int .i64 (i : Nat))) (fun i _ h' n' => (h' = h ∧ n' = n) ∧ decide (xs = ys) = decide (xs.drop i = ys.drop i)) ?_ ?_ lf 0 () h n (Nat.zero_le _) (by omega) ⟨⟨rfl, rfl⟩, rfl⟩
    · rintro fu _ h' n' ⟨⟨rfl, rfl⟩, e⟩
      rw [succA_slices_Equal_int_int, e, drop_all hxy]
      try simp (disch := first | omega | assumption | exact one_int _ _ | exact one_slice _ _ _ | exact one_ptr _ | exact one_bool _ | exact one_string _) only [RXA, RXB, Nat.reduceAdd, Nat.reduceLT, wrap_id, wrap_succ, wrap_pred, FX1, Int.lt_irrefl]
      rw [kcAb_slices_Equal_int_int]
      try simp (disch := first | omega | assumption | exact one_int _ _ | exact one_slice _ _ _ | exact one_ptr _ | exact one_bool _ | exact one_string _) only [RXA, RXB, Nat.reduceAdd, Nat.reduceLT, wrap_id, wrap_succ, wrap_pred, FX1]
    · rintro fu i _ h' n' hi ⟨⟨rfl, rfl⟩, e⟩ next
      obtain ⟨b, off, cap, o, cs, hv, hg, hb, _, _, _, hat⟩ := hR0.some (by omega)
      cases hv
      obtain ⟨b2, off2, cap2, o2, cs2, hv2, hg2, hb2, _, _, _, hat2⟩ := hS0.some (by omega)
      cases hv2
      have e1 : ((i : Nat) : Int) < ((xs.length : Nat) : Int) := by omega
      have e2 : ((i : Nat) : Int) < ((ys.length : Nat) : Int) := by omega
      have c1 := hat i hi
      have c2 := hat2 i (by omega)
      rw [drop_same 0 hxy hi] at e
      rw [succA_slices_Equal_int_int]
      by_cases h1 : xs.getD i 0 = ys.getD i 0
      · have n1 : (xs.getD i 0 != ys.getD i 0) = false := by rw [h1]; simp
        rw [decide_eq_true h1, Bool.true_and] at e
        try simp (disch := first | omega | assumption | exact one_int _ _ | exact one_slice _ _ _ | exact one_ptr _ | exact one_bool _ | exact one_string _) only [RXA, RXB, Nat.reduceAdd, Nat.reduceLT, wrap_id, wrap_succ, wrap_pred, FX1, e1, e2, hg, hg2, c1, c2, n1]
        exact next () _ _ ⟨⟨rfl, rfl⟩, e⟩
      · have n1 : (xs.getD i 0 != ys.getD i 0) = true := bne_iff_ne.2 h1
        rw [decide_eq_false h1, Bool.false_and] at e
        rw [e]
        try simp (disch := first | omega | assumption | exact one_int _ _ | exact one_slice _ _ _ | exact one_ptr _ | exact one_bool _ | exact one_string _) only [RXA, RXB, Nat.reduceAdd, Nat.reduceLT, wrap_id, wrap_succ, wrap_pred, FX1, e1, e2, hg, hg2, c1, c2, n1]
        rw [kcAa_slices_Equal_int_int]
        try simp (disch := first | omega | assumption | exact one_int _ _ | exact one_slice _ _ _ | exact one_ptr _ | exact one_bool _ | exact one_string _) only [RXA, RXB, Nat.reduceAdd, Nat.reduceLT, wrap_id, wrap_succ, wrap_pred, FX1]
  · have n1 : (((xs.length : Nat) : Int) != ((ys.length : Nat) : Int)) = true := by simp; omega
    rw [decide_eq_false (fun q => hxy (by rw [q]))]
    try simp (disch := first | omega | assumption | exact one_int _ _ | exact one_slice _ _ _ | exact one_ptr _ | exact one_bool _ | exact one_string _) only [RXA, RXB, Nat.reduceAdd, Nat.reduceLT, wrap_id, wrap_succ, wrap_pred, FX1, n1]
theorem r_Ints (v u : Value) (xs ys : List Int) (hR : Row h n 3 .i64 v xs) (hS : Row h n 3 .i64 u ys) (hl : xs.length < lf) (hm : xs.length ≤ 9223372036854775807) :
    Run (fun _ => False) n (evCall2 Tryd.prog gt lf (d + 1) 28 #[v, u]) h n fun v' h' n' => v' = .bool (decide (xs = ys)) ∧ h' = h ∧ n' = n := by
  rw [sh_balerplain_Ints]
  refine Run.inside_ ?_
  unfold b_balerplain_Ints
  have hR0 := hR
  have hS0 := hS
  obtain ⟨a, c, rfl⟩ := hR.len
  obtain ⟨a2, c2, rfl⟩ := hS.len
  by_cases hxy : xs.length = ys.length
  · have n1 : (((xs.length : Nat) : Int) != ((ys.length : Nat) : Int)) = false := by rw [hxy]; simp
    try simp (disch := first | omega | assumption | exact one_int _ _ | exact one_slice _ _ _ | exact one_ptr _ | exact one_bool _ | exact one_string _) only [RXA, RXB, Nat.reduceAdd, Nat.reduceLT, wrap_id, wrap_succ, wrap_pred, FX1, n1]
    refine run_for xs.length (fun fu i (_ : Unit) => lpA_balerplain_Ints lf d fu (kcA_balerplain_Ints lf d) (.slice a xs.length c) (.slice a2 ys.length c2) _ _ (.int .i64 (xs.length : Nat)) (.int .i64 (i : Nat))) (fun i _ h' n' => (h' = h ∧ n' = n) ∧ decide (xs = ys) = decide (xs.drop i = ys.drop i)) ?_ ?_ lf 0 () h n (Nat.zero_le _) (by omega) ⟨⟨rfl, rfl⟩, rfl⟩
    · rintro fu _ h' n' ⟨⟨rfl, rfl⟩, e⟩
      rw [succA_balerplain_Ints, e, drop_all hxy]
      try simp (disch := first | omega | assumption | exact one_int _ _ | exact one_slice _ _ _ | exact one_ptr _ | exact one_bool _ | exact one_string _) only [RXA, RXB, Nat.reduceAdd, Nat.reduceLT, wrap_id, wrap_succ, wrap_pred, FX1, Int.lt_irrefl]
      rw [kcAb_balerplain_Ints]
      try simp (disch := first | omega | assumption | exact one_int _ _ | exact one_slice _ _ _ | exact one_ptr _ | exact one_bool _ | exact one_string _) only [RXA, RXB, Nat.reduceAdd, Nat.reduceLT, wrap_id, wrap_succ, wrap_pred, FX1]
    · rintro fu i _ h' n' hi ⟨⟨rfl, rfl⟩, e⟩ next
      obtain ⟨b, off, cap, o, cs, hv, hg, hb, _, _, _, hat⟩ := hR0.some (by omega)
      cases hv
      obtain ⟨b2, off2, cap2, o2, cs2, hv2, hg2, hb2, _, _, _, hat2⟩ := hS0.some (by omega)
      cases hv2
      have e1 : ((i : Nat) : Int) < ((xs.length : Nat) : Int) := by omega
      have e2 : ((i : Nat) : Int) < ((ys.length : Nat) : Int) := by omega
      have c1 := hat i hi
      have c2 := hat2 i (by omega)
      rw [drop_same 0 hxy hi] at e
      rw [succA_balerplain_Ints]
      by_cases h1 : xs.getD i 0 = ys.getD i 0
      · have n1 : (xs.getD i 0 != ys.getD i 0) = false := by rw [h1]; simp
        rw [decide_eq_true h1, Bool.true_and] at e
        try simp (disch := first | omega | assumption | exact one_int _ _ | exact one_slice _ _ _ | exact one_ptr _ | exact one_bool _ | exact one_string _) only [RXA, RXB, Nat.reduceAdd, Nat.reduceLT, wrap_id, wrap_succ, wrap_pred, FX1, e1, e2, hg, hg2, c1, c2, n1]
        exact next () _ _ ⟨⟨rfl, rfl⟩, e⟩
      · have n1 : (xs.getD i 0 != ys.getD i 0) = true := bne_iff_ne.2 h1
        rw [decide_eq_false h1, Bool.false_and] at e
        rw [e]
        try simp (disch := first | omega | assumption | exact one_int _ _ | exact one_slice _ _ _ | exact one_ptr _ | exact one_bool _ | exact one_string _) only [RXA, RXB, Nat.reduceAdd, Nat.reduceLT, wrap_id, wrap_succ, wrap_pred, FX1, e1, e2, hg, hg2, c1, c2, n1]
        rw [kcAa_balerplain_Ints]
        try simp (disch := first | omega | assumption | exact one_int _ _ | exact one_slice _ _ _ | exact one_ptr _ | exact one_bool _ | exact one_string _) only [RXA, RXB, Nat.reduceAdd, Nat.reduceLT, wrap_id, wrap_succ, wrap_pred, FX1]
  · have n1 : (((xs.length : Nat) : Int) != ((ys.length : Nat) : Int)) = true := by simp; omega
    rw [decide_eq_false (fun q => hxy (by rw [q]))]
    try simp (disch := first | omega | assumption | exact one_int _ _ | exact one_slice _ _ _ | exact one_ptr _ | exact one_bool _ | exact one_string _) only [RXA, RXB, Nat.reduceAdd, Nat.reduceLT, wrap_id, wrap_succ, wrap_pred, FX1, n1]
theorem s_Same1 (v u : Value) (xs ys : List Int) (hR : Row h n 3 .i64 v xs) (hS : Row h n 3 .i64 u ys) (hl : xs.length < lf) (hm : xs.length ≤ 9223372036854775807) :
    Run (fun _ => False) n (evCall2 Tryd.prog gt lf (d + 2) 43 #[v, u]) h n fun v' h' n' => v' = .bool (decide (xs = ys)) ∧ h' = h ∧ n' = n := by
  rw [sh_tables_Same_1]
  refine Run.inside_ ?_
  unfold b_tables_Same_1
  refine run_same (s_Equal lf d n h v u xs ys hR hS hl hm) (Nat.le_refl _) (fun _ _ h => h.elim) ?_
  try simp (disch := first | omega | assumption | exact one_int _ _ | exact one_slice _ _ _ | exact one_ptr _ | exact one_bool _ | exact one_string _) only [RXA, RXB, Nat.reduceAdd, Nat.reduceLT, wrap_id, wrap_succ, wrap_pred, FX1]
theorem callS {β : Type} {rec : FuncId → Array Value → M Value} (a b : Value) (k : Value → M β) : callV Tryd.prog rec (.func (.func 43) #[] #[]) [a, b] k = (inside (rec 43 #[a, b])).bind k := by
  unfold callV
  show optK (some _) _ = _
  rw [optK_some_eq]
  simp only [show hasBody Tryd.prog 43 = true by kernel_rfl]
  rfl
theorem s_EqualFunc (v u : Value) (xss yss : List (List Int)) (hR : RR h n 22 3 v xss) (hS : RR h n 22 3 u yss) (hl : xss.length < lf) (hm : xss.length ≤ 9223372036854775807) (hi2 : ∀ xs ∈ xss, xs.length < lf ∧ xs.length ≤ 9223372036854775807) :
    Run (fun _ => False) n (evCall2 Tryd.prog gt lf (d + 3) 42 #[v, u, .func (.func 43) #[] #[]]) h n fun v' h' n' => v' = .bool (decide (xss = yss)) ∧ h' = h ∧ n' = n := by
  rw [sh_slices_EqualFunc_int_int_int_int]
  refine Run.inside_ ?_
  unfold b_slices_EqualFunc_int_int_int_int
  have hR0 := hR
  have hS0 := hS
  obtain ⟨a, c, rfl⟩ := hR.len
  obtain ⟨a2, c2, rfl⟩ := hS.len
  by_cases hxy : xss.length = yss.length
  · have n1 : (((xss.length : Nat) : Int) != ((yss.length : Nat) : Int)) = false := by rw [hxy]; simp
    try simp (disch := first | omega | assumption | exact one_int _ _ | exact one_slice _ _ _ | exact one_ptr _ | exact one_bool _ | exact one_string _) only [RXA, RXB, Nat.reduceAdd, Nat.reduceLT, wrap_id, wrap_succ, wrap_pred, FX1, n1]
    refine run_for xss.length (fun fu i (_ : Unit) => lpA_slices_EqualFunc_int_int_int_int lf (d + 2) fu (kcA_slices_EqualFunc_int_int_int_int lf (d + 2)) (.slice a xss.length c) (.slice a2 yss.length c2) (.func (.func 43) #[] #[]) _ _ (.slice a xss.length c) (.int .i64 (xss.length : Nat)) (.int .i64 (i : Nat))) (fun i _ h' n' => (h' = h ∧ n' = n) ∧ decide (xss = yss) = decide (xss.drop i = yss.drop i)) ?_ ?_ lf 0 () h n (Nat.zero_le _) (by omega) ⟨⟨rfl, rfl⟩, rfl⟩
    · rintro fu _ h' n' ⟨⟨rfl, rfl⟩, e⟩
      rw [succA_slices_EqualFunc_int_int_int_int, e, drop_all hxy]
      try simp (disch := first | omega | assumption | exact one_int _ _ | exact one_slice _ _ _ | exact one_ptr _ | exact one_bool _ | exact one_string _) only [RXA, RXB, Nat.reduceAdd, Nat.reduceLT, wrap_id, wrap_succ, wrap_pred, FX1, Int.lt_irrefl]
      rw [kcAb_slices_EqualFunc_int_int_int_int]
      try simp (disch := first | omega | assumption | exact one_int _ _ | exact one_slice _ _ _ | exact one_ptr _ | exact one_bool _ | exact one_string _) only [RXA, RXB, Nat.reduceAdd, Nat.reduceLT, wrap_id, wrap_succ, wrap_pred, FX1]
    · rintro fu i _ h' n' hi ⟨⟨rfl, rfl⟩, e⟩ next
      obtain ⟨b, off, cap, o, cs, hv, hg, hb, hat⟩ := hR0.at (by omega)
      cases hv
      obtain ⟨b2, off2, cap2, o2, cs2, hv2, hg2, hb2, hat2⟩ := hS0.at (by omega)
      cases hv2
      have e1 : ((i : Nat) : Int) < ((xss.length : Nat) : Int) := by omega
      have e2 : ((i : Nat) : Int) < ((yss.length : Nat) : Int) := by omega
      obtain ⟨p, c1, r1⟩ := hat i hi
      obtain ⟨q, c2, r2⟩ := hat2 i (by omega)
      have hm : xss.getD i [] ∈ xss := by rw [List.getD_eq_getElem?_getD, List.getElem?_eq_getElem hi]; exact List.getElem_mem hi
      obtain ⟨l1, l2⟩ := hi2 _ hm
      rw [drop_same [] hxy hi] at e
      rw [succA_slices_EqualFunc_int_int_int_int]
      try simp (disch := first | omega | assumption | exact one_int _ _ | exact one_slice _ _ _ | exact one_ptr _ | exact one_bool _ | exact one_string _) only [RXA, RXB, Nat.reduceAdd, Nat.reduceLT, wrap_id, wrap_succ, wrap_pred, FX1, e1, e2, hg, hg2, c1, c2, callS]
      refine run_same (s_Same1 lf d _ h' p q _ _ r1 r2 l1 l2) (Nat.le_refl _) (fun _ _ h => h.elim) ?_
      by_cases h1 : xss.getD i [] = yss.getD i []
      · rw [decide_eq_true h1, Bool.true_and] at e
        rw [decide_eq_true h1]
        try simp (disch := first | omega | assumption | exact one_int _ _ | exact one_slice _ _ _ | exact one_ptr _ | exact one_bool _ | exact one_string _) only [RXA, RXB, Nat.reduceAdd, Nat.reduceLT, wrap_id, wrap_succ, wrap_pred, FX1, Bool.not_true]
        exact next () _ _ ⟨⟨rfl, rfl⟩, e⟩
      · rw [decide_eq_false h1, Bool.false_and] at e
        rw [decide_eq_false h1, e]
        try simp (disch := first | omega | assumption | exact one_int _ _ | exact one_slice _ _ _ | exact one_ptr _ | exact one_bool _ | exact one_string _) only [RXA, RXB, Nat.reduceAdd, Nat.reduceLT, wrap_id, wrap_succ, wrap_pred, FX1, Bool.not_false]
        rw [kcAa_slices_EqualFunc_int_int_int_int]
        try simp (disch := first | omega | assumption | exact one_int _ _ | exact one_slice _ _ _ | exact one_ptr _ | exact one_bool _ | exact one_string _) only [RXA, RXB, Nat.reduceAdd, Nat.reduceLT, wrap_id, wrap_succ, wrap_pred, FX1]
  · have n1 : (((xss.length : Nat) : Int) != ((yss.length : Nat) : Int)) = true := by simp; omega
    rw [decide_eq_false (fun q => hxy (by rw [q]))]
    try simp (disch := first | omega | assumption | exact one_int _ _ | exact one_slice _ _ _ | exact one_ptr _ | exact one_bool _ | exact one_string _) only [RXA, RXB, Nat.reduceAdd, Nat.reduceLT, wrap_id, wrap_succ, wrap_pred, FX1, n1]
theorem r_Rows (v u : Value) (xss yss : List (List Int)) (hR : RR h n 22 3 v xss) (hS : RR h n 22 3 u yss) (hl : xss.length < lf) (hm : xss.length ≤ 9223372036854775807) (hi2 : ∀ xs ∈ xss, xs.length < lf ∧ xs.length ≤ 9223372036854775807) :
    Run (fun _ => False) n (evCall2 Tryd.prog gt lf (d + 2) 22 #[v, u]) h n fun v' h' n' => v' = .bool (decide (xss = yss)) ∧ h' = h ∧ n' = n := by
  rw [sh_balerplain_Rows]
  refine Run.inside_ ?_
  unfold b_balerplain_Rows
  have hR0 := hR
  have hS0 := hS
  obtain ⟨a, c, rfl⟩ := hR.len
  obtain ⟨a2, c2, rfl⟩ := hS.len
  by_cases hxy : xss.length = yss.length
  · have n1 : (((xss.length : Nat) : Int) != ((yss.length : Nat) : Int)) = false := by rw [hxy]; simp
    try simp (disch := first | omega | assumption | exact one_int _ _ | exact one_slice _ _ _ | exact one_ptr _ | exact one_bool _ | exact one_string _) only [RXA, RXB, Nat.reduceAdd, Nat.reduceLT, wrap_id, wrap_succ, wrap_pred, FX1, n1]
    refine run_for xss.length (fun fu i (_ : Unit) => lpA_balerplain_Rows lf (d + 1) fu (kcA_balerplain_Rows lf (d + 1)) (.slice a xss.length c) (.slice a2 yss.length c2) _ _ (.int .i64 (xss.length : Nat)) (.int .i64 (i : Nat))) (fun i _ h' n' => (h' = h ∧ n' = n) ∧ decide (xss = yss) = decide (xss.drop i = yss.drop i)) ?_ ?_ lf 0 () h n (Nat.zero_le _) (by omega) ⟨⟨rfl, rfl⟩, rfl⟩
    · rintro fu _ h' n' ⟨⟨rfl, rfl⟩, e⟩
      rw [succA_balerplain_Rows, e, drop_all hxy]
      try simp (disch := first | omega | assumption | exact one_int _ _ | exact one_slice _ _ _ | exact one_ptr _ | exact one_bool _ | exact one_string _) only [RXA, RXB, Nat.reduceAdd, Nat.reduceLT, wrap_id, wrap_succ, wrap_pred, FX1, Int.lt_irrefl]
      rw [kcAb_balerplain_Rows]
      try simp (disch := first | omega | assumption | exact one_int _ _ | exact one_slice _ _ _ | exact one_ptr _ | exact one_bool _ | exact one_string _) only [RXA, RXB, Nat.reduceAdd, Nat.reduceLT, wrap_id, wrap_succ, wrap_pred, FX1]
    · rintro fu i _ h' n' hi ⟨⟨rfl, rfl⟩, e⟩ next
      obtain ⟨b, off, cap, o, cs, hv, hg, hb, hat⟩ := hR0.at (by omega)
      cases hv
      obtain ⟨b2, off2, cap2, o2, cs2, hv2, hg2, hb2, hat2⟩ := hS0.at (by omega)
      cases hv2
      have e1 : ((i : Nat) : Int) < ((xss.length : Nat) : Int) := by omega
      have e2 : ((i : Nat) : Int) < ((yss.length : Nat) : Int) := by omega
      obtain ⟨p, c1, r1⟩ := hat i hi
      obtain ⟨q, c2, r2⟩ := hat2 i (by omega)
      have hm : xss.getD i [] ∈ xss := by rw [List.getD_eq_getElem?_getD, List.getElem?_eq_getElem hi]; exact List.getElem_mem hi
      obtain ⟨l1, l2⟩ := hi2 _ hm
      rw [drop_same [] hxy hi] at e
      rw [succA_balerplain_Rows]
      try simp (disch := first | omega | assumption | exact one_int _ _ | exact one_slice _ _ _ | exact one_ptr _ | exact one_bool _ | exact one_string _) only [RXA, RXB, Nat.reduceAdd, Nat.reduceLT, wrap_id, wrap_succ, wrap_pred, FX1, e1, e2, hg, hg2, c1, c2]
      refine run_same (r_Ints lf d _ h' p q _ _ r1 r2 l1 l2) (Nat.le_refl _) (fun _ _ h => h.elim) ?_
      by_cases h1 : xss.getD i [] = yss.getD i []
      · rw [decide_eq_true h1, Bool.true_and] at e
        rw [decide_eq_true h1]
        try simp (disch := first | omega | assumption | exact one_int _ _ | exact one_slice _ _ _ | exact one_ptr _ | exact one_bool _ | exact one_string _) only [RXA, RXB, Nat.reduceAdd, Nat.reduceLT, wrap_id, wrap_succ, wrap_pred, FX1, Bool.not_true]
        exact next () _ _ ⟨⟨rfl, rfl⟩, e⟩
      · rw [decide_eq_false h1, Bool.false_and] at e
        rw [decide_eq_false h1, e]
        try simp (disch := first | omega | assumption | exact one_int _ _ | exact one_slice _ _ _ | exact one_ptr _ | exact one_bool _ | exact one_string _) only [RXA, RXB, Nat.reduceAdd, Nat.reduceLT, wrap_id, wrap_succ, wrap_pred, FX1, Bool.not_false]
        rw [kcAa_balerplain_Rows]
        try simp (disch := first | omega | assumption | exact one_int _ _ | exact one_slice _ _ _ | exact one_ptr _ | exact one_bool _ | exact one_string _) only [RXA, RXB, Nat.reduceAdd, Nat.reduceLT, wrap_id, wrap_succ, wrap_pred, FX1]
  · have n1 : (((xss.length : Nat) : Int) != ((yss.length : Nat) : Int)) = true := by simp; omega
    rw [decide_eq_false (fun q => hxy (by rw [q]))]
    try simp (disch := first | omega | assumption | exact one_int _ _ | exact one_slice _ _ _ | exact one_ptr _ | exact one_bool _ | exact one_string _) only [RXA, RXB, Nat.reduceAdd, Nat.reduceLT, wrap_id, wrap_succ, wrap_pred, FX1, n1]
/-- a choice: its tables and its picks -/
structure Choi (h : H) (n : Nat) (v : Value) (L : List (List Int)) (K : List Int) : Prop where
  ex : ∃ x y, v = .agg #[x, y] ∧ RR h n 22 3 x L ∧ Row h n 3 .i64 y K
theorem Choi.keep {h h' : H} {n n' : Nat} {v : Value} {L : List (List Int)} {K : List Int} (x : Choi h n v L K) (hn : n ≤ n') (hk : ∀ b, b < n → h'.get b = h.get b) : Choi h' n' v L K := by
  obtain ⟨x, y, hv, h1, h2⟩ := x.ex
  exact ⟨x, y, hv, h1.keep hn hk, h2.keep hn hk⟩
def ShortL (lf : Nat) (L : List (List Int)) : Prop := (L.length < lf ∧ L.length ≤ 9223372036854775807) ∧ ∀ xs ∈ L, xs.length < lf ∧ xs.length ≤ 9223372036854775807
theorem s_Same (v u : Value) (L L2 : List (List Int)) (K K2 : List Int) (hv : Choi h n v L K) (hu : Choi h n u L2 K2) (hL : ShortL lf L) (hK : K.length < lf ∧ K.length ≤ 9223372036854775807) :
    Run (fun _ => False) n (evCall2 Tryd.prog gt lf (d + 4) 24 #[v, u]) h n fun v' h' n' => v' = .bool (decide (K = K2) && decide (L = L2)) := by
  obtain ⟨x, y, rfl, hx, hy⟩ := hv.ex
  obtain ⟨x2, y2, rfl, hx2, hy2⟩ := hu.ex
  rw [sh_tables_Same]
  refine Run.inside_ ?_
  unfold b_tables_Same
  refine run_box sz25 _ _ ?_
  refine run_box sz25 _ _ ?_
  have cl : ∀ {x y : Value} {L : List (List Int)} {K : List Int} {h : H} {n : Nat}, RR h n 22 3 x L → Row h n 3 .i64 y K → (Value.agg #[x, y]).cells.toList = [x, y] := fun hx hy => by
    obtain ⟨_, _, rfl⟩ := hx.len
    obtain ⟨_, _, rfl⟩ := hy.len
    rfl
  rw [cl hx hy, cl hx2 hy2]
  obtain ⟨h2, hh2⟩ : ∃ h2, (h.set n (some ⟨25, true, [x, y]⟩)).set (n + 1) (some ⟨25, true, [x2, y2]⟩) = h2 := ⟨_, rfl⟩
  have g1 : h2.get n = some ⟨25, true, [x, y]⟩ := by rw [← hh2, get_ne _ _ (by omega), get_eq]
  have g2 : h2.get (n + 1) = some ⟨25, true, [x2, y2]⟩ := by rw [← hh2, get_eq]
  have hk : ∀ b, b < n → h2.get b = h.get b := fun b hb => by rw [← hh2, get_ne _ _ (by omega), get_ne _ _ (by omega)]
  rw [hh2]
  have l1 : n < n + 1 + 1 := by omega
  have l2 : n + 1 < n + 1 + 1 := by omega
  try simp (disch := first | omega | assumption | exact one_int _ _ | exact one_slice _ _ _ | exact one_ptr _ | exact one_bool _ | exact one_string _) only [RXA, RXB, Nat.reduceAdd, Nat.reduceLT, wrap_id, wrap_succ, wrap_pred, FX1, g1, g2]
  refine run_same (s_Equal lf (d + 2) _ h2 y y2 K K2 (hy.keep (by omega) hk) (hy2.keep (by omega) hk) hK.1 hK.2) (by omega) (fun _ _ h => h.elim) ?_
  by_cases e : K = K2
  · rw [decide_eq_true e]
    try simp (disch := first | omega | assumption | exact one_int _ _ | exact one_slice _ _ _ | exact one_ptr _ | exact one_bool _ | exact one_string _) only [RXA, RXB, Nat.reduceAdd, Nat.reduceLT, wrap_id, wrap_succ, wrap_pred, FX1, g1, g2]
    refine run_same (s_EqualFunc lf d _ h2 x x2 L L2 (hx.keep (by omega) hk) (hx2.keep (by omega) hk) hL.1.1 hL.1.2 hL.2) (by omega) (fun _ _ h => h.elim) ?_
    try simp (disch := first | omega | assumption | exact one_int _ _ | exact one_slice _ _ _ | exact one_ptr _ | exact one_bool _ | exact one_string _) only [RXA, RXB, Nat.reduceAdd, Nat.reduceLT, wrap_id, wrap_succ, wrap_pred, FX1, Bool.true_and]
  · rw [decide_eq_false e]
    try simp (disch := first | omega | assumption | exact one_int _ _ | exact one_slice _ _ _ | exact one_ptr _ | exact one_bool _ | exact one_string _) only [RXA, RXB, Nat.reduceAdd, Nat.reduceLT, wrap_id, wrap_succ, wrap_pred, FX1, Bool.false_and]
theorem r_Same (v u : Value) (L L2 : List (List Int)) (K K2 : List Int) (hv : Choi h n v L K) (hu : Choi h n u L2 K2) (hL : ShortL lf L) (hK : K.length < lf ∧ K.length ≤ 9223372036854775807) :
    Run (fun _ => False) n (evCall2 Tryd.prog gt lf (d + 3) 25 #[v, u]) h n fun v' h' n' => v' = .bool (decide (K = K2) && decide (L = L2)) := by
  obtain ⟨x, y, rfl, hx, hy⟩ := hv.ex
  obtain ⟨x2, y2, rfl, hx2, hy2⟩ := hu.ex
  rw [sh_balerref12_Same]
  refine Run.inside_ ?_
  unfold b_balerref12_Same
  refine run_box sz47 _ _ ?_
  refine run_box sz47 _ _ ?_
  have cl : ∀ {x y : Value} {L : List (List Int)} {K : List Int} {h : H} {n : Nat}, RR h n 22 3 x L → Row h n 3 .i64 y K → (Value.agg #[x, y]).cells.toList = [x, y] := fun hx hy => by
    obtain ⟨_, _, rfl⟩ := hx.len
    obtain ⟨_, _, rfl⟩ := hy.len
    rfl
  rw [cl hx hy, cl hx2 hy2]
  obtain ⟨h2, hh2⟩ : ∃ h2, (h.set n (some ⟨47, true, [x, y]⟩)).set (n + 1) (some ⟨47, true, [x2, y2]⟩) = h2 := ⟨_, rfl⟩
  have g1 : h2.get n = some ⟨47, true, [x, y]⟩ := by rw [← hh2, get_ne _ _ (by omega), get_eq]
  have g2 : h2.get (n + 1) = some ⟨47, true, [x2, y2]⟩ := by rw [← hh2, get_eq]
  have hk : ∀ b, b < n → h2.get b = h.get b := fun b hb => by rw [← hh2, get_ne _ _ (by omega), get_ne _ _ (by omega)]
  rw [hh2]
  have l1 : n < n + 1 + 1 := by omega
  have l2 : n + 1 < n + 1 + 1 := by omega
  try simp (disch := first | omega | assumption | exact one_int _ _ | exact one_slice _ _ _ | exact one_ptr _ | exact one_bool _ | exact one_string _) only [RXA, RXB, Nat.reduceAdd, Nat.reduceLT, wrap_id, wrap_succ, wrap_pred, FX1, g1, g2]
  refine run_same (r_Ints lf (d + 1) _ h2 y y2 K K2 (hy.keep (by omega) hk) (hy2.keep (by omega) hk) hK.1 hK.2) (by omega) (fun _ _ h => h.elim) ?_
  by_cases e : K = K2
  · rw [decide_eq_true e]
    try simp (disch := first | omega | assumption | exact one_int _ _ | exact one_slice _ _ _ | exact one_ptr _ | exact one_bool _ | exact one_string _) only [RXA, RXB, Nat.reduceAdd, Nat.reduceLT, wrap_id, wrap_succ, wrap_pred, FX1, g1, g2]
    refine run_same (r_Rows lf d _ h2 x x2 L L2 (hx.keep (by omega) hk) (hx2.keep (by omega) hk) hL.1.1 hL.1.2 hL.2) (by omega) (fun _ _ h => h.elim) ?_
    try simp (disch := first | omega | assumption | exact one_int _ _ | exact one_slice _ _ _ | exact one_ptr _ | exact one_bool _ | exact one_string _) only [RXA, RXB, Nat.reduceAdd, Nat.reduceLT, wrap_id, wrap_succ, wrap_pred, FX1, Bool.true_and]
  · rw [decide_eq_false e]
    try simp (disch := first | omega | assumption | exact one_int _ _ | exact one_slice _ _ _ | exact one_ptr _ | exact one_bool _ | exact one_string _) only [RXA, RXB, Nat.reduceAdd, Nat.reduceLT, wrap_id, wrap_succ, wrap_pred, FX1, Bool.false_and]
end
end Go.Proofs.YtdagfcflbphoiaaDoor
/- The statements TablesOf and TablesSame. -/
namespace Go.Proofs.YtdagfcflbphoiaaDoor
set_option linter.unusedVariables false
set_option linter.unusedSimpArgs false
open Go.RowKit Ev Tb

theorem the_law' {f : FuncId} {ts : List TypeId} {vs : List Value} {w : World} {lf d : Nat} (hw : Ev.GlobAt w) (ha : All2 (ArgR Tryd.prog w) ts vs) (r : ∀ n h vs0, Gd h n → All2 (ArgH Tryd.prog h n) ts vs0 → Run (fun _ => False) n (evCall2 Tryd.prog gt lf d f vs0.toArray) h n fun v _ _ => v = .bool true) :
    Calls Tryd.prog f vs.toArray w fun e w' => e = .returned (.bool true) ∧ Below w.heap.size w w' := by
  obtain ⟨m, x⟩ := laid_hG hw
  exact Ev.law_of ev_names ev_progK ev_mix known okd ha x fun n h vs0 hn hg q => r n h vs0 (Gd.of hn (by rw [hg _ (by decide +kernel)]; exact get_eq _ _ _)) q
theorem ct_ints : cellTs Tryd.prog 8 22 = some [22] := by kernel_rfl
theorem ct_int : cellTs Tryd.prog 8 3 = some [3] := by kernel_rfl
theorem ag_ints : isAggT Tryd.prog 22 = false := by kernel_rfl
theorem ag_int : isAggT Tryd.prog 3 = false := by kernel_rfl
theorem a_row {h : H} {n : Nat} {v : Value} (x : ArgH Tryd.prog h n 22 v) : ∃ xs, Row h n 3 .i64 v xs ∧ xs.length ≤ 9223372036854775807 ∧ ∀ y ∈ xs, -9223372036854775808 ≤ y ∧ y ≤ 9223372036854775807 := by
  obtain ⟨xs, h1, h2, h3⟩ := rep_row (f := 6) Tryd.underlying22 ct_int Tryd.underlying3 (argH_cell ct_ints ag_ints x)
  exact ⟨xs, h1, h2, fun y hy => wf64 (h3 y hy)⟩
theorem a_num {h : H} {n : Nat} {v : Value} (x : ArgH Tryd.prog h n 3 v) : ∃ i, v = .int .i64 i ∧ -9223372036854775808 ≤ i ∧ i ≤ 9223372036854775807 := by
  obtain ⟨i, h1, h2⟩ := rep_int (f := 7) Tryd.underlying3 (argH_cell ct_int ag_int x)
  exact ⟨i, h1, wf64 h2⟩
theorem Choi.agg {h : H} {n : Nat} {v : Value} {L : List (List Int)} {K : List Int} (x : Choi h n v L K) : ∃ a c a2 c2, v = .agg #[.slice a L.length c, .slice a2 K.length c2] ∧ RR h n 22 3 (.slice a L.length c) L ∧ Row h n 3 .i64 (.slice a2 K.length c2) K := by
  obtain ⟨x, y, rfl, h1, h2⟩ := x.ex
  have h10 := h1
  have h20 := h2
  obtain ⟨a, c, rfl⟩ := h1.len
  obtain ⟨a2, c2, rfl⟩ := h2.len
  exact ⟨a, c, a2, c2, rfl, h10, h20⟩
section
variable (lf d n : Nat) (h : H)
/-- the reference's form of a choice -/
theorem s_ref (v : Value) (L : List (List Int)) (K : List Int) (x : Choi h n v L K) : Run (fun _ => False) n (evCall2 Tryd.prog gt lf (d + 1) 26 #[v]) h n fun v' h' n' => v' = v := by
  obtain ⟨a, c, a2, c2, rfl, _, _⟩ := x.agg
  rw [sh_balerlaw12_ref]
  refine Run.inside_ ?_
  unfold b_balerlaw12_ref
  refine run_box sz25 _ _ ?_
  refine run_alloc zr47 _ ?_
  have g1 : ((h.set n (some ⟨25, true, (Value.agg #[.slice a L.length c, .slice a2 K.length c2]).cells.toList⟩)).set (n + 1) (some ⟨47, true, (Value.agg #[Value.slice none 0 0, Value.slice none 0 0]).cells.toList⟩)).get n = some ⟨25, true, [.slice a L.length c, .slice a2 K.length c2]⟩ := by rw [get_ne _ _ (by omega), get_eq]; rfl
  have l1 : n < n + 1 + 1 := by omega
  try simp (disch := first | omega | assumption | exact one_int _ _ | exact one_slice _ _ _ | exact one_ptr _ | exact one_bool _ | exact one_string _) only [RXA, RXB, Nat.reduceAdd, Nat.reduceLT, wrap_id, wrap_succ, wrap_pred, FX1, g1]
  refine run_sta (cs := [.slice none 0 0, .slice none 0 0]) sz47 (vs := [.slice a L.length c, .slice a2 K.length c2]) rfl rfl rfl (get_eq _ _ _) (by omega) (Nat.le_refl _) (.inl (by omega)) _ fun h5 hg5 k5 => ?_
  refine run_lda0 aga47 sz47 _ _ _ hg5 (by omega) (by simp) ?_
  try simp (disch := first | omega | assumption | exact one_int _ _ | exact one_slice _ _ _ | exact one_ptr _ | exact one_bool _ | exact one_string _) only [RXA, RXB, Nat.reduceAdd, Nat.reduceLT, wrap_id, wrap_succ, wrap_pred, FX1]
  rfl
variable (hlf : 3000000 ≤ lf) (hd : 700 ≤ d)
include hlf hd
theorem law_TOf (v : Value) (xs : List Int) (z : Int) (g : Gd h n) (hR : Row h n 3 .i64 v xs) (hL : xs.length ≤ 9223372036854775807) :
    Run (fun _ => False) n (evCall2 Tryd.prog gt lf d 6 #[v, .int .i64 z]) h n fun v' _ _ => v' = .bool true := by
  obtain ⟨d, rfl⟩ : ∃ e, d = e + 8 := ⟨d - 8, by omega⟩
  rw [sh_balerlaw12_TablesOf]
  refine Run.inside_ ?_
  unfold b_balerlaw12_TablesOf
  have hR0 := hR
  obtain ⟨a, c, rfl⟩ := hR.len
  by_cases c1 : 320 < xs.length
  · have e1 : (320 : Int) < ((xs.length : Nat) : Int) := by omega
    try simp (disch := first | omega | assumption | exact one_int _ _ | exact one_slice _ _ _ | exact one_ptr _ | exact one_bool _ | exact one_string _) only [RXA, RXB, Nat.reduceAdd, Nat.reduceLT, wrap_id, wrap_succ, wrap_pred, FX1, e1]
    exact run_three (Nat.le_refl n) g
  have e1 : ¬ (320 : Int) < ((xs.length : Nat) : Int) := by omega
  -- what follows
  by_cases c2 : 40 < z ∧ z ≤ 258
  · obtain ⟨e2, e3⟩ := c2
    try simp (disch := first | omega | assumption | exact one_int _ _ | exact one_slice _ _ _ | exact one_ptr _ | exact one_bool _ | exact one_string _) only [RXA, RXB, Nat.reduceAdd, Nat.reduceLT, wrap_id, wrap_succ, wrap_pred, FX1, e1, e2, e3]
    exact run_three (Nat.le_refl n) g
  have z1 : ((1 : Int) == 1) = true := rfl
  have z0 : ((0 : Int) == 0) = true := rfl
  by_cases ok : 3 ≤ z ∧ z ≤ 258 ∧ xs ≠ [] ∧ inB z xs = true
  · obtain ⟨h3, h258, hne, hin⟩ := ok
    obtain ⟨s, rfl⟩ : ∃ s : Nat, z = (s : Int) := ⟨z.toNat, by omega⟩
    have e2 : ¬ (40 : Int) < (s : Int) := by omega
    have hx0 : 0 < xs.length := List.length_pos_iff.2 hne
    have z3 : (((xs.length : Nat) : Int) == 0) = false := beq_eq_false_iff_ne.2 (by omega)
    try simp (disch := first | omega | assumption | exact one_int _ _ | exact one_slice _ _ _ | exact one_ptr _ | exact one_bool _ | exact one_string _) only [RXA, RXB, Nat.reduceAdd, Nat.reduceLT, wrap_id, wrap_succ, wrap_pred, FX1, e1, e2]
    refine run_call okd (s_TablesOf lf (d + 7) n h hlf _ xs s g hR0 hx0 (by omega) (by omega) (by omega) hin (by omega)) (Nat.le_refl n) (fun _ _ h => h.elim) fun v1 h1 n1 hn1 fr1 hq => ?_
    obtain ⟨x, y, rfl, hx, hy⟩ := hq
    have hR1 := hR0.keep hn1 fun b hb => fr1 b hb id
    have g1 := g.keep hn1 fun b hb => fr1 b hb id
    have hx1 := hx
    have hy1 := hy
    obtain ⟨a1, c1', rfl⟩ := hx.len
    obtain ⟨a2, c2', rfl⟩ := hy.len
    try simp (disch := first | omega | assumption | exact one_int _ _ | exact one_slice _ _ _ | exact one_ptr _ | exact one_bool _ | exact one_string _) only [RXA, RXB, Nat.reduceAdd, Nat.reduceLT, wrap_id, wrap_succ, wrap_pred, FX1, ext0, ext1]
    refine run_alloc zr25 _ ?_
    refine run_sta (cs := [.slice none 0 0, .slice none 0 0]) sz25 (vs := [.slice a1 (tabIt xs s 4).length c1', .slice a2 (picksI (groupsL xs) (tabIt xs s 3)).length c2']) rfl rfl rfl (get_eq _ _ _) (Nat.lt_succ_self n1) (Nat.le_refl _) (.inl (by omega)) _ fun h2 hg2 k2 => ?_
    have k2' : ∀ b, b < n1 → h2.get b = h1.get b := fun b hb => by rw [k2 b (by omega), get_ne _ _ (by omega)]
    have hR2 := hR1.keep (Nat.le_succ n1) k2'
    have g2 := g1.keep (Nat.le_succ n1) k2'
    have hx2 := hx1.keep (Nat.le_succ n1) k2'
    have hy2 := hy1.keep (Nat.le_succ n1) k2'
    try simp (disch := first | omega | assumption | exact one_int _ _ | exact one_slice _ _ _ | exact one_ptr _ | exact one_bool _ | exact one_string _) only [RXA, RXB, Nat.reduceAdd, Nat.reduceLT, wrap_id, wrap_succ, wrap_pred, FX1, z3]
    refine run_same (r_Size lf (d + 6) _ h2 (s : Int)) (by omega) (fun _ _ h => h.elim) ?_
    rw [decide_eq_true (show (3 : Int) ≤ (s : Int) from h3), decide_eq_true (show (s : Int) ≤ 258 from h258)]
    try simp (disch := first | omega | assumption | exact one_int _ _ | exact one_slice _ _ _ | exact one_ptr _ | exact one_bool _ | exact one_string _) only [RXA, RXB, Nat.reduceAdd, Nat.reduceLT, wrap_id, wrap_succ, wrap_pred, FX1, Bool.and_self, Bool.not_true]
    refine run_same (r_Of lf (d + 6) _ h2 hlf _ xs hR2 (by omega) (s : Int)) (by omega) (fun _ _ h => h.elim) ?_
    rw [hin]
    try simp (disch := first | omega | assumption | exact one_int _ _ | exact one_slice _ _ _ | exact one_ptr _ | exact one_bool _ | exact one_string _) only [RXA, RXB, Nat.reduceAdd, Nat.reduceLT, wrap_id, wrap_succ, wrap_pred, FX1, Bool.not_true, z0]
    refine run_lda aga25 sz25 _ _ _ hg2 (by omega) (by simp) ?_
    have ch2 : Choi h2 (n1 + 1) (.agg #[.slice a1 (tabIt xs s 4).length c1', .slice a2 (picksI (groupsL xs) (tabIt xs s 3)).length c2']) (tabIt xs s 4) (picksI (groupsL xs) (tabIt xs s 3)) := ⟨_, _, rfl, hx2, hy2⟩
    refine run_call okd (s_ref lf (d + 6) _ h2 _ _ _ ch2) (by omega) (fun _ _ h => h.elim) fun v3 h3' n3 hn3 fr3 hq3 => ?_
    subst hq3
    have ch3 := ch2.keep hn3 fun b hb => fr3 b hb id
    refine run_call okd (r_TablesOf lf (d + 7) n3 h3' hlf _ xs s (hR2.keep hn3 fun b hb => fr3 b hb id) hx0 (by omega) (by omega) (by omega) hin (by omega)) (by omega) (fun _ _ h => h.elim) fun v4 h4 n4 hn4 fr4 hq4 => ?_
    obtain ⟨x4, y4, rfl, hx4, hy4⟩ := hq4
    have kl : (picksI (groupsL xs) (tabIt xs s 3)).length ≤ 1000 := by rw [picksI_len, groupsL_len]; unfold grpN; omega
    have tl : (tabIt xs s 4).length ≤ 6 := by rw [tabIt_len]; exact (numL_ge _).2
    have tg := tabIt_good (by omega : xs.length ≤ 1000000) hin (by omega) (by omega) 4
    refine run_bool (b := true) ((r_Same lf (d + 4) n4 h4 _ _ _ _ _ _ (ch3.keep hn4 fun b hb => fr4 b hb id) ⟨_, _, rfl, hx4, hy4⟩ ⟨⟨by omega, by omega⟩, fun l hl => by have := (tg l hl).1; omega⟩ ⟨by omega, by omega⟩).mono fun v' _ _ _ e => by rw [e, decide_eq_true rfl, decide_eq_true rfl]; rfl) (by omega) fun h5 n5 hn5 fr5 => ?_
    try simp (disch := first | omega | assumption | exact one_int _ _ | exact one_slice _ _ _ | exact one_ptr _ | exact one_bool _ | exact one_string _) only [RXA, RXB, Nat.reduceAdd, Nat.reduceLT, wrap_id, wrap_succ, wrap_pred, FX1]
    exact run_three (by omega) (((g2.keep hn3 fun b hb => fr3 b hb id).keep hn4 fun b hb => fr4 b hb id).keep hn5 fr5)
  · have hno : z < 3 ∨ 258 < z ∨ xs = [] ∨ inB z xs = false := by
      by_cases q1 : z < 3
      · exact .inl q1
      by_cases q2 : 258 < z
      · exact .inr (.inl q2)
      by_cases q3 : xs = []
      · exact .inr (.inr (.inl q3))
      · refine .inr (.inr (.inr ?_))
        cases q4 : inB z xs with
        | false => rfl
        | true => exact absurd ⟨by omega, by omega, q3, q4⟩ ok
    -- what is told of the rest
    have tail : ∀ (h2 : H) (n1 : Nat), n ≤ n1 → (∀ b, b < n → h2.get b = h.get b) → h2.get n1 = some ⟨25, true, [.slice none 0 0, .slice none 0 0]⟩ →
        Run (fun _ => False) n ((inside (evLoad Tryd.prog 25 (.pointer (some ⟨n1, 0, none⟩)))).bind fun p => (inside (evCall2 Tryd.prog gt lf (d + 7) 24 #[p, .agg #[.slice none 0 0, .slice none 0 0]])).bind fun b => ifV b ((inside (evCall2 Tryd.prog gt lf (d + 7) 8 #[])).bind fun v => outK [v]) (outK [.bool false])) h2 (n1 + 1) fun v' _ _ => v' = .bool true := by
      intro h2 n1 hn k2 hg2
      refine run_lda aga25 sz25 _ _ _ hg2 (by omega) (by simp) ?_
      have ch : Choi h2 (n1 + 1) (.agg #[.slice none 0 0, .slice none 0 0]) [] [] := ⟨_, _, rfl, ⟨[], .inl ⟨none, 0, rfl, fun _ _ q => (nomatch q), rfl⟩, rfl, fun i hi => absurd hi (Nat.not_lt_zero i)⟩, .inl ⟨none, 0, rfl, fun _ _ q => (nomatch q), rfl⟩⟩
      try simp (disch := first | omega | assumption | exact one_int _ _ | exact one_slice _ _ _ | exact one_ptr _ | exact one_bool _ | exact one_string _) only [RXA, RXB, Nat.reduceAdd, Nat.reduceLT, wrap_id, wrap_succ, wrap_pred, FX1]
      refine run_bool (b := true) ((s_Same lf (d + 3) _ h2 _ _ [] [] [] [] ch ch ⟨⟨by simp; omega, by simp⟩, fun l hl => by cases hl⟩ ⟨by simp; omega, by simp⟩).mono fun v' _ _ _ e => by rw [e]; rfl) (by omega) fun h5 n5 hn5 fr5 => ?_
      try simp (disch := first | omega | assumption | exact one_int _ _ | exact one_slice _ _ _ | exact one_ptr _ | exact one_bool _ | exact one_string _) only [RXA, RXB, Nat.reduceAdd, Nat.reduceLT, wrap_id, wrap_succ, wrap_pred, FX1]
      exact run_three (by omega) ((g.keep (show n ≤ n1 + 1 by omega) k2).keep hn5 fr5)
    have call := s_TablesOf_no lf (d + 7) n h hlf _ xs z hR0 (by omega) hno (by omega)
    by_cases e2 : 40 < z
    · have e3 : ¬ z ≤ 258 := fun q => c2 ⟨e2, q⟩
      try simp (disch := first | omega | assumption | exact one_int _ _ | exact one_slice _ _ _ | exact one_ptr _ | exact one_bool _ | exact one_string _) only [RXA, RXB, Nat.reduceAdd, Nat.reduceLT, wrap_id, wrap_succ, wrap_pred, FX1, e1, e2, e3]
      refine run_call okd call (Nat.le_refl n) (fun _ _ h => h.elim) fun v1 h1 n1 hn1 fr1 hq => ?_
      subst hq
      try simp (disch := first | omega | assumption | exact one_int _ _ | exact one_slice _ _ _ | exact one_ptr _ | exact one_bool _ | exact one_string _) only [RXA, RXB, Nat.reduceAdd, Nat.reduceLT, wrap_id, wrap_succ, wrap_pred, FX1, ext0, ext1]
      refine run_alloc zr25 _ ?_
      refine run_sta (cs := [.slice none 0 0, .slice none 0 0]) sz25 (vs := [.slice none 0 0, .slice none 0 0]) rfl rfl rfl (get_eq _ _ _) (Nat.lt_succ_self n1) (Nat.le_refl _) (.inl (by omega)) _ fun h2 hg2 k2 => ?_
      have k2' : ∀ b, b < n → h2.get b = h.get b := fun b hb => by rw [k2 b (by omega), get_ne _ _ (by omega)]; exact fr1 b hb id
      by_cases q3 : xs = []
      · subst q3
        have z3 : (((0 : Nat) : Int) == 0) = true := rfl
        try simp (disch := first | omega | assumption | exact one_int _ _ | exact one_slice _ _ _ | exact one_ptr _ | exact one_bool _ | exact one_string _) only [RXA, RXB, Nat.reduceAdd, Nat.reduceLT, wrap_id, wrap_succ, wrap_pred, FX1, z3, z1]
        exact tail h2 n1 hn1 k2' hg2
      · have z3 : (((xs.length : Nat) : Int) == 0) = false := beq_eq_false_iff_ne.2 fun q => q3 (List.length_eq_zero_iff.1 (by omega))
        try simp (disch := first | omega | assumption | exact one_int _ _ | exact one_slice _ _ _ | exact one_ptr _ | exact one_bool _ | exact one_string _) only [RXA, RXB, Nat.reduceAdd, Nat.reduceLT, wrap_id, wrap_succ, wrap_pred, FX1, z3]
        refine run_same (r_Size lf (d + 6) _ h2 z) (by omega) (fun _ _ h => h.elim) ?_
        rw [decide_eq_false e3, Bool.and_false]
        try simp (disch := first | omega | assumption | exact one_int _ _ | exact one_slice _ _ _ | exact one_ptr _ | exact one_bool _ | exact one_string _) only [RXA, RXB, Nat.reduceAdd, Nat.reduceLT, wrap_id, wrap_succ, wrap_pred, FX1, Bool.not_false, z1]
        exact tail h2 n1 hn1 k2' hg2
    · try simp (disch := first | omega | assumption | exact one_int _ _ | exact one_slice _ _ _ | exact one_ptr _ | exact one_bool _ | exact one_string _) only [RXA, RXB, Nat.reduceAdd, Nat.reduceLT, wrap_id, wrap_succ, wrap_pred, FX1, e1, e2]
      refine run_call okd call (Nat.le_refl n) (fun _ _ h => h.elim) fun v1 h1 n1 hn1 fr1 hq => ?_
      subst hq
      try simp (disch := first | omega | assumption | exact one_int _ _ | exact one_slice _ _ _ | exact one_ptr _ | exact one_bool _ | exact one_string _) only [RXA, RXB, Nat.reduceAdd, Nat.reduceLT, wrap_id, wrap_succ, wrap_pred, FX1, ext0, ext1]
      refine run_alloc zr25 _ ?_
      refine run_sta (cs := [.slice none 0 0, .slice none 0 0]) sz25 (vs := [.slice none 0 0, .slice none 0 0]) rfl rfl rfl (get_eq _ _ _) (Nat.lt_succ_self n1) (Nat.le_refl _) (.inl (by omega)) _ fun h2 hg2 k2 => ?_
      have k2' : ∀ b, b < n → h2.get b = h.get b := fun b hb => by rw [k2 b (by omega), get_ne _ _ (by omega)]; exact fr1 b hb id
      by_cases q3 : xs = []
      · subst q3
        have z3 : (((0 : Nat) : Int) == 0) = true := rfl
        try simp (disch := first | omega | assumption | exact one_int _ _ | exact one_slice _ _ _ | exact one_ptr _ | exact one_bool _ | exact one_string _) only [RXA, RXB, Nat.reduceAdd, Nat.reduceLT, wrap_id, wrap_succ, wrap_pred, FX1, z3, z1]
        exact tail h2 n1 hn1 k2' hg2
      · have z3 : (((xs.length : Nat) : Int) == 0) = false := beq_eq_false_iff_ne.2 fun q => q3 (List.length_eq_zero_iff.1 (by omega))
        try simp (disch := first | omega | assumption | exact one_int _ _ | exact one_slice _ _ _ | exact one_ptr _ | exact one_bool _ | exact one_string _) only [RXA, RXB, Nat.reduceAdd, Nat.reduceLT, wrap_id, wrap_succ, wrap_pred, FX1, z3]
        refine run_same (r_Size lf (d + 6) _ h2 z) (by omega) (fun _ _ h => h.elim) ?_
        by_cases q1 : z < 3
        · rw [decide_eq_false (Int.not_le.2 q1), Bool.false_and]
          try simp (disch := first | omega | assumption | exact one_int _ _ | exact one_slice _ _ _ | exact one_ptr _ | exact one_bool _ | exact one_string _) only [RXA, RXB, Nat.reduceAdd, Nat.reduceLT, wrap_id, wrap_succ, wrap_pred, FX1, Bool.not_false, z1]
          exact tail h2 n1 hn1 k2' hg2
        · have q4 : inB z xs = false := by
            rcases hno with q | q | q | q
            · exact absurd q q1
            · omega
            · exact absurd q q3
            · exact q
          rw [decide_eq_true (show (3 : Int) ≤ z by omega), decide_eq_true (show z ≤ 258 by omega)]
          try simp (disch := first | omega | assumption | exact one_int _ _ | exact one_slice _ _ _ | exact one_ptr _ | exact one_bool _ | exact one_string _) only [RXA, RXB, Nat.reduceAdd, Nat.reduceLT, wrap_id, wrap_succ, wrap_pred, FX1, Bool.and_self, Bool.not_true]
          refine run_same (r_Of lf (d + 6) _ h2 hlf _ xs (hR0.keep (by omega) k2') (by omega) z) (by omega) (fun _ _ h => h.elim) ?_
          rw [q4]
          try simp (disch := first | omega | assumption | exact one_int _ _ | exact one_slice _ _ _ | exact one_ptr _ | exact one_bool _ | exact one_string _) only [RXA, RXB, Nat.reduceAdd, Nat.reduceLT, wrap_id, wrap_succ, wrap_pred, FX1, Bool.not_false, z1]
          exact tail h2 n1 hn1 k2' hg2
end
theorem call_TOf {w : World} (hw : Ev.GlobAt w) {vs : List Value} (ha : All2 (ArgR Tryd.prog w) [22, 3] vs) : Calls Tryd.prog 6 vs.toArray w fun e w' => e = .returned (.bool true) ∧ Below w.heap.size w w' :=
  the_law' (lf := 3000000) (d := 700) hw ha fun n h vs0 g q => by
    obtain ⟨a, b, rfl, h1, h2⟩ := Ev.all2_2 q
    obtain ⟨xs, hR, hl, _⟩ := a_row h1
    obtain ⟨z, rfl, _⟩ := a_num h2
    exact law_TOf 3000000 700 n h (by decide) (by decide) a xs z g hR hl
end Go.Proofs.YtdagfcflbphoiaaDoor

/- Layer 8 by the second form: the program's counts, groups, costs. -/
import Derived.Test.YtdagfcflbphoiaaDoorMal
import Derived.Test.YtdagfcflbphoiaaDoorMae
import Derived.Test.YtdagfcflbphoiaaDoorRows
import Derived.Test.YtdagfcflbphoiaaDoorMah
import Derived.Test.YtdagfcflbphoiaaDoorMai
import Derived.Test.YtdagfcflbphoiaaDoorMac
import Derived.MakeChecks
import Derived.OpenShut
import Derived.ChangeArms
namespace Go.Proofs.YtdagfcflbphoiaaDoor
set_option linter.unusedVariables false
set_option linter.unusedSimpArgs false
open Go.RowKit Ev Tb

theorem all_next {α : Type} (d : α) (p : α → Bool) {xs : List α} {i : Nat} (h : i < xs.length) : (xs.take (i + 1)).all p = ((xs.take i).all p && p (xs.getD i d)) := by
  rw [List.take_succ_eq_append_getElem h, List.all_append, List.getD_eq_getElem?_getD, List.getElem?_eq_getElem h]
  simp
theorem all_bad {α : Type} (d : α) (p : α → Bool) {xs : List α} {i : Nat} (h : i < xs.length) (hp : p (xs.getD i d) = false) : xs.all p = false := by
  rw [List.getD_eq_getElem?_getD, List.getElem?_eq_getElem h] at hp
  exact List.all_eq_false.2 ⟨_, List.getElem_mem h, by simpa using hp⟩
def inB (k : Int) (xs : List Int) : Bool := xs.all fun x => decide (0 ≤ x) && decide (x < k)
theorem inB_iff {k : Int} {xs : List Int} : inB k xs = true ↔ ∀ x ∈ xs, 0 ≤ x ∧ x < k := by unfold inB; simp
theorem gd_mem {xs : List Int} {i : Nat} (h : i < xs.length) : xs.getD i 0 ∈ xs := by
  rw [List.getD_eq_getElem?_getD, List.getElem?_eq_getElem h]
  exact List.getElem_mem h
theorem inB_neg {k : Int} {xs : List Int} {i : Nat} (h : i < xs.length) (h1 : xs.getD i 0 < 0) : inB k xs = false :=
  all_bad 0 _ h (by show (decide (0 ≤ xs.getD i 0) && decide (xs.getD i 0 < k)) = false; rw [decide_eq_false (Int.not_le.2 h1)]; rfl)
theorem inB_big {k : Int} {xs : List Int} {i : Nat} (h : i < xs.length) (h1 : k ≤ xs.getD i 0) : inB k xs = false :=
  all_bad 0 _ h (by show (decide (0 ≤ xs.getD i 0) && decide (xs.getD i 0 < k)) = false; rw [decide_eq_false (Int.not_lt.2 h1), Bool.and_false])
theorem inB_next {k x : Int} {xs : List Int} {i : Nat} (h : i < xs.length) (ha : inB k (xs.take i) = true) (hx : xs.getD i 0 = x) (h0 : 0 ≤ x) (h1 : x < k) : inB k (xs.take (i + 1)) = true := by
  unfold inB at ha ⊢
  rw [all_next 0 _ h, ha, hx, decide_eq_true h0, decide_eq_true h1]
  rfl
theorem w_next {i N : Nat} (h : i < N) (hN : N ≤ 9223372036854775807) : IntKind.i64.wrap ((i : Int) + 1) = ((i + 1 : Nat) : Int) := by rw [wrap_id (by omega) (by omega)]; rfl

section
variable (lf d n : Nat) (h : H)
theorem s_fmay (x : Int) : Run (fun _ => False) n (evCall2 Tryd.prog gt lf (d + 1) 61 #[.int .i64 x]) h n fun v' h' n' => v' = .bool (decide (0 ≤ x) && decide (x ≤ 1099511627776)) ∧ h' = h ∧ n' = n := by
  rw [sh_freq_may]
  refine Run.inside_ ?_
  unfold b_freq_may
  by_cases c : 0 ≤ x
  · try simp (disch := first | omega | assumption | exact one_int _ _ | exact one_slice _ _ _ | exact one_ptr _ | exact one_bool _ | exact one_string _) only [RXA, RXB, Nat.reduceAdd, Nat.reduceLT, wrap_id, wrap_succ, wrap_pred, FX1, c]
  · try simp (disch := first | omega | assumption | exact one_int _ _ | exact one_slice _ _ _ | exact one_ptr _ | exact one_bool _ | exact one_string _) only [RXA, RXB, Nat.reduceAdd, Nat.reduceLT, wrap_id, wrap_succ, wrap_pred, FX1, c]
theorem s_fall1 (x : Int) : Run (fun _ => False) n (evCall2 Tryd.prog gt lf (d + 2) 60 #[.int .i64 x]) h n fun v' h' n' => v' = .bool (!(decide (0 ≤ x) && decide (x ≤ 1099511627776))) ∧ h' = h ∧ n' = n := by
  rw [sh_freq_all_1]
  refine Run.inside_ ?_
  unfold b_freq_all_1
  refine run_same (s_fmay lf d n h x) (Nat.le_refl _) (fun _ _ h => h.elim) ?_
  try simp (disch := first | omega | assumption | exact one_int _ _ | exact one_slice _ _ _ | exact one_ptr _ | exact one_bool _ | exact one_string _) only [RXA, RXB, Nat.reduceAdd, Nat.reduceLT, wrap_id, wrap_succ, wrap_pred, FX1]
theorem callA {β : Type} {rec : FuncId → Array Value → M Value} (a : Value) (k : Value → M β) : callV Tryd.prog rec (.func (.func 60) #[] #[]) [a] k = (inside (rec 60 #[a])).bind k := by
  unfold callV
  show optK (some _) _ = _
  rw [optK_some_eq]
  simp only [show hasBody Tryd.prog 60 = true by kernel_rfl]
  rfl
variable (hlf : 3000000 ≤ lf)
include hlf
theorem s_all (v : Value) (xs : List Int) (hR : Row h n 3 .i64 v xs) (hl : xs.length ≤ 1000000) :
    Run (fun _ => False) n (evCall2 Tryd.prog gt lf (d + 5) 48 #[v]) h n fun v' h' n' => v' = .bool (allIn 0 1099511627776 xs) ∧ h' = h ∧ n' = n := by
  have s1 : Run (fun _ => False) n (evCall2 Tryd.prog gt lf (d + 3) 68 #[v, .func (.func 60) #[] #[]]) h n fun v' h' n' => (∃ r : Int, v' = .int .i64 r ∧ decide (0 ≤ r) = !allIn 0 1099511627776 xs) ∧ h' = h ∧ n' = n := by
    rw [sh_slices_IndexFunc_int_int]
    refine Run.inside_ ?_
    unfold b_slices_IndexFunc_int_int
    have hR0 := hR
    obtain ⟨a, c, rfl⟩ := hR.len
    try simp (disch := first | omega | assumption | exact one_int _ _ | exact one_slice _ _ _ | exact one_ptr _ | exact one_bool _ | exact one_string _) only [RXA, RXB, Nat.reduceAdd, Nat.reduceLT, wrap_id, wrap_succ, wrap_pred, FX1]
    refine run_for xs.length (fun fu i (_ : Unit) => lpA_slices_IndexFunc_int_int lf (d + 2) fu (kcA_slices_IndexFunc_int_int lf (d + 2)) (.slice a xs.length c) (.func (.func 60) #[] #[]) _ (.int .i64 (xs.length : Nat)) (.int .i64 (i : Nat))) (fun i _ h' n' => (h' = h ∧ n' = n) ∧ allIn 0 1099511627776 (xs.take i) = true) ?_ ?_ lf 0 () h n (Nat.zero_le _) (by omega) ⟨⟨rfl, rfl⟩, rfl⟩
    · rintro fu _ h' n' ⟨⟨rfl, rfl⟩, ha⟩
      rw [succA_slices_IndexFunc_int_int]
      try simp (disch := first | omega | assumption | exact one_int _ _ | exact one_slice _ _ _ | exact one_ptr _ | exact one_bool _ | exact one_string _) only [RXA, RXB, Nat.reduceAdd, Nat.reduceLT, wrap_id, wrap_succ, wrap_pred, FX1, Int.lt_irrefl]
      rw [kcAb_slices_IndexFunc_int_int]
      try simp (disch := first | omega | assumption | exact one_int _ _ | exact one_slice _ _ _ | exact one_ptr _ | exact one_bool _ | exact one_string _) only [RXA, RXB, Nat.reduceAdd, Nat.reduceLT, wrap_id, wrap_succ, wrap_pred, FX1]
      rw [List.take_length] at ha
      exact ⟨-1, rfl, by rw [ha]; rfl⟩
    · rintro fu i _ h' n' hi ⟨⟨rfl, rfl⟩, ha⟩ next
      obtain ⟨b, off, cap, o, cs, hv, hg, hb, _, _, _, hat⟩ := hR0.some (by omega)
      cases hv
      have e1 : ((i : Nat) : Int) < ((xs.length : Nat) : Int) := by omega
      have c1 := hat i hi
      have w1 := w_next hi (by omega)
      rw [succA_slices_IndexFunc_int_int]
      try simp (disch := first | omega | assumption | exact one_int _ _ | exact one_slice _ _ _ | exact one_ptr _ | exact one_bool _ | exact one_string _) only [RXA, RXB, Nat.reduceAdd, Nat.reduceLT, wrap_id, wrap_succ, wrap_pred, FX1, e1, hg, c1, callA]
      refine run_same (s_fall1 lf d n' h' (xs.getD i 0)) (Nat.le_refl _) (fun _ _ h => h.elim) ?_
      cases h1 : (decide (0 ≤ xs.getD i 0) && decide (xs.getD i 0 ≤ 1099511627776)) with
      | true =>
        try simp (disch := first | omega | assumption | exact one_int _ _ | exact one_slice _ _ _ | exact one_ptr _ | exact one_bool _ | exact one_string _) only [RXA, RXB, Nat.reduceAdd, Nat.reduceLT, wrap_id, wrap_succ, wrap_pred, FX1, Bool.not_true, w1]
        exact next () _ _ ⟨⟨rfl, rfl⟩, by unfold allIn at ha ⊢; rw [all_next 0 _ hi, ha, h1]; rfl⟩
      | false =>
        try simp (disch := first | omega | assumption | exact one_int _ _ | exact one_slice _ _ _ | exact one_ptr _ | exact one_bool _ | exact one_string _) only [RXA, RXB, Nat.reduceAdd, Nat.reduceLT, wrap_id, wrap_succ, wrap_pred, FX1, Bool.not_false]
        rw [kcAa_slices_IndexFunc_int_int]
        try simp (disch := first | omega | assumption | exact one_int _ _ | exact one_slice _ _ _ | exact one_ptr _ | exact one_bool _ | exact one_string _) only [RXA, RXB, Nat.reduceAdd, Nat.reduceLT, wrap_id, wrap_succ, wrap_pred, FX1]
        have : allIn 0 1099511627776 xs = false := all_bad 0 _ hi h1
        exact ⟨(i : Nat), rfl, by rw [this]; simp⟩
  have s2 : Run (fun _ => False) n (evCall2 Tryd.prog gt lf (d + 4) 59 #[v, .func (.func 60) #[] #[]]) h n fun v' h' n' => v' = .bool (!allIn 0 1099511627776 xs) ∧ h' = h ∧ n' = n := by
    rw [sh_slices_ContainsFunc_int_int]
    refine Run.inside_ ?_
    unfold b_slices_ContainsFunc_int_int
    refine run_call okd s1 (Nat.le_refl _) (fun _ _ h => h.elim) fun v' h' n' _ _ hq => ?_
    obtain ⟨⟨r, rfl, hr⟩, rfl, rfl⟩ := hq
    try simp (disch := first | omega | assumption | exact one_int _ _ | exact one_slice _ _ _ | exact one_ptr _ | exact one_bool _ | exact one_string _) only [RXA, RXB, Nat.reduceAdd, Nat.reduceLT, wrap_id, wrap_succ, wrap_pred, FX1]
    rw [hr]
  rw [sh_freq_all]
  refine Run.inside_ ?_
  unfold b_freq_all
  refine run_same s2 (Nat.le_refl _) (fun _ _ h => h.elim) ?_
  rw [u_not, optK_some_eq, Bool.not_not]
  try simp (disch := first | omega | assumption | exact one_int _ _ | exact one_slice _ _ _ | exact one_ptr _ | exact one_bool _ | exact one_string _) only [RXA, RXB, Nat.reduceAdd, Nat.reduceLT, wrap_id, wrap_succ, wrap_pred, FX1]
omit hlf in
theorem s_together (a b : Int) (h0 : 0 ≤ a + b) (h1 : a + b ≤ 9223372036854775807) : Run (fun _ => False) n (evCall2 Tryd.prog gt lf (d + 1) 49 #[.int .i64 a, .int .i64 b]) h n fun v' h' n' => v' = .int .i64 (capI (a + b)) ∧ h' = h ∧ n' = n := by
  rw [sh_freq_together]
  refine Run.inside_ ?_
  unfold b_freq_together
  have w : IntKind.i64.wrap (a + b) = a + b := wrap_id (by omega) (by omega)
  try simp (disch := first | omega | assumption | exact one_int _ _ | exact one_slice _ _ _ | exact one_ptr _ | exact one_bool _ | exact one_string _) only [RXA, RXB, Nat.reduceAdd, Nat.reduceLT, wrap_id, wrap_succ, wrap_pred, FX1, w]
  all_goals (first | rfl | exact ⟨rfl, rfl, rfl⟩ | exact ⟨rfl, rfl⟩)
/-- what a row costs by lengths, or why it is not told -/
theorem s_fCost (v u : Value) (xs ls : List Int) (hR : Row h n 3 .i64 v xs) (hL : Row h n 3 .i64 u ls) (hl : xs.length ≤ 1000000) (hl2 : ls.length ≤ 1000000) :
    Run (fun _ => False) n (evCall2 Tryd.prog gt lf (d + 6) 31 #[v, u]) h n fun v' h' n' => v' = (if allIn 0 1099511627776 ls = true ∧ inB ls.length xs = true then .tuple #[.int .i64 (costL xs ls), .int .i64 0] else .tuple #[.int .i64 0, .int .i64 1]) ∧ h' = h ∧ n' = n := by
  obtain ⟨r, hr⟩ : ∃ r : Value, (if allIn 0 1099511627776 ls = true ∧ inB ls.length xs = true then Value.tuple #[.int .i64 (costL xs ls), .int .i64 0] else .tuple #[.int .i64 0, .int .i64 1]) = r := ⟨_, rfl⟩
  rw [hr]
  rw [sh_freq_Cost]
  refine Run.inside_ ?_
  unfold b_freq_Cost
  refine run_same (s_all lf d n h hlf u ls hL hl2) (Nat.le_refl _) (fun _ _ h => h.elim) ?_
  cases hm : allIn 0 1099511627776 ls with
  | false =>
    rw [if_neg (by rw [hm]; simp)] at hr
    try simp (disch := first | omega | assumption | exact one_int _ _ | exact one_slice _ _ _ | exact one_ptr _ | exact one_bool _ | exact one_string _) only [RXA, RXB, Nat.reduceAdd, Nat.reduceLT, wrap_id, wrap_succ, wrap_pred, FX1, Bool.not_false]
    rw [← hr]
  | true =>
    have hm' := allIn_iff.1 hm
    have hR0 := hR
    have hL0 := hL
    obtain ⟨a, c, rfl⟩ := hR.len
    obtain ⟨a2, c2, rfl⟩ := hL.len
    try simp (disch := first | omega | assumption | exact one_int _ _ | exact one_slice _ _ _ | exact one_ptr _ | exact one_bool _ | exact one_string _) only [RXA, RXB, Nat.reduceAdd, Nat.reduceLT, wrap_id, wrap_succ, wrap_pred, FX1, Bool.not_true]
    refine run_for xs.length (fun fu i (a : Int) => lpA_freq_Cost lf (d + 5) fu (kcA_freq_Cost lf (d + 5)) _ _ (.int .i64 0) (.int .i64 0) (.int .i64 a) (.bool false) _ (.int .i64 (xs.length : Nat)) (.int .i64 (i : Nat))) (fun i a h' n' => (h' = h ∧ n' = n) ∧ a = costL (xs.take i) ls ∧ inB ls.length (xs.take i) = true) ?_ ?_ lf 0 0 h n (Nat.zero_le _) (by omega) ⟨⟨rfl, rfl⟩, rfl, rfl⟩
    · rintro fu q h' n' ⟨⟨rfl, rfl⟩, rfl, ha⟩
      rw [succA_freq_Cost]
      try simp (disch := first | omega | assumption | exact one_int _ _ | exact one_slice _ _ _ | exact one_ptr _ | exact one_bool _ | exact one_string _) only [RXA, RXB, Nat.reduceAdd, Nat.reduceLT, wrap_id, wrap_succ, wrap_pred, FX1, Int.lt_irrefl]
      rw [kcAb_freq_Cost]
      try simp (disch := first | omega | assumption | exact one_int _ _ | exact one_slice _ _ _ | exact one_ptr _ | exact one_bool _ | exact one_string _) only [RXA, RXB, Nat.reduceAdd, Nat.reduceLT, wrap_id, wrap_succ, wrap_pred, FX1]
      rw [List.take_length] at ha ⊢
      rw [← hr, if_pos ⟨hm, ha⟩]
    · rintro fu i q h' n' hi ⟨⟨rfl, rfl⟩, rfl, ha⟩ next
      obtain ⟨b, off, cap, o, cs, hv, hg, hb, _, _, _, hat⟩ := hR0.some (by omega)
      cases hv
      have e1 : ((i : Nat) : Int) < ((xs.length : Nat) : Int) := by omega
      have c1 := hat i hi
      have w1 := w_next hi (by omega)
      rw [succA_freq_Cost]
      by_cases h1 : xs.getD i 0 < 0
      · have hb : inB ls.length xs = false := inB_neg hi h1
        try simp (disch := first | omega | assumption | exact one_int _ _ | exact one_slice _ _ _ | exact one_ptr _ | exact one_bool _ | exact one_string _) only [RXA, RXB, Nat.reduceAdd, Nat.reduceLT, wrap_id, wrap_succ, wrap_pred, FX1, e1, hg, c1, h1]
        rw [kcAa_freq_Cost]
        try simp (disch := first | omega | assumption | exact one_int _ _ | exact one_slice _ _ _ | exact one_ptr _ | exact one_bool _ | exact one_string _) only [RXA, RXB, Nat.reduceAdd, Nat.reduceLT, wrap_id, wrap_succ, wrap_pred, FX1]
        rw [← hr, if_neg (by rw [hb]; simp)]
      · by_cases h2 : ((ls.length : Nat) : Int) ≤ xs.getD i 0
        · have hb : inB ls.length xs = false := inB_big hi h2
          try simp (disch := first | omega | assumption | exact one_int _ _ | exact one_slice _ _ _ | exact one_ptr _ | exact one_bool _ | exact one_string _) only [RXA, RXB, Nat.reduceAdd, Nat.reduceLT, wrap_id, wrap_succ, wrap_pred, FX1, e1, hg, c1, h1, h2]
          rw [kcAa_freq_Cost]
          try simp (disch := first | omega | assumption | exact one_int _ _ | exact one_slice _ _ _ | exact one_ptr _ | exact one_bool _ | exact one_string _) only [RXA, RXB, Nat.reduceAdd, Nat.reduceLT, wrap_id, wrap_succ, wrap_pred, FX1]
          rw [← hr, if_neg (by rw [hb]; simp)]
        · obtain ⟨b2, off2, cap2, o2, cs2, hv2, hg2, hb2, _, _, _, hat2⟩ := hL0.some (by omega)
          cases hv2
          obtain ⟨x, hx⟩ : ∃ x : Nat, xs.getD i 0 = (x : Int) := ⟨(xs.getD i 0).toNat, by omega⟩
          have c2 := hat2 x (by omega)
          have hy := hm' (ls.getD x 0) (gd_mem (by omega))
          have e3 : (x : Int) < ((ls.length : Nat) : Int) := by omega
          have e4 : ¬ ((ls.length : Nat) : Int) ≤ (x : Int) := by omega
          have e5 : ¬ ((x : Int) < 0) := by omega
          have k1 := costL_ge (l := xs.take i) fun y hy => (hm' y hy).1
          have k2 := costL_le (xs.take i) ls
          have k3 := capNext (l := xs) (fun y hy => (hm' y hy).1) hi
          rw [hx] at c1 k3
          have k4 : Tb.look ls (x : Int) = ls.getD x 0 := by unfold Tb.look; rw [Int.toNat_natCast]
          try simp (disch := first | omega | assumption | exact one_int _ _ | exact one_slice _ _ _ | exact one_ptr _ | exact one_bool _ | exact one_string _) only [RXA, RXB, Nat.reduceAdd, Nat.reduceLT, wrap_id, wrap_succ, wrap_pred, FX1, e1, hg, c1, e4, e5, e3, hg2, c2]
          refine run_same (s_together lf (d + 4) n' h' _ _ (by omega) (by omega)) (Nat.le_refl _) (fun _ _ h => h.elim) ?_
          try simp (disch := first | omega | assumption | exact one_int _ _ | exact one_slice _ _ _ | exact one_ptr _ | exact one_bool _ | exact one_string _) only [RXA, RXB, Nat.reduceAdd, Nat.reduceLT, wrap_id, wrap_succ, wrap_pred, FX1, w1]
          exact next _ _ _ ⟨⟨rfl, rfl⟩, by rw [← k4, k3], inB_next hi ha hx (by omega) e3⟩
end
end Go.Proofs.YtdagfcflbphoiaaDoor
/- The merging of weights as a plain thing: which two are taken at each step, and what is left. No program in sight. -/
namespace Go.Proofs.YtdagfcflbphoiaaDoor
set_option linter.unusedVariables false
set_option linter.unusedSimpArgs false
open Hu

/-- what waits behind k joins -/
def wt (n k : Nat) (t : HT) : List Nat := t.leaves ++ List.range' t.joined (n + k - t.joined)
structure Srt (n k : Nat) (last : Int) (t : HT) : Prop where
  ls : t.leaves.Pairwise (RI (wAt t))
  js : ∀ i j, n ≤ i → i ≤ j → j < n + k → wAt t i ≤ wAt t j
  mx : ∀ i, n ≤ i → i < n + k → wAt t i ≤ 2 * last
  lo : ∀ x ∈ wt n k t, last ≤ wAt t x
  l0 : 0 ≤ last

theorem take_w (t : HT) : wAt (taken t) = wAt t := by
  unfold taken
  split <;> rfl
theorem take_min {n k : Nat} {P : List Nat} {S last : Int} {t : HT} (h : OkH n k P S t) (s : Srt n k last t) (h1 : 1 ≤ t.leaves.length + (n + k - t.joined)) :
    (wt n k t).Perm (Hu.leastOf t :: wt n k (taken t)) ∧ (∀ x ∈ wt n k (taken t), RI (wAt t) (Hu.leastOf t) x) ∧ Srt n k (wAt t (Hu.leastOf t)) (taken t) ∧ last ≤ wAt t (Hu.leastOf t) := by
  have key : (wt n k t).Perm (Hu.leastOf t :: wt n k (taken t)) ∧ (∀ x ∈ wt n k (taken t), RI (wAt t) (Hu.leastOf t) x) ∧ (taken t).leaves.Pairwise (RI (wAt t)) := by
    cases hl : isLeaf t with
    | true =>
      obtain ⟨r, e1, e2, e3⟩ := isLeaf_true h h1 hl
      have hls := s.ls
      generalize Hu.leastOf t = a at *
      rw [e1, List.pairwise_cons] at hls
      rw [e2]
      refine ⟨by unfold wt; rw [e1]; exact .refl _, fun x hx => ?_, hls.2⟩
      unfold wt at hx
      rcases List.mem_append.1 hx with h2 | h2
      · exact hls.1 x h2
      · have h2 := List.mem_range'_1.1 h2
        have h2 : t.joined ≤ x ∧ x < t.joined + (n + k - t.joined) := h2
        have hjl := h.jl
        unfold isLeaf at hl
        rw [Bool.or_eq_true, beq_iff_eq, Bool.and_eq_true, decide_eq_true_iff, decide_eq_true_iff] at hl
        rcases hl with hl | ⟨_, hl⟩
        · have := h.wl; omega
        · have e4 : t.leaves.getD 0 0 = a := by rw [e1]; rfl
          rw [e4] at hl
          have := s.js t.joined x hjl h2.1 (by omega)
          unfold RI
          omega
    | false =>
      obtain ⟨e1, e2, e3⟩ := isLeaf_false h hl
      rw [e3, e1]
      have hjl := h.jl
      refine ⟨?_, fun x hx => ?_, s.ls⟩
      · unfold wt
        obtain ⟨d, hd⟩ : ∃ d, n + k - t.joined = d + 1 := ⟨n + k - t.joined - 1, by omega⟩
        rw [hd, List.range'_succ]
        show (t.leaves ++ t.joined :: List.range' (t.joined + 1) d).Perm (t.joined :: (t.leaves ++ List.range' (t.joined + 1) (n + k - (t.joined + 1))))
        rw [show n + k - (t.joined + 1) = d by omega]
        exact List.perm_middle
      · unfold wt at hx
        rcases List.mem_append.1 hx with h2 | h2
        · have h2 : x ∈ t.leaves := h2
          have h0 : 0 < t.leaves.length := List.length_pos_of_mem h2
          unfold isLeaf at hl
          rw [Bool.or_eq_false_iff, Bool.and_eq_false_iff] at hl
          have hlt : ¬ wAt t (t.leaves.getD 0 0) ≤ wAt t t.joined := by
            rcases hl.2 with q | q
            · simp only [h0, decide_true] at q; cases q
            · exact of_decide_eq_false q
          obtain ⟨y, r, e⟩ := List.exists_cons_of_length_pos h0
          have hls := s.ls
          rw [e] at h2 hls hlt
          rw [List.pairwise_cons] at hls
          have hlt : ¬ wAt t y ≤ wAt t t.joined := hlt
          rcases List.mem_cons.1 h2 with q | q
          · subst q; unfold RI; omega
          · have := hls.1 x q
            unfold RI at this ⊢
            omega
        · have h2 := List.mem_range'_1.1 h2
          have h2 : t.joined + 1 ≤ x ∧ x < t.joined + 1 + (n + k - (t.joined + 1)) := h2
          have := s.js t.joined x hjl (by omega) (by omega)
          unfold RI
          omega
  obtain ⟨k1, k2, k3⟩ := key
  have hlo : last ≤ wAt t (Hu.leastOf t) := s.lo _ (k1.mem_iff.2 (by simp))
  refine ⟨k1, k2, ⟨by rw [take_w]; exact k3, by rw [take_w]; exact s.js, fun i h2 h3 => by rw [take_w]; have := s.mx i h2 h3; omega, fun x hx => ?_, by have := s.l0; omega⟩, hlo⟩
  rw [take_w]
  have := k2 x hx
  unfold RI at this
  omega

theorem join_w {n k : Nat} {P : List Nat} {S : Int} {t : HT} (h : OkH n k P S t) (a b : Nat) : (∀ i, i < n + k → wAt (joinH t a b) i = wAt t i) ∧ wAt (joinH t a b) (n + k) = wAt t a + wAt t b := by
  refine ⟨fun i hi => getD_app_left _ _ _ (by rw [h.wl]; exact hi), ?_⟩
  unfold wAt joinH
  rw [List.getD_eq_getElem?_getD, List.getElem?_append_right (by rw [h.wl]; exact Nat.le_refl _), h.wl, Nat.sub_self]
  rfl
theorem wt_lt {n k : Nat} {P : List Nat} {S : Int} {t : HT} (h : OkH n k P S t) : ∀ x ∈ wt n k t, x < n + k := fun x hx => by
  unfold wt at hx
  rcases List.mem_append.1 hx with h2 | h2
  · have := h.leaf x h2; omega
  · have := List.mem_range'_1.1 h2; have := h.jh; omega

/-- a step: what is taken, what is left -/
structure Step (n k : Nat) (a b : Nat) (r : List Nat) (t t' : HT) : Prop where
  perm : (wt n k t).Perm (a :: b :: r)
  next : (wt n (k + 1) t').Perm ((n + k) :: r)
  old : ∀ i, i < n + k → wAt t' i = wAt t i
  new : wAt t' (n + k) = wAt t a + wAt t b
  mA : ∀ x ∈ b :: r, RI (wAt t) a x
  mB : ∀ x ∈ r, RI (wAt t) b x
  ia : t'.into.getD a 0 = ((n + k : Nat) : Int)
  ib : t'.into.getD b 0 = ((n + k : Nat) : Int)
  io : ∀ i, i < n + k → i ∉ wt n k t → t'.into.getD i 0 = t.into.getD i 0
theorem step_all {n k : Nat} {S last : Int} {t : HT} (h : OkH n k [] S t) (s : Srt n k last t) (hk : k + 2 ≤ n) : ∃ last', Srt n (k + 1) last' (stepH t) ∧ Step n k (Hu.leastOf t) (Hu.leastOf (taken t)) (wt n k (taken (taken t))) t (stepH t) := by
  obtain ⟨h1, a1, h2, a2, h3, _⟩ := step_ok h hk
  have hl := h.left
  have hl1 := h1.left
  simp only [List.length_cons, List.length_nil] at hl hl1
  obtain ⟨p1, m1, s1, q1⟩ := take_min h s (by omega)
  obtain ⟨p2, m2, s2, q2⟩ := take_min h1 s1 (by omega)
  rw [take_w] at m2 s2 q2
  have w2 : wAt (taken (taken t)) = wAt t := by rw [take_w, take_w]
  unfold stepH at h3 ⊢
  generalize Hu.leastOf t = a at *
  generalize Hu.leastOf (taken t) = b at *
  obtain ⟨jo, jn⟩ := join_w h2 a b
  rw [w2] at jo jn
  have hjh := h2.jh
  have hjl := h2.jl
  have nx : wt n (k + 1) (joinH (taken (taken t)) a b) = wt n k (taken (taken t)) ++ [n + k] := by
    unfold wt
    show (taken (taken t)).leaves ++ List.range' (taken (taken t)).joined (n + (k + 1) - (taken (taken t)).joined) = _
    rw [show n + (k + 1) - (taken (taken t)).joined = (n + k - (taken (taken t)).joined) + 1 by omega, List.range'_concat, ← List.append_assoc]
    rw [show (taken (taken t)).joined + 1 * (n + k - (taken (taken t)).joined) = n + k by omega]
  have hb1 : b ∈ wt n k (taken t) := p2.mem_iff.2 (by simp)
  have hpos := fun i hi => (h.pos i hi).1
  have pa := hpos a a1
  have hl0 := s.l0
  refine ⟨wAt t b, ⟨?_, fun i j hi hij hj => ?_, fun i hi hj => ?_, fun x hx => ?_, by omega⟩, ⟨p1.trans (p2.cons a), by rw [nx]; exact List.perm_append_singleton _ _, jo, jn, fun x hx => m1 x (p2.mem_iff.2 hx), m2, ?_, ?_, fun i hi hn => ?_⟩⟩
  · have hp := s2.ls
    rw [w2] at hp
    refine hp.imp_of_mem (S := RI (wAt (joinH (taken (taken t)) a b))) fun {x y} hx hy hr => ?_
    have := h2.leaf x hx
    have := h2.leaf y hy
    unfold RI at hr ⊢
    rw [jo x (by omega), jo y (by omega)]
    exact hr
  · by_cases e : j < n + k
    · rw [jo i (by omega), jo j e]
      exact s.js i j hi hij e
    · obtain rfl : j = n + k := by omega
      by_cases e2 : i < n + k
      · rw [jo i e2, jn]
        have := s.mx i hi e2
        omega
      · obtain rfl : i = n + k := by omega
        omega
  · by_cases e : i < n + k
    · rw [jo i e]
      have := s.mx i hi e
      omega
    · obtain rfl : i = n + k := by omega
      rw [jn]
      omega
  · rw [nx] at hx
    rcases List.mem_append.1 hx with q | q
    · rw [jo x (wt_lt h2 x q)]
      have := m2 x q
      unfold RI at this
      omega
    · obtain rfl : x = n + k := by simpa using q
      rw [jn]
      omega
  all_goals
    have e1 : ∀ i, i < n + k → (joinH (taken (taken t)) a b).into.getD i 0 = if i = b then ((n + k : Nat) : Int) else if i = a then ((n + k : Nat) : Int) else t.into.getD i 0 := fun i hi => by
      have il : (taken (taken t)).into.length = n + k := h2.il
      have ti : (taken (taken t)).into = t.into := by unfold taken; split <;> split <;> rfl
      unfold joinH
      simp only
      rw [getD_app_left _ _ _ (by simp [il]; exact hi), getD_setI, getD_setI, h2.wl, ti]
      rw [ti] at il
      simp only [List.length_set, il]
      by_cases eb : i = b
      · subst eb; simp [hi]
      · by_cases ea : i = a
        · subst ea; simp [hi, eb, Ne.symm eb]
        · simp [ea, eb, Ne.symm ea, Ne.symm eb]
  · rw [e1 a a1]; split <;> simp
  · rw [e1 b a2, if_pos rfl]
  · have hb : b ∈ wt n k t := p1.mem_iff.2 (by simp [hb1])
    have ha : a ∈ wt n k t := p1.mem_iff.2 (by simp)
    rw [e1 i hi, if_neg (fun e => hn (by rw [e]; exact hb)), if_neg (fun e => hn (by rw [e]; exact ha))]

theorem run_all {ws : List Int} {D : List Nat} (hN : 2 ≤ ws.length) (hp : D.Perm (List.range ws.length)) (hs : D.Pairwise (RI (keyW ws))) (hw : ∀ x ∈ ws, 0 ≤ x) : ∀ k, k + 1 ≤ ws.length → OkH ws.length k [] (sumI ws) (runH k (Start ws D)) ∧ ∃ last, Srt ws.length k last (runH k (Start ws D)) := by
  intro k
  induction k with
  | zero =>
    intro _
    have h0 := start_ok hp hw rfl
    refine ⟨h0, 0, hs, fun i j h1 h2 h3 => by omega, fun i h1 h2 => by omega, fun x hx => (h0.pos x (wt_lt h0 x hx)).1, Int.le_refl _⟩
  | succ k ih =>
    intro hk
    obtain ⟨h, last, s⟩ := ih (by omega)
    rw [run_succ]
    obtain ⟨last', s', _⟩ := step_all h s hk
    exact ⟨(step_ok h hk).2.2.2.2.1, last', s'⟩
theorem run_step {ws : List Int} {D : List Nat} (hN : 2 ≤ ws.length) (hp : D.Perm (List.range ws.length)) (hs : D.Pairwise (RI (keyW ws))) (hw : ∀ x ∈ ws, 0 ≤ x) (k : Nat) (hk : k + 2 ≤ ws.length) :
    Step ws.length k (Hu.leastOf (runH k (Start ws D))) (Hu.leastOf (taken (runH k (Start ws D)))) (wt ws.length k (taken (taken (runH k (Start ws D))))) (runH k (Start ws D)) (runH (k + 1) (Start ws D)) := by
  obtain ⟨h, last, s⟩ := run_all hN hp hs hw k (by omega)
  obtain ⟨last', _, r⟩ := step_all h s hk
  rw [run_succ]
  exact r

/-- the merging of N weights: w: the weights of all trees; I: into which one each is joined; A, B: the two that are taken at each step; X: what waits; R: what is left -/
structure Merge (N : Nat) (w : Nat → Int) (I : Nat → Nat) (A B : Nat → Nat) (X R : Nat → List Nat) : Prop where
  two : 2 ≤ N
  x0 : (X 0).Perm (List.range N)
  st : ∀ k, k + 2 ≤ N → (X k).Perm (A k :: B k :: R k)
  nx : ∀ k, k + 2 ≤ N → (X (k + 1)).Perm ((N + k) :: R k)
  wn : ∀ k, k + 2 ≤ N → w (N + k) = w (A k) + w (B k)
  ia : ∀ k, k + 2 ≤ N → I (A k) = N + k
  ib : ∀ k, k + 2 ≤ N → I (B k) = N + k
  mA : ∀ k, k + 2 ≤ N → ∀ x ∈ B k :: R k, RI w (A k) x
  mB : ∀ k, k + 2 ≤ N → ∀ x ∈ R k, RI w (B k) x
  mono : ∀ i j, N ≤ i → i ≤ j → j ≤ 2 * N - 2 → w i ≤ w j
  pos : ∀ i, i ≤ 2 * N - 2 → 0 ≤ w i
section
variable {N : Nat} {X R : Nat → List Nat} {A B : Nat → Nat}
theorem x_lt (x0 : (X 0).Perm (List.range N)) (st : ∀ k, k + 2 ≤ N → (X k).Perm (A k :: B k :: R k)) (nx : ∀ k, k + 2 ≤ N → (X (k + 1)).Perm ((N + k) :: R k)) : ∀ k, k + 1 ≤ N → (∀ x ∈ X k, x < N + k) ∧ (X k).Nodup ∧ (X k).length = N - k := by
  intro k
  induction k with
  | zero =>
    intro _
    exact ⟨fun x hx => by have := List.mem_range.1 (x0.mem_iff.1 hx); omega, x0.nodup_iff.2 List.nodup_range, by rw [x0.length_eq, List.length_range]; omega⟩
  | succ k ih =>
    intro hk
    obtain ⟨h1, h2, h3⟩ := ih (by omega)
    have p := st k hk
    have q := nx k hk
    have hr : ∀ x ∈ R k, x ∈ X k := fun x hx => p.mem_iff.2 (by simp [hx])
    have hnd := p.nodup_iff.1 h2
    refine ⟨fun x hx => ?_, q.nodup_iff.2 (List.nodup_cons.2 ⟨fun hm => ?_, (List.nodup_cons.1 (List.nodup_cons.1 hnd).2).2⟩), ?_⟩
    · rcases List.mem_cons.1 (q.mem_iff.1 hx) with e | e
      · omega
      · have := h1 x (hr x e); omega
    · have := h1 _ (hr _ hm); omega
    · have l1 := p.length_eq
      have l2 := q.length_eq
      simp only [List.length_cons] at l1 l2
      omega
end
theorem merge_of {ws : List Int} {D : List Nat} (hN : 2 ≤ ws.length) (hp : D.Perm (List.range ws.length)) (hs : D.Pairwise (RI (keyW ws))) (hw : ∀ x ∈ ws, 0 ≤ x) : ∃ A B X R, Merge ws.length (wAt (treeOf ws D)) (fun i => ((treeOf ws D).into.getD i 0).toNat) A B X R ∧ ∀ i, i < ws.length → wAt (treeOf ws D) i = ws.getD i 0 := by
  have all := run_all hN hp hs hw
  have stp := run_step hN hp hs hw
  have wfin : ∀ d k, k + d + 1 = ws.length → ∀ i, i < ws.length + k → wAt (treeOf ws D) i = wAt (runH k (Start ws D)) i := by
    intro d
    induction d with
    | zero =>
      intro k hk i hi
      unfold treeOf
      rw [show ws.length - 1 = k by omega]
    | succ d ih =>
      intro k hk i hi
      rw [ih (k + 1) (by omega) i (by omega)]
      exact (stp k (by omega)).old i hi
  have x0 : (wt ws.length 0 (runH 0 (Start ws D))).Perm (List.range ws.length) := by
    show (D ++ List.range' ws.length (ws.length + 0 - ws.length)).Perm _
    rw [Nat.add_zero, Nat.sub_self, List.range'_zero, List.append_nil]
    exact hp
  have xl := x_lt (X := fun k => wt ws.length k (runH k (Start ws D))) (R := fun k => wt ws.length k (taken (taken (runH k (Start ws D))))) (A := fun k => Hu.leastOf (runH k (Start ws D))) (B := fun k => Hu.leastOf (taken (runH k (Start ws D)))) x0 (fun k hk => (stp k hk).perm) (fun k hk => (stp k hk).next)
  have ifin : ∀ d k, k + d + 1 = ws.length → ∀ i, i < ws.length + k → i ∉ wt ws.length k (runH k (Start ws D)) → (treeOf ws D).into.getD i 0 = (runH k (Start ws D)).into.getD i 0 := by
    intro d
    induction d with
    | zero =>
      intro k hk i hi _
      unfold treeOf
      rw [show ws.length - 1 = k by omega]
    | succ d ih =>
      intro k hk i hi hn
      have s := stp k (by omega)
      rw [ih (k + 1) (by omega) i (by omega) (fun hm => ?_)]
      · exact s.io i hi hn
      · rcases List.mem_cons.1 (s.next.mem_iff.1 hm) with e | e
        · omega
        · exact hn (s.perm.mem_iff.2 (by simp [e]))
  have taken_ab : ∀ k, k + 2 ≤ ws.length → Hu.leastOf (runH k (Start ws D)) < ws.length + k ∧ Hu.leastOf (taken (runH k (Start ws D))) < ws.length + k ∧ Hu.leastOf (runH k (Start ws D)) ∉ wt ws.length (k + 1) (runH (k + 1) (Start ws D)) ∧ Hu.leastOf (taken (runH k (Start ws D))) ∉ wt ws.length (k + 1) (runH (k + 1) (Start ws D)) := by
    intro k hk
    have s := stp k hk
    obtain ⟨l1, l2, _⟩ := xl k (by omega)
    have la := l1 (Hu.leastOf (runH k (Start ws D))) (s.perm.mem_iff.2 (by simp))
    have lb := l1 (Hu.leastOf (taken (runH k (Start ws D)))) (s.perm.mem_iff.2 (by simp))
    have hnd := s.perm.nodup_iff.1 l2
    rw [List.nodup_cons, List.nodup_cons] at hnd
    refine ⟨la, lb, fun hm => ?_, fun hm => ?_⟩
    · rcases List.mem_cons.1 (s.next.mem_iff.1 hm) with e | e
      · omega
      · exact hnd.1 (by simp [e])
    · rcases List.mem_cons.1 (s.next.mem_iff.1 hm) with e | e
      · omega
      · exact hnd.2.1 e
  have wk : ∀ k, k + 2 ≤ ws.length → ∀ i, i < ws.length + k → wAt (treeOf ws D) i = wAt (runH k (Start ws D)) i := fun k hk => wfin (ws.length - 1 - k) k (by omega)
  refine ⟨fun k => Hu.leastOf (runH k (Start ws D)), fun k => Hu.leastOf (taken (runH k (Start ws D))), fun k => wt ws.length k (runH k (Start ws D)), fun k => wt ws.length k (taken (taken (runH k (Start ws D)))), ⟨hN, x0, fun k hk => (stp k hk).perm, fun k hk => (stp k hk).next, fun k hk => ?_, fun k hk => ?_, fun k hk => ?_, fun k hk x hx => ?_, fun k hk x hx => ?_, fun i j h1 h2 h3 => ?_, fun i hi => ?_⟩, fun i hi => ?_⟩
  · obtain ⟨la, lb, _⟩ := taken_ab k hk
    rw [wfin (ws.length - 1 - (k + 1)) (k + 1) (by omega) _ (by omega), (stp k hk).new, wk k hk _ la, wk k hk _ lb]
  · obtain ⟨la, lb, na, nb⟩ := taken_ab k hk
    show ((treeOf ws D).into.getD _ 0).toNat = _
    rw [ifin (ws.length - 1 - (k + 1)) (k + 1) (by omega) _ (by omega) na, (stp k hk).ia]
    omega
  · obtain ⟨la, lb, na, nb⟩ := taken_ab k hk
    show ((treeOf ws D).into.getD _ 0).toNat = _
    rw [ifin (ws.length - 1 - (k + 1)) (k + 1) (by omega) _ (by omega) nb, (stp k hk).ib]
    omega
  · obtain ⟨la, lb, na, nb⟩ := taken_ab k hk
    have := (stp k hk).mA x hx
    have hx2 := (xl k (by omega)).1 x ((stp k hk).perm.mem_iff.2 (List.mem_cons_of_mem _ hx))
    unfold RI at this ⊢
    rw [wk k hk _ la, wk k hk _ hx2]
    exact this
  · obtain ⟨la, lb, na, nb⟩ := taken_ab k hk
    have := (stp k hk).mB x hx
    have hx2 := (xl k (by omega)).1 x ((stp k hk).perm.mem_iff.2 (List.mem_cons_of_mem _ (List.mem_cons_of_mem _ hx)))
    unfold RI at this ⊢
    rw [wk k hk _ lb, wk k hk _ hx2]
    exact this
  · obtain ⟨h, last, s⟩ := all (ws.length - 1) (by omega)
    exact s.js i j h1 h2 (by omega)
  · obtain ⟨h, last, s⟩ := all (ws.length - 1) (by omega)
    exact (h.pos i (by omega)).1
  · rw [wk 0 (by omega) i (by omega)]
    rfl

end Go.Proofs.YtdagfcflbphoiaaDoor
/- The merging of weights: what depths come to. No program in sight. -/
namespace Go.Proofs.YtdagfcflbphoiaaDoor
set_option linter.unusedVariables false
set_option linter.unusedSimpArgs false
open Hu

theorem sumI_perm {a b : List Int} (h : a.Perm b) : sumI a = sumI b := by
  induction h with
  | nil => rfl
  | cons x _ ih => simp only [sumI, ih]
  | swap x y l => simp only [sumI]; omega
  | trans _ _ ih1 ih2 => exact ih1.trans ih2

section
variable {N : Nat} {w : Nat → Int} {I A B : Nat → Nat} {X R : Nat → List Nat}
theorem Merge.lt (m : Merge N w I A B X R) {k : Nat} (hk : k + 1 ≤ N) {x : Nat} (hx : x ∈ X k) : x < N + k := (x_lt m.x0 m.st m.nx k hk).1 x hx
theorem Merge.len (m : Merge N w I A B X R) {k : Nat} (hk : k + 1 ≤ N) : (X k).length = N - k := (x_lt m.x0 m.st m.nx k hk).2.2
theorem Merge.last (m : Merge N w I A B X R) : X (N - 1) = [2 * N - 2] := by
  have hN := m.two
  have hl := m.len (k := N - 1) (by omega)
  have hx : 2 * N - 2 ∈ X (N - 1) := by
    have := m.nx (N - 2) (by omega)
    rw [show N - 2 + 1 = N - 1 by omega] at this
    exact this.mem_iff.2 (by rw [show N + (N - 2) = 2 * N - 2 by omega]; simp)
  obtain ⟨y, hy⟩ := List.length_eq_one_iff.1 (show (X (N - 1)).length = 1 by omega)
  rw [hy] at hx ⊢
  rw [List.mem_singleton.1 hx]
theorem Merge.aX (m : Merge N w I A B X R) {k : Nat} (hk : k + 2 ≤ N) : A k ∈ X k ∧ B k ∈ X k ∧ (∀ x ∈ R k, x ∈ X k) ∧ (∀ x ∈ R k, x ∈ X (k + 1)) ∧ N + k ∈ X (k + 1) := by
  have p := m.st k hk
  have q := m.nx k hk
  exact ⟨p.mem_iff.2 (by simp), p.mem_iff.2 (by simp), fun x hx => p.mem_iff.2 (by simp [hx]), fun x hx => q.mem_iff.2 (by simp [hx]), q.mem_iff.2 (by simp)⟩
theorem Merge.in_or (m : Merge N w I A B X R) : ∀ k, k + 1 ≤ N → ∀ p, p < N + k → p ∈ X k ∨ I p < N + k := by
  intro k
  induction k with
  | zero => intro _ p hp; exact .inl (m.x0.mem_iff.2 (List.mem_range.2 (by omega)))
  | succ k ih =>
    intro hk p hp
    obtain ⟨h1, h2, h3, h4, h5⟩ := m.aX hk
    by_cases e : p = N + k
    · exact .inl (by rw [e]; exact h5)
    · rcases ih (by omega) p (by omega) with q | q
      · rcases List.mem_cons.1 ((m.st k hk).mem_iff.1 q) with r | r
        · right; rw [r, m.ia k hk]; omega
        · rcases List.mem_cons.1 r with r | r
          · right; rw [r, m.ib k hk]; omega
          · exact .inl (h4 p r)
      · right; omega
theorem Merge.ge (m : Merge N w I A B X R) : ∀ d k, k + d + 1 = N → ∀ x ∈ X k, x = 2 * N - 2 ∨ N + k ≤ I x := by
  intro d
  induction d with
  | zero =>
    intro k hk x hx
    have := m.last
    rw [show N - 1 = k by omega] at this
    rw [this] at hx
    exact .inl (List.mem_singleton.1 hx)
  | succ d ih =>
    intro k hk x hx
    have hk2 : k + 2 ≤ N := by omega
    rcases List.mem_cons.1 ((m.st k hk2).mem_iff.1 hx) with r | r
    · right; rw [r, m.ia k hk2]; exact Nat.le_refl _
    · rcases List.mem_cons.1 r with r | r
      · right; rw [r, m.ib k hk2]; exact Nat.le_refl _
      · rcases ih (k + 1) (by omega) x ((m.aX hk2).2.2.2.1 x r) with q | q
        · exact .inl q
        · right; omega
theorem Merge.ge' (m : Merge N w I A B X R) {k : Nat} (hk : k + 1 ≤ N) {x : Nat} (hx : x ∈ X k) (hr : x ≠ 2 * N - 2) : N + k ≤ I x := (m.ge (N - 1 - k) k (by omega) x hx).resolve_left hr
theorem Merge.up (m : Merge N w I A B X R) {i : Nat} (hi : i < 2 * N - 2) : i < I i ∧ I i ≤ 2 * N - 2 ∧ N ≤ I i := by
  have hN := m.two
  have h1 : I i ≤ 2 * N - 2 := by
    rcases m.in_or (N - 1) (by omega) i (by omega) with q | q
    · rw [m.last] at q
      have := List.mem_singleton.1 q
      omega
    · omega
  by_cases hl : i < N
  · have := m.ge' (k := 0) (by omega) (m.x0.mem_iff.2 (List.mem_range.2 hl)) (by omega)
    omega
  · have := m.ge' (k := i - N + 1) (by omega) (x := i) (by have := (m.aX (k := i - N) (by omega)).2.2.2.2; rwa [show N + (i - N) = i by omega] at this) (by omega)
    omega
theorem Merge.inv (m : Merge N w I A B X R) {q k : Nat} (hk : k + 2 ≤ N) (hq : q < 2 * N - 2) (h : I q = N + k) : q ∈ X k ∧ (q = A k ∨ q = B k) := by
  have hu := (m.up hq).1
  have h1 : q ∈ X k := by
    rcases m.in_or k (by omega) q (by omega) with r | r
    · exact r
    · omega
  refine ⟨h1, ?_⟩
  rcases List.mem_cons.1 ((m.st k hk).mem_iff.1 h1) with r | r
  · exact .inl r
  · rcases List.mem_cons.1 r with r | r
    · exact .inr r
    · have := m.ge' (k := k + 1) (by omega) ((m.aX hk).2.2.2.1 q r) (by omega)
      omega
/-- what was made later is no deeper -/
theorem Merge.mid (m : Merge N w I A B X R) {dep : Nat → Nat} (d0 : dep (2 * N - 2) = 0) (d1 : ∀ i, i < 2 * N - 2 → dep i = dep (I i) + 1) : ∀ f p q, 2 * N - 2 - p ≤ f → N ≤ p → p ≤ q → q ≤ 2 * N - 2 → dep q ≤ dep p := by
  intro f
  induction f with
  | zero =>
    intro p q hf h1 h2 h3
    obtain rfl : p = q := by omega
    exact Nat.le_refl _
  | succ f ih =>
    intro p q hf h1 h2 h3
    by_cases e : q = 2 * N - 2
    · rw [e, d0]; omega
    by_cases e2 : p = q
    · rw [e2]; exact Nat.le_refl _
    rw [d1 p (by omega), d1 q (by omega)]
    have up := m.up (show p < 2 * N - 2 by omega)
    have uq := m.up (show q < 2 * N - 2 by omega)
    have hle : I p ≤ I q := by
      obtain ⟨k, hk⟩ : ∃ k, I q = N + k := ⟨I q - N, by omega⟩
      have hk2 : k + 2 ≤ N := by omega
      obtain ⟨hx, hab⟩ := m.inv hk2 (by omega) hk
      have hlt := m.lt (by omega) hx
      rw [hk]
      rcases m.in_or k (by omega) p (by omega) with r | r
      · rcases List.mem_cons.1 ((m.st k hk2).mem_iff.1 r) with s | s
        · rw [s, m.ia k hk2]; exact Nat.le_refl _
        · rcases List.mem_cons.1 s with s | s
          · rw [s, m.ib k hk2]; exact Nat.le_refl _
          · have hRI : RI w q p := by
              rcases hab with t | t
              · rw [t]; exact m.mA k hk2 p (List.mem_cons_of_mem _ s)
              · rw [t]; exact m.mB k hk2 p s
            have := m.mono p q h1 h2 h3
            unfold RI at hRI
            omega
      · omega
    have := ih (I p) (I q) (by omega) (by omega) hle (by omega)
    omega
/-- of two symbols the one with the greater weight has no greater depth -/
theorem Merge.order (m : Merge N w I A B X R) {dep : Nat → Nat} (d0 : dep (2 * N - 2) = 0) (d1 : ∀ i, i < 2 * N - 2 → dep i = dep (I i) + 1) {x y : Nat} (hx : x < N) (hy : y < N) (hw : w y < w x) : dep x ≤ dep y := by
  have hN := m.two
  have ux := m.up (show x < 2 * N - 2 by omega)
  have uy := m.up (show y < 2 * N - 2 by omega)
  obtain ⟨k, hk⟩ : ∃ k, I y = N + k := ⟨I y - N, by omega⟩
  have hk2 : k + 2 ≤ N := by omega
  have hge : N + k ≤ I x := by
    rcases m.in_or k (by omega) x (by omega) with r | r
    · exact m.ge' (by omega) r (by omega)
    · exfalso
      obtain ⟨j, hj⟩ : ∃ j, I x = N + j := ⟨I x - N, by omega⟩
      obtain ⟨hxj, hab⟩ := m.inv (by omega) (by omega) hj
      have hyj : y ∈ X j := by
        rcases m.in_or j (by omega) y (by omega) with s | s
        · exact s
        · omega
      have hj2 : j + 2 ≤ N := by omega
      have hRI : RI w x y := by
        rcases List.mem_cons.1 ((m.st j hj2).mem_iff.1 hyj) with s | s
        · have := m.ia j hj2; rw [← s] at this; omega
        · rcases List.mem_cons.1 s with t | t
          · have := m.ib j hj2; rw [← t] at this; omega
          · rcases hab with u | u
            · rw [u]; exact m.mA j hj2 y s
            · rw [u]; exact m.mB j hj2 y t
      unfold RI at hRI
      omega
  rw [d1 x (by omega), d1 y (by omega), hk]
  have := m.mid d0 d1 (2 * N) (N + k) (I x) (by omega) (by omega) hge (by omega)
  omega
/-- depths are bounded by how many trees there are -/
theorem Merge.dep_le (m : Merge N w I A B X R) {dep : Nat → Nat} (d0 : dep (2 * N - 2) = 0) (d1 : ∀ i, i < 2 * N - 2 → dep i = dep (I i) + 1) : ∀ f i, 2 * N - 2 - i ≤ f → i ≤ 2 * N - 2 → dep i ≤ 2 * N - 2 - i := by
  intro f
  induction f with
  | zero => intro i h1 h2; obtain rfl : i = 2 * N - 2 := by omega
            rw [d0]; omega
  | succ f ih =>
    intro i h1 h2
    by_cases e : i = 2 * N - 2
    · rw [e, d0]; omega
    · have u := m.up (show i < 2 * N - 2 by omega)
      have := ih (I i) (by omega) (by omega)
      rw [d1 i (by omega)]
      omega
/-- a sum over what waits that no join changes -/
theorem Merge.keeps (m : Merge N w I A B X R) (f : Nat → Int) (hf : ∀ k, k + 2 ≤ N → f (A k) + f (B k) = f (N + k)) : ∀ k, k + 1 ≤ N → sumI ((X k).map f) = f (2 * N - 2) := by
  have hN := m.two
  have : ∀ d k, k + d + 1 = N → sumI ((X k).map f) = f (2 * N - 2) := by
    intro d
    induction d with
    | zero =>
      intro k hk
      have := m.last
      rw [show N - 1 = k by omega] at this
      rw [this]
      simp [sumI]
    | succ d ih =>
      intro k hk
      have hk2 : k + 2 ≤ N := by omega
      have h1 := ih (k + 1) (by omega)
      rw [sumI_perm ((m.nx k hk2).map f)] at h1
      rw [sumI_perm ((m.st k hk2).map f)]
      simp only [List.map_cons, sumI] at h1 ⊢
      have := hf k hk2
      omega
  exact fun k hk => this (N - 1 - k) k (by omega)
theorem Merge.ab_lt (m : Merge N w I A B X R) {k : Nat} (hk : k + 2 ≤ N) : A k < 2 * N - 2 ∧ B k < 2 * N - 2 := by
  have h := m.aX hk
  have := m.lt (by omega) h.1
  have := m.lt (by omega) h.2.1
  omega
theorem Merge.dep_ab (m : Merge N w I A B X R) {dep : Nat → Nat} (d1 : ∀ i, i < 2 * N - 2 → dep i = dep (I i) + 1) {k : Nat} (hk : k + 2 ≤ N) : dep (A k) = dep (N + k) + 1 ∧ dep (B k) = dep (N + k) + 1 := by
  have h := m.ab_lt hk
  rw [d1 _ h.1, d1 _ h.2, m.ia k hk, m.ib k hk]
  exact ⟨rfl, rfl⟩
/-- the share of all depths -/
theorem Merge.kraft (m : Merge N w I A B X R) {dep : Nat → Nat} (d0 : dep (2 * N - 2) = 0) (d1 : ∀ i, i < 2 * N - 2 → dep i = dep (I i) + 1) (M : Nat) (hM : 2 * N ≤ M) : sumI ((List.range N).map fun i => (2 : Int) ^ (M - dep i)) = 2 ^ M := by
  have hN := m.two
  have h := m.keeps (fun i => (2 : Int) ^ (M - dep i)) (fun k hk => by
    obtain ⟨e1, e2⟩ := m.dep_ab d1 hk
    have hb := m.dep_le d0 d1 (2 * N) (N + k) (by omega) (by omega)
    show (2 : Int) ^ (M - dep (A k)) + 2 ^ (M - dep (B k)) = 2 ^ (M - dep (N + k))
    rw [e1, e2, show M - dep (N + k) = (M - (dep (N + k) + 1)) + 1 by omega, Int.pow_succ]
    omega) 0 (by omega)
  rw [sumI_perm (m.x0.map _), d0] at h
  exact h
/-- the weight of all -/
theorem Merge.root (m : Merge N w I A B X R) : sumI ((List.range N).map w) = w (2 * N - 2) := by
  have hN := m.two
  have h := m.keeps w (fun k hk => (m.wn k hk).symm) 0 (by omega)
  rw [sumI_perm (m.x0.map _)] at h
  exact h
/-- no tree that waits is lighter than one that was taken -/
theorem Merge.above (m : Merge N w I A B X R) {c : Int} (h0 : 0 ≤ c) : ∀ d k, (∀ x ∈ X k, c ≤ w x) → k + d + 1 ≤ N → ∀ x ∈ X (k + d), c ≤ w x := by
  intro d
  induction d with
  | zero => intro k h _; exact h
  | succ d ih =>
    intro k h hk x hx
    have p := ih k h (by omega)
    have hk2 : (k + d) + 2 ≤ N := by omega
    have a := m.aX hk2
    rcases List.mem_cons.1 ((m.nx (k + d) hk2).mem_iff.1 hx) with e | e
    · rw [e, m.wn _ hk2]
      have := p _ a.1
      have := p _ a.2.1
      omega
    · exact p x (a.2.2.1 x e)
theorem Merge.twice (m : Merge N w I A B X R) {x : Nat} (hx : x < 2 * N - 2) (hx2 : I x < 2 * N - 2) : w x ≤ w (I x) ∧ 2 * w x ≤ w (I (I x)) := by
  have u := m.up hx
  have u2 := m.up hx2
  obtain ⟨k, hk⟩ : ∃ k, I x = N + k := ⟨I x - N, by omega⟩
  obtain ⟨j, hj⟩ : ∃ j, I (I x) = N + j := ⟨I (I x) - N, by omega⟩
  have hk2 : k + 2 ≤ N := by omega
  have hj2 : j + 2 ≤ N := by omega
  have a := m.aX hk2
  have hB : w x ≤ w (B k) ∧ w x ≤ w (N + k) := by
    have := (m.inv hk2 hx hk).2
    have hAB := m.mA k hk2 (B k) (by simp)
    have := m.wn k hk2
    have := m.pos (A k) (by have := m.ab_lt hk2; omega)
    have := m.pos (B k) (by have := m.ab_lt hk2; omega)
    unfold RI at hAB
    rcases (m.inv hk2 hx hk).2 with e | e <;> rw [e] <;> omega
  refine ⟨by rw [hk]; exact hB.2, ?_⟩
  have ab := m.above (m.pos x (by omega)) (j - (k + 1)) (k + 1) (fun y hy => by
    rcases List.mem_cons.1 ((m.nx k hk2).mem_iff.1 hy) with e | e
    · rw [e]; exact hB.2
    · have := m.mB k hk2 y e
      unfold RI at this
      omega) (by omega)
  rw [show k + 1 + (j - (k + 1)) = j by omega] at ab
  have b := m.aX hj2
  rw [hj, m.wn j hj2]
  have := ab _ b.1
  have := ab _ b.2.1
  omega
theorem Merge.deep (m : Merge N w I A B X R) {dep : Nat → Nat} (d0 : dep (2 * N - 2) = 0) (d1 : ∀ i, i < 2 * N - 2 → dep i = dep (I i) + 1) : ∀ f x, 2 * N - 2 - x ≤ f → x ≤ 2 * N - 2 → w x * 2 ^ (dep x / 2) ≤ w (2 * N - 2) := by
  intro f
  induction f with
  | zero =>
    intro x h1 h2
    obtain rfl : x = 2 * N - 2 := by omega
    rw [d0]
    simp
  | succ f ih =>
    intro x h1 h2
    by_cases e : x = 2 * N - 2
    · rw [e, d0]; simp
    have u := m.up (show x < 2 * N - 2 by omega)
    by_cases e2 : I x = 2 * N - 2
    · rw [d1 x (by omega), e2, d0]
      obtain ⟨k, hk⟩ : ∃ k, I x = N + k := ⟨I x - N, by omega⟩
      have hk2 : k + 2 ≤ N := by omega
      have h3 := (m.inv hk2 (by omega) hk).2
      have h4 := m.wn k hk2
      rw [← hk, e2] at h4
      have := m.pos (A k) (by have := m.ab_lt hk2; omega)
      have := m.pos (B k) (by have := m.ab_lt hk2; omega)
      simp
      rcases h3 with r | r <;> rw [r] <;> omega
    · have u2 := m.up (show I x < 2 * N - 2 by omega)
      have t := (m.twice (show x < 2 * N - 2 by omega) (by omega)).2
      rw [d1 x (by omega), d1 (I x) (by omega)]
      have := ih (I (I x)) (by omega) (by omega)
      rw [show (dep (I (I x)) + 1 + 1) / 2 = dep (I (I x)) / 2 + 1 by omega, Int.pow_succ, ← Int.mul_assoc, Int.mul_comm (w x) _, Int.mul_assoc]
      refine Int.le_trans ?_ this
      rw [Int.mul_comm]
      exact Int.mul_le_mul_of_nonneg_right (by omega) (Int.pow_nonneg (by omega))
end
/-- depths of N weights, each at least one, that come to less than 2 ^ 10 -/
theorem Merge.short {N : Nat} {w : Nat → Int} {I A B : Nat → Nat} {X R : Nat → List Nat} (m : Merge N w I A B X R) {dep : Nat → Nat} (d0 : dep (2 * N - 2) = 0) (d1 : ∀ i, i < 2 * N - 2 → dep i = dep (I i) + 1) {x : Nat} (hx : x < N) (h1 : 1 ≤ w x) (hs : w (2 * N - 2) < 1024) : dep x ≤ 19 := by
  have hN := m.two
  have h := m.deep d0 d1 (2 * N) x (by omega) (by omega)
  apply Decidable.byContradiction
  intro hc
  have h2 : (2 : Int) ^ 10 ≤ 2 ^ (dep x / 2) := by
    have : (2 : Nat) ^ 10 ≤ 2 ^ (dep x / 2) := Nat.pow_le_pow_right (by omega) (by omega)
    exact_mod_cast this
  have h3 : (2 : Int) ^ (dep x / 2) ≤ w x * 2 ^ (dep x / 2) := by
    have : (1 : Int) * 2 ^ (dep x / 2) ≤ w x * 2 ^ (dep x / 2) := Int.mul_le_mul_of_nonneg_right h1 (Int.pow_nonneg (by omega))
    omega
  omega

end Go.Proofs.YtdagfcflbphoiaaDoor
/- Depths as a plain function of weights, and what they obey. No program in sight. -/
namespace Go.Proofs.YtdagfcflbphoiaaDoor
set_option linter.unusedVariables false
set_option linter.unusedSimpArgs false
open Hu

theorem fill_keep (into : List Int) : ∀ (i : Nat) (out : List Int) (j : Nat), i ≤ j → (fillD into i out).getD j 0 = out.getD j 0
  | 0, out, j, _ => rfl
  | i + 1, out, j, h => by
    unfold fillD
    rw [fill_keep into i _ j (by omega), getD_setI, if_neg (by omega)]
theorem fill_rec (into : List Int) (T : Nat) : ∀ (i : Nat) (out : List Int), out.length = T → i ≤ T → (∀ j, j < i → j < (into.getD j 0).toNat ∧ (into.getD j 0).toNat < T) → ∀ j, j < i → (fillD into i out).getD j 0 = (fillD into i out).getD (into.getD j 0).toNat 0 + 1
  | 0, out, _, _, _, j, hj => by omega
  | i + 1, out, hl, hi, hin, j, hj => by
    have h0 := hin i (by omega)
    unfold fillD
    by_cases e : j = i
    · subst e
      rw [fill_keep into j _ j (by omega), fill_keep into j _ _ (by omega), getD_setI, getD_setI, if_pos ⟨rfl, by omega⟩, if_neg (by omega)]
    · exact fill_rec into T i _ (by rw [List.length_set]; exact hl) (by omega) (fun j hj => hin j (by omega)) j (by omega)
theorem fill_pos (into : List Int) : ∀ (i : Nat) (out : List Int), (∀ j, 0 ≤ out.getD j 0) → ∀ j, 0 ≤ (fillD into i out).getD j 0
  | 0, out, h, j => h j
  | i + 1, out, h, j => by
    unfold fillD
    refine fill_pos into i _ (fun j => ?_) j
    rw [getD_setI]
    have := h j
    have := h (into.getD i 0).toNat
    split <;> omega

/-- the merging of weights and the depths that come of it -/
structure Deps (ws : List Int) (D : List Nat) (w : Nat → Int) (I A B : Nat → Nat) (X R : Nat → List Nat) (dep : Nat → Nat) : Prop where
  m : Merge ws.length w I A B X R
  d0 : dep (2 * ws.length - 2) = 0
  d1 : ∀ i, i < 2 * ws.length - 2 → dep i = dep (I i) + 1
  ww : ∀ i, i < ws.length → w i = ws.getD i 0
  eq : depthsP ws D = (List.range ws.length).map fun i => (dep i : Int)
theorem deps_of {ws : List Int} {D : List Nat} (hN : 2 ≤ ws.length) (hp : D.Perm (List.range ws.length)) (hs : D.Pairwise (RI (keyW ws))) (hw : ∀ x ∈ ws, 0 ≤ x) : ∃ w I A B X R dep, Deps ws D w I A B X R dep := by
  obtain ⟨A, B, X, R, m, ww⟩ := merge_of hN hp hs hw
  obtain ⟨out, hout⟩ : ∃ out, fillD (treeOf ws D).into (2 * ws.length - 2) (List.replicate (2 * ws.length - 1) 0) = out := ⟨_, rfl⟩
  have hpos : ∀ j, 0 ≤ out.getD j 0 := by
    rw [← hout]
    refine fill_pos _ _ _ fun j => ?_
    rw [List.getD_eq_getElem?_getD, List.getElem?_replicate]
    split <;> simp
  have hlen : out.length = 2 * ws.length - 1 := by rw [← hout, fillD_len, List.length_replicate]
  refine ⟨_, _, A, B, X, R, fun i => (out.getD i 0).toNat, m, ?_, fun i hi => ?_, ww, ?_⟩
  · rw [← hout, fill_keep _ _ _ _ (Nat.le_refl _), List.getD_eq_getElem?_getD, List.getElem?_replicate]
    split <;> rfl
  · have h1 := fill_rec (treeOf ws D).into (2 * ws.length - 1) (2 * ws.length - 2) (List.replicate (2 * ws.length - 1) 0) (by rw [List.length_replicate]) (by omega) (fun j hj => by
      have := m.up hj
      omega) i hi
    rw [hout] at h1
    have := hpos ((treeOf ws D).into.getD i 0).toNat
    show (out.getD i 0).toNat = (out.getD ((treeOf ws D).into.getD i 0).toNat 0).toNat + 1
    rw [h1]
    omega
  · unfold depthsP
    rw [hout]
    apply List.ext_getElem
    · simp [hlen]; omega
    · intro i h1 h2
      have h3 : i < ws.length := by simpa using h2
      have := hpos i
      rw [List.getD_eq_getElem?_getD, List.getElem?_eq_getElem (by omega)] at this
      simp only [List.getElem_take, List.getElem_map, List.getElem_range]
      rw [List.getD_eq_getElem?_getD, List.getElem?_eq_getElem (by omega)]
      simp only [Option.getD_some] at this ⊢
      omega

theorem sorted_one {k : Nat → Int} : ∀ {a b : List Nat}, a.Perm b → a.Pairwise (RI k) → b.Pairwise (RI k) → a = b
  | [], b, h, _, _ => (List.nil_perm.1 h).symm
  | x :: a, [], h, _, _ => by simp at h
  | x :: a, y :: b, h, h1, h2 => by
    have h1' := List.pairwise_cons.1 h1
    have h2' := List.pairwise_cons.1 h2
    have e : x = y := by
      have m1 : x ∈ y :: b := h.mem_iff.1 (by simp)
      have m2 : y ∈ x :: a := h.mem_iff.2 (by simp)
      rcases List.mem_cons.1 m1 with e | e
      · exact e
      · rcases List.mem_cons.1 m2 with e2 | e2
        · exact e2.symm
        · have r1 := h2'.1 x e
          have r2 := h1'.1 y e2
          unfold RI at r1 r2
          omega
    subst e
    rw [sorted_one h.cons_inv h1'.2 h2'.2]
def Sorts (ws : List Int) (D : List Nat) : Prop := D.Perm (List.range ws.length) ∧ D.Pairwise (RI (keyW ws))
theorem Sorts.one {ws : List Int} {D E : List Nat} (h : Sorts ws D) (k : Sorts ws E) : D = E := sorted_one (h.1.trans k.1.symm) h.2 k.2
open Classical in
noncomputable def sortD (ws : List Int) : List Nat := if h : ∃ D, Sorts ws D then h.choose else []
theorem Sorts.eq {ws : List Int} {D : List Nat} (h : Sorts ws D) : sortD ws = D := by
  unfold sortD
  have hx : ∃ D, Sorts ws D := ⟨D, h⟩
  rw [dif_pos hx]
  exact hx.choose_spec.one h
/-- the depths of weights -/
noncomputable def depF (ws : List Int) : List Int := depthsP ws (sortD ws)
theorem Sorts.dep {ws : List Int} {D : List Nat} (h : Sorts ws D) : depthsP ws D = depF ws := by unfold depF; rw [h.eq]

theorem getD_map_range {f : Nat → Int} {n i : Nat} (h : i < n) : ((List.range n).map f).getD i 0 = f i := by
  rw [List.getD_eq_getElem?_getD, List.getElem?_map, List.getElem?_range h]
  rfl
section
variable {ws : List Int} {D : List Nat} {w : Nat → Int} {I A B : Nat → Nat} {X R : Nat → List Nat} {dep : Nat → Nat}
theorem Deps.at_ (d : Deps ws D w I A B X R dep) {i : Nat} (h : i < ws.length) : (depthsP ws D).getD i 0 = dep i := by
  rw [d.eq, getD_map_range h]
theorem Deps.ge1 (d : Deps ws D w I A B X R dep) {i : Nat} (h : i < ws.length) : 1 ≤ dep i := by
  have := d.m.two
  rw [d.d1 i (by omega)]
  omega
theorem Deps.le (d : Deps ws D w I A B X R dep) {i : Nat} (h : i < ws.length) : dep i < ws.length := by
  have hN := d.m.two
  have u := d.m.up (show i < 2 * ws.length - 2 by omega)
  have := d.m.dep_le d.d0 d.d1 (2 * ws.length) (I i) (by omega) (by omega)
  rw [d.d1 i (by omega)]
  omega
theorem Deps.mem (d : Deps ws D w I A B X R dep) {P : Int → Prop} : (∀ x ∈ depthsP ws D, P x) ↔ ∀ i, i < ws.length → P (dep i) := by
  rw [d.eq]
  simp
end

/-- shares -/
def shr1 (x : Int) : Int := 2 ^ (20 - x).toNat
def shrL (xs : List Int) : Int := sumI (xs.map shr1)
theorem Deps.share {ws : List Int} {D : List Nat} {w : Nat → Int} {I A B : Nat → Nat} {X R : Nat → List Nat} {dep : Nat → Nat} (d : Deps ws D w I A B X R dep) (h : ∀ x ∈ depthsP ws D, x ≤ 20) : shrL (depthsP ws D) = 1048576 := by
  have h := d.mem.1 h
  have hN := d.m.two
  obtain ⟨M, hM⟩ : ∃ M, M = 2 * ws.length + 20 := ⟨_, rfl⟩
  have hk := d.m.kraft d.d0 d.d1 M (by omega)
  have e : ∀ l : List Nat, (∀ i ∈ l, i < ws.length) → sumI (l.map fun i => (2 : Int) ^ (M - dep i)) = 2 ^ (M - 20) * sumI (l.map fun i => shr1 (dep i)) := by
    intro l
    induction l with
    | nil => intro _; simp [sumI]
    | cons x l ih =>
      intro hl
      have hx := h x (hl x (by simp))
      simp only [List.map_cons, sumI]
      rw [ih (fun i hi => hl i (by simp [hi])), Int.mul_add]
      congr 1
      unfold shr1
      rw [← Int.pow_add]
      congr 1
      omega
  rw [e _ (fun i hi => List.mem_range.1 hi)] at hk
  unfold shrL
  rw [d.eq, List.map_map]
  have hk2 : (2 : Int) ^ M = 2 ^ (M - 20) * 1048576 := by
    rw [show (1048576 : Int) = 2 ^ 20 by rfl, ← Int.pow_add]
    congr 1
    omega
  rw [hk2] at hk
  exact Int.eq_of_mul_eq_mul_left (Int.ne_of_gt (Int.pow_pos (by omega))) hk

end Go.Proofs.YtdagfcflbphoiaaDoor
/- Depths, halved weights, shares, lengths: the program's own functions, by the second form. -/
namespace Go.Proofs.YtdagfcflbphoiaaDoor
set_option linter.unusedVariables false
set_option linter.unusedSimpArgs false
open Go.RowKit Ev Hu

theorem sumI_bound (c : Int) : ∀ l : List Int, (∀ x ∈ l, x ≤ c) → sumI l ≤ l.length * c
  | [], _ => by simp [sumI]
  | x :: l, h => by
    have ih := sumI_bound c l (fun y hy => h y (by simp [hy]))
    have := h x (by simp)
    simp only [sumI, List.length_cons]
    rw [show ((l.length + 1 : Nat) : Int) * c = l.length * c + c by rw [show ((l.length + 1 : Nat) : Int) = (l.length : Int) + 1 by omega, Int.add_mul, Int.one_mul]]
    omega
theorem sum_fits {ws : List Int} (hl : ws.length ≤ 258) (hw : ∀ x ∈ ws, x ≤ 2199023255552) : sumI ws ≤ 1152921504606846976 := by
  have h := sumI_bound 2199023255552 ws hw
  have : (ws.length : Int) * 2199023255552 ≤ 258 * 2199023255552 := Int.mul_le_mul_of_nonneg_right (by omega) (by omega)
  omega

/-- weights that may be -/
structure Ws (ws : List Int) : Prop where
  l2 : 2 ≤ ws.length
  l3 : ws.length ≤ 258
  lo : ∀ x ∈ ws, 0 ≤ x
  hi : ∀ x ∈ ws, x ≤ 2199023255552
theorem depF_len {ws : List Int} (h : 1 ≤ ws.length) : (depF ws).length = ws.length := depthsP_len _ _ h
theorem s_depF (lf d n : Nat) (h : H) (v : Value) (ws : List Int) (hR : Row h n 3 .i64 v ws) (hW : Ws ws) (hlf : 3000000 ≤ lf) (hd : 300 ≤ d) :
    Run (fun _ => False) n (evCall2 Tryd.prog gt lf d 53 #[v]) h n fun v' h' n' => Sorts ws (sortD ws) ∧ Row h' n' 3 .i64 v' (depF ws) ∧ ∀ b, InBlk v' b → n ≤ b := by
  obtain ⟨e, rfl⟩ : ∃ e, d = e + ws.length + 8 := ⟨d - ws.length - 8, by have := hW.l3; omega⟩
  have hl3 := hW.l3
  refine (s_depths lf e n h v ws hR hW.l2 (by omega) hlf hW.lo (sum_fits hW.l3 hW.hi)).mono ?_
  rintro v' h' n' _ ⟨D, hp, hs, hr, hb⟩
  have so : Sorts ws D := ⟨hp, hs⟩
  rw [so.dep] at hr
  exact ⟨by rw [so.eq]; exact so, hr, hb⟩
theorem Ws.deps {ws : List Int} (hW : Ws ws) (so : Sorts ws (sortD ws)) : ∃ w I A B X R dep, Deps ws (sortD ws) w I A B X R dep := deps_of hW.l2 so.1 so.2 hW.lo

def halv1 (x : Int) : Int := (if x < 0 then 0 else x).tdiv 2 + 1
def halvL (xs : List Int) : List Int := xs.map halv1
theorem halv_bound (x : Int) (h : x ≤ 9223372036854775807) : 1 ≤ halv1 x ∧ halv1 x ≤ 4611686018427387904 ∧ (0 ≤ x → halv1 x = x / 2 + 1) := by
  unfold halv1
  have : (if x < 0 then 0 else x).tdiv 2 = (if x < 0 then 0 else x) / 2 := Int.tdiv_eq_ediv_of_nonneg (by split <;> omega)
  rw [this]
  split <;> omega
theorem halv_wrap (x : Int) (h : x ≤ 9223372036854775807) : IntKind.i64.wrap ((if x < 0 then 0 else x).tdiv 2) = (if x < 0 then 0 else x).tdiv 2 ∧ IntKind.i64.wrap ((if x < 0 then 0 else x).tdiv 2 + 1) = halv1 x := by
  have := halv_bound x h
  unfold halv1 at this ⊢
  exact ⟨wrap_id (by omega) (by omega), wrap_id (by omega) (by omega)⟩
theorem halvL_len (xs : List Int) : (halvL xs).length = xs.length := by unfold halvL; simp
theorem halvL_at {xs : List Int} {i : Nat} (h : i < xs.length) : (halvL xs).getD i 0 = halv1 (xs.getD i 0) := by
  unfold halvL
  rw [List.getD_eq_getElem?_getD, List.getElem?_map, List.getElem?_eq_getElem h, List.getD_eq_getElem?_getD, List.getElem?_eq_getElem h]
  rfl
/-- a row that is written from the front -/
def part (L : List Int) (i : Nat) : List Int := L.take i ++ List.replicate (L.length - i) 0
theorem part_len (L : List Int) {i : Nat} (h : i ≤ L.length) : (part L i).length = L.length := by unfold part; simp; omega
theorem part_set {L : List Int} {i : Nat} (h : i < L.length) : (part L i).set i (L.getD i 0) = part L (i + 1) := by
  unfold part
  rw [List.set_append_right _ _ (by simp; omega), List.length_take, Nat.min_eq_left (by omega), Nat.sub_self]
  obtain ⟨e, he⟩ : ∃ e, L.length - i = e + 1 := ⟨L.length - i - 1, by omega⟩
  rw [he, List.replicate_succ, List.set_cons_zero, show L.length - (i + 1) = e by omega, List.take_succ_eq_append_getElem h, List.append_assoc]
  rw [List.getD_eq_getElem?_getD, List.getElem?_eq_getElem h]
  rfl
theorem part_all (L : List Int) : part L L.length = L := by unfold part; simp
theorem part_0 (L : List Int) : part L 0 = List.replicate L.length 0 := by unfold part; simp
theorem hvL (lf d n : Nat) (h : H) (v : Value) (xs : List Int) (hR : Row h n 3 .i64 v xs) (hl : xs.length ≤ 1000000) (hx : ∀ x ∈ xs, x ≤ 9223372036854775807) (x2 : Value) (c : Nat) (hc : xs.length ≤ c) {W : Nat → Prop} {n0 : Nat} (hn0 : n0 ≤ n) :
    ∀ (m i fu : Nat) (h1 : H), xs.length - i = m → m < fu → i ≤ xs.length → (∀ b, b < n → h1.get b = h.get b) → h1.get n = some ⟨3, true, ints (part (halvL xs) i)⟩ →
      Run W n0 (lpA_lens_Halved lf d fu (kcA_lens_Halved lf d) v x2 (.slice (some ⟨n, 0, none⟩) xs.length c) v (.int .i64 (xs.length : Nat)) (.int .i64 (i : Nat))) h1 (n + 1) (fun v' h' n' => Row h' n' 3 .i64 v' (halvL xs) ∧ ∀ b, InBlk v' b → n ≤ b) := by
  intro m
  induction m with
  | zero =>
    intro i fu h1 hm hfu hi hk hg1
    obtain ⟨fu, rfl⟩ : ∃ f, fu = f + 1 := ⟨fu - 1, by omega⟩
    obtain rfl : i = xs.length := by omega
    rw [succA_lens_Halved]
    try simp (disch := first | omega | assumption | exact one_int _ _ | exact one_slice _ _ _ | exact one_ptr _ | exact one_bool _ | exact one_string _) only [RXA, RXB, Nat.reduceAdd, Nat.reduceLT, wrap_id, wrap_succ, wrap_pred, FX1, Int.lt_irrefl]
    rw [kcAa_lens_Halved]
    try simp (disch := first | omega | assumption | exact one_int _ _ | exact one_slice _ _ _ | exact one_ptr _ | exact one_bool _ | exact one_string _) only [RXA, RXB, Nat.reduceAdd, Nat.reduceLT, wrap_id, wrap_succ, wrap_pred, FX1]
    rw [← halvL_len xs, part_all] at hg1
    refine ⟨.inr ⟨n, 0, c, true, _, by rw [halvL_len], hg1, Nat.lt_succ_self n, by rw [ints_len]; omega, ?_, by rw [halvL_len]; exact hc⟩, fun b hb => by rw [hb.inj]; exact Nat.le_refl n⟩
    rw [List.drop_zero, List.take_of_length_le (by rw [ints_len]; exact Nat.le_refl _)]
    rfl
  | succ m ih =>
    intro i fu h1 hm hfu hi hk hg1
    obtain ⟨fu, rfl⟩ : ∃ f, fu = f + 1 := ⟨fu - 1, by omega⟩
    have hR1 : Row h1 (n + 1) 3 .i64 v xs := hR.keep (Nat.le_succ n) hk
    have hlt := fun b hb => hR.lt (b := b) hb
    obtain ⟨b, off, cap, o, cs, rfl, hg, hb, _, _, _, hat⟩ := hR1.some (by omega)
    have hbn : b < n := hlt b ⟨_, _, _, rfl⟩
    have e1 : ((i : Nat) : Int) < ((xs.length : Nat) : Int) := by omega
    have c1 := hat i (by omega)
    have w1 : ((i : Nat) : Int) + 1 = ((i + 1 : Nat) : Int) := by omega
    have hxi := hx (xs.getD i 0) (by rw [List.getD_eq_getElem?_getD, List.getElem?_eq_getElem (by omega)]; exact List.getElem_mem _)
    obtain ⟨wa, wb⟩ := halv_wrap _ hxi
    have pl : (part (halvL xs) i).length = xs.length := by rw [part_len _ (by rw [halvL_len]; omega), halvL_len]
    have ps : (part (halvL xs) i).set i (halv1 (xs.getD i 0)) = part (halvL xs) (i + 1) := by rw [← halvL_at (by omega), part_set (by rw [halvL_len]; omega)]
    rw [succA_lens_Halved]
    try simp (disch := first | omega | assumption | exact one_int _ _ | exact one_slice _ _ _ | exact one_ptr _ | exact one_bool _ | exact one_string _) only [RXA, RXB, Nat.reduceAdd, Nat.reduceLT, wrap_id, wrap_succ, wrap_pred, FX1, e1, hg, c1, wa, wb, hg1, ints_set, ints_len, pl, ps]
    refine ⟨by omega, .inl hn0, ?_⟩
    rw [w1]
    exact ih (i + 1) fu _ (by omega) (by omega) (by omega) (fun b hb => by rw [get_ne _ _ (by omega)]; exact hk b hb) (get_eq _ _ _)
theorem s_Halved (lf d n : Nat) (h : H) (v : Value) (xs : List Int) (hR : Row h n 3 .i64 v xs) (hl : xs.length ≤ 1000000) (hx : ∀ x ∈ xs, x ≤ 9223372036854775807) (hlf : 3000000 ≤ lf) :
    Run (fun _ => False) n (evCall2 Tryd.prog gt lf (d + 1) 56 #[v]) h n fun v' h' n' => Row h' n' 3 .i64 v' (halvL xs) ∧ ∀ b, InBlk v' b → n ≤ b := by
  rw [sh_lens_Halved]
  refine Run.inside_ ?_
  unfold b_lens_Halved
  have hR0 := hR
  obtain ⟨a, c, rfl⟩ := hR.len
  try simp (disch := first | omega | assumption | exact one_int _ _ | exact one_slice _ _ _ | exact one_ptr _ | exact one_bool _ | exact one_string _) only [RXA, RXB, Nat.reduceAdd, Nat.reduceLT, wrap_id, wrap_succ, wrap_pred, FX1]
  refine Ev.run_make c1x22 xs.length xs.length _ (Nat.le_refl _) (by omega) ?_
  try simp (disch := first | omega | assumption | exact one_int _ _ | exact one_slice _ _ _ | exact one_ptr _ | exact one_bool _ | exact one_string _) only [RXA, RXB, Nat.reduceAdd, Nat.reduceLT, wrap_id, wrap_succ, wrap_pred, FX1]
  refine hvL lf d n h _ xs hR0 hl hx _ xs.length (Nat.le_refl _) (Nat.le_refl n) xs.length 0 lf _ (by omega) (by omega) (by omega) (fun b hb => get_ne _ _ (by omega)) ?_
  rw [get_eq, part_0, halvL_len]
  unfold ints
  rw [List.map_replicate]

end Go.Proofs.YtdagfcflbphoiaaDoor
/- Layer 8 by the second form: counts, groups, sums; the program's. -/
namespace Go.Proofs.YtdagfcflbphoiaaDoor
set_option linter.unusedVariables false
set_option linter.unusedSimpArgs false
open Go.RowKit Ev Tb

theorem intsV_set (k : IntKind) (l : List Int) (i : Nat) (x : Int) : (intsV k l).set i (.int k x) = intsV k (l.set i x) := by unfold intsV; rw [List.map_set]
theorem intsV_rep (k : IntKind) (n : Nat) (x : Int) : List.replicate n (Value.int k x) = intsV k (List.replicate n x) := by unfold intsV; rw [List.map_replicate]
theorem Row.ofBlk {h : H} {n b : Nat} {e : TypeId} {o : Bool} {xs : List Int} {m : Nat} (hg : h.get b = some ⟨e, o, intsV .i64 xs⟩) (hb : b < n) (hm : xs.length = m) : Row h n e .i64 (.slice (some ⟨b, 0, none⟩) m m) xs := by
  subst hm
  exact .inr ⟨b, 0, xs.length, o, _, rfl, hg, hb, by rw [intsV_len]; omega, by rw [List.drop_zero, List.take_of_length_le (by rw [intsV_len]; omega)], Nat.le_refl _⟩
theorem run_sub {β : Type} {W : Nat → Prop} {n0 : Nat} {h : H} {n : Nat} {Q : β → H → Nat → Prop} {v : Value} {xs : List Int} (hR : Row h n 3 .i64 v xs) {l hh : Nat} (h1 : l < hh) (h2 : hh ≤ xs.length) {kd kd' : IntKind} (k : Value → M β)
    (y : ∀ v', Row h n 3 .i64 v' ((xs.drop l).take (hh - l)) → Run W n0 (k v') h n Q) : Run W n0 (slice2 Tryd.prog 22 v (some (.int kd (l : Int))) (some (.int kd' (hh : Int))) none k) h n Q := by
  rcases hR with ⟨a, c, rfl, _, rfl⟩ | ⟨b, off, cap, o, cs, rfl, hg, hb, hle, ht, hc⟩
  · simp at h2; omega
  · refine slice_run c1x22 hg rfl hb off xs.length cap _ _ (bound_nat _ _ _) (bound_nat _ _ _) (by omega) h2 hc _ (by kernel_rfl) ?_
    rw [if_neg (by omega)]
    have hlen : ((xs.drop l).take (hh - l)).length = hh - l := by simp; omega
    refine y _ (.inr ⟨b, off + l, cap - l, o, cs, by rw [hlen], hg, hb, by rw [hlen]; omega, ?_, by rw [hlen]; omega⟩)
    rw [hlen]
    have : (cs.drop (off + l)).take (hh - l) = (((cs.drop off).take xs.length).drop l).take (hh - l) := by
      rw [List.drop_take, List.take_take, List.drop_drop, Nat.min_eq_left (by omega)]
    rw [this, ht]
    unfold intsV
    rw [List.map_take, List.map_drop]

section
variable (lf d n : Nat) (h : H) (hlf : 3000000 ≤ lf)
theorem s_Counts_size (v : Value) (z : Int) (hz : z < 3 ∨ 258 < z) : Run (fun _ => False) n (evCall2 Tryd.prog gt lf (d + 1) 34 #[v, .int .i64 z]) h n fun v' h' n' => v' = .tuple #[.slice none 0 0, .int .i64 1] ∧ h' = h ∧ n' = n := by
  rw [sh_freq_Counts]
  refine Run.inside_ ?_
  unfold b_freq_Counts
  by_cases c : z < 3
  · try simp (disch := first | omega | assumption | exact one_int _ _ | exact one_slice _ _ _ | exact one_ptr _ | exact one_bool _ | exact one_string _) only [RXA, RXB, Nat.reduceAdd, Nat.reduceLT, wrap_id, wrap_succ, wrap_pred, FX1, c]
  · have c2 : 258 < z := by omega
    try simp (disch := first | omega | assumption | exact one_int _ _ | exact one_slice _ _ _ | exact one_ptr _ | exact one_bool _ | exact one_string _) only [RXA, RXB, Nat.reduceAdd, Nat.reduceLT, wrap_id, wrap_succ, wrap_pred, FX1, c, c2]
include hlf
theorem s_Counts (v : Value) (xs : List Int) (hR : Row h n 3 .i64 v xs) (hl : xs.length ≤ 1000000) (s : Nat) (h3 : 3 ≤ s) (h258 : s ≤ 258) :
    Run (fun _ => False) n (evCall2 Tryd.prog gt lf (d + 1) 34 #[v, .int .i64 (s : Int)]) h n fun v' h' n' => (inB s xs = true ∧ ∃ u, v' = .tuple #[u, .int .i64 0] ∧ Row h' n' 3 .i64 u (countsL xs s)) ∨ (inB s xs = false ∧ v' = .tuple #[.slice none 0 0, .int .i64 1]) := by
  rw [sh_freq_Counts]
  refine Run.inside_ ?_
  unfold b_freq_Counts
  have hR0 := hR
  obtain ⟨a, c, rfl⟩ := hR.len
  have e1 : ¬ ((s : Int) < 3) := by omega
  have e2 : ¬ ((258 : Int) < (s : Int)) := by omega
  try simp (disch := first | omega | assumption | exact one_int _ _ | exact one_slice _ _ _ | exact one_ptr _ | exact one_bool _ | exact one_string _) only [RXA, RXB, Nat.reduceAdd, Nat.reduceLT, wrap_id, wrap_succ, wrap_pred, FX1, e1, e2]
  refine Ev.run_make c1x22 s s _ (Nat.le_refl _) (by omega) ?_
  try simp (disch := first | omega | assumption | exact one_int _ _ | exact one_slice _ _ _ | exact one_ptr _ | exact one_bool _ | exact one_string _) only [RXA, RXB, Nat.reduceAdd, Nat.reduceLT, wrap_id, wrap_succ, wrap_pred, FX1]
  refine run_for xs.length (fun fu i (_ : Unit) => lpA_freq_Counts lf d fu (kcA_freq_Counts lf d) _ _ (.slice none 0 0) (.int .i64 0) (.slice (some ⟨n, 0, none⟩) s s) (.bool false) _ (.int .i64 (xs.length : Nat)) (.int .i64 (i : Nat)))
    (fun i _ h' n' => n' = n + 1 ∧ (∀ b, b < n → h'.get b = h.get b) ∧ h'.get n = some ⟨3, true, intsV .i64 (countsL (xs.take i) s)⟩ ∧ inB s (xs.take i) = true) ?_ ?_ lf 0 () _ _ (Nat.zero_le _) (by omega) ⟨rfl, fun b hb => get_ne _ _ (by omega), by rw [get_eq, List.take_zero, countsL_nil, intsV_rep], rfl⟩
  · rintro fu _ h' n' ⟨rfl, hk, hg, ha⟩
    rw [succA_freq_Counts]
    try simp (disch := first | omega | assumption | exact one_int _ _ | exact one_slice _ _ _ | exact one_ptr _ | exact one_bool _ | exact one_string _) only [RXA, RXB, Nat.reduceAdd, Nat.reduceLT, wrap_id, wrap_succ, wrap_pred, FX1, Int.lt_irrefl]
    rw [kcAb_freq_Counts]
    try simp (disch := first | omega | assumption | exact one_int _ _ | exact one_slice _ _ _ | exact one_ptr _ | exact one_bool _ | exact one_string _) only [RXA, RXB, Nat.reduceAdd, Nat.reduceLT, wrap_id, wrap_succ, wrap_pred, FX1]
    rw [List.take_length] at ha hg
    exact .inl ⟨ha, _, rfl, Row.ofBlk hg (by omega) (countsL_len _ _)⟩
  · rintro fu i _ h' n' hi ⟨rfl, hk, hgn, ha⟩ next
    have hR1 := hR0.keep (Nat.le_succ n) hk
    obtain ⟨b, off, cap, o, cs, hv, hg, hb, _, _, _, hat⟩ := hR1.some (by omega)
    cases hv
    have e3 : ((i : Nat) : Int) < ((xs.length : Nat) : Int) := by omega
    have c1 := hat i hi
    have w1 := w_next hi (by omega)
    rw [succA_freq_Counts]
    by_cases h1 : xs.getD i 0 < 0
    · have hb : inB s xs = false := inB_neg hi h1
      try simp (disch := first | omega | assumption | exact one_int _ _ | exact one_slice _ _ _ | exact one_ptr _ | exact one_bool _ | exact one_string _) only [RXA, RXB, Nat.reduceAdd, Nat.reduceLT, wrap_id, wrap_succ, wrap_pred, FX1, e3, hg, c1, h1]
      rw [kcAa_freq_Counts]
      try simp (disch := first | omega | assumption | exact one_int _ _ | exact one_slice _ _ _ | exact one_ptr _ | exact one_bool _ | exact one_string _) only [RXA, RXB, Nat.reduceAdd, Nat.reduceLT, wrap_id, wrap_succ, wrap_pred, FX1]
      first | exact .inr hb | exact .inr ⟨hb, rfl⟩
    · by_cases h2 : (s : Int) ≤ xs.getD i 0
      · have hb : inB s xs = false := inB_big hi h2
        try simp (disch := first | omega | assumption | exact one_int _ _ | exact one_slice _ _ _ | exact one_ptr _ | exact one_bool _ | exact one_string _) only [RXA, RXB, Nat.reduceAdd, Nat.reduceLT, wrap_id, wrap_succ, wrap_pred, FX1, e3, hg, c1, h1, h2]
        rw [kcAa_freq_Counts]
        try simp (disch := first | omega | assumption | exact one_int _ _ | exact one_slice _ _ _ | exact one_ptr _ | exact one_bool _ | exact one_string _) only [RXA, RXB, Nat.reduceAdd, Nat.reduceLT, wrap_id, wrap_succ, wrap_pred, FX1]
        first | exact .inr hb | exact .inr ⟨hb, rfl⟩
      · obtain ⟨x, hx⟩ : ∃ x : Nat, xs.getD i 0 = (x : Int) := ⟨(xs.getD i 0).toNat, by omega⟩
        have e4 : ¬ (s : Int) ≤ (x : Int) := by omega
        have e5 : ¬ ((x : Int) < 0) := by omega
        have e6 : (x : Int) < (s : Int) := by omega
        have c2 : (intsV .i64 (countsL (xs.take i) s))[x]? = some (.int .i64 (cntv (xs.take i) x : Int)) := by
          rw [intsV_at (by rw [countsL_len]; omega), countsL_at (by omega)]
        have c3 := countsL_set hi hx (show x < s by omega)
        have c4 := cntv_le (xs.take i) x
        have c5 : (xs.take i).length ≤ 1000000 := by rw [List.length_take]; omega
        have c6 : IntKind.i64.wrap ((cntv (xs.take i) x : Int) + 1) = (cntv (xs.take i) x : Int) + 1 := wrap_id (by omega) (by omega)
        rw [hx] at c1
        try simp (disch := first | omega | assumption | exact one_int _ _ | exact one_slice _ _ _ | exact one_ptr _ | exact one_bool _ | exact one_string _) only [RXA, RXB, Nat.reduceAdd, Nat.reduceLT, wrap_id, wrap_succ, wrap_pred, FX1, e3, hg, c1, e4, e5, e6, hgn, c2, c6, intsV_set, c3, intsV_len, countsL_len]
        refine ⟨by omega, .inl (by omega), ?_⟩
        rw [show ((i : Nat) : Int) + 1 = ((i + 1 : Nat) : Int) by omega]
        refine next () _ _ ⟨rfl, fun b hb => by rw [get_ne _ _ (by omega)]; exact hk b hb, get_eq _ _ _, inB_next hi ha hx (by omega) e6⟩
omit hlf in
theorem s_fGroups (x : Nat) (hx : x ≤ 9223372036854775807) : Run (fun _ => False) n (evCall2 Tryd.prog gt lf (d + 1) 29 #[.int .i64 (x : Int)]) h n fun v' h' n' => v' = .int .i64 (grpN x : Int) ∧ h' = h ∧ n' = n := by
  rw [sh_freq_Groups]
  refine Run.inside_ ?_
  unfold b_freq_Groups
  by_cases c : x = 0
  · subst c
    have e1 : ((0 : Nat) : Int) ≤ 0 := by omega
    try simp (disch := first | omega | assumption | exact one_int _ _ | exact one_slice _ _ _ | exact one_ptr _ | exact one_bool _ | exact one_string _) only [RXA, RXB, Nat.reduceAdd, Nat.reduceLT, wrap_id, wrap_succ, wrap_pred, FX1, e1]
    all_goals (first | rfl | exact ⟨rfl, rfl, rfl⟩ | exact ⟨rfl, rfl⟩)
  · have e1 : ¬ ((x : Int) ≤ 0) := by omega
    have e2 : IntKind.i64.wrap ((x : Int) - 1) = ((x - 1 : Nat) : Int) := by rw [wrap_id (by omega) (by omega)]; omega
    have e3 : ((x - 1 : Nat) : Int).tdiv 50 = (((x - 1) / 50 : Nat) : Int) := rfl
    have e4 : IntKind.i64.wrap (((x - 1) / 50 : Nat) : Int) = (((x - 1) / 50 : Nat) : Int) := wrap_id (by omega) (by omega)
    have e5 : IntKind.i64.wrap ((((x - 1) / 50 : Nat) : Int) + 1) = (grpN x : Int) := by rw [wrap_id (by omega) (by omega)]; unfold grpN; omega
    try simp (disch := first | omega | assumption | exact one_int _ _ | exact one_slice _ _ _ | exact one_ptr _ | exact one_bool _ | exact one_string _) only [RXA, RXB, Nat.reduceAdd, Nat.reduceLT, wrap_id, wrap_succ, wrap_pred, FX1, e1, e2, e3, e4, e5]
omit hlf in
theorem s_fGroup (v : Value) (xs : List Int) (hR : Row h n 3 .i64 v xs) (hl : xs.length ≤ 1000000) (i : Nat) (hi : i < grpN xs.length) :
    Run (fun _ => False) n (evCall2 Tryd.prog gt lf (d + 3) 30 #[v, .int .i64 (i : Int)]) h n fun v' h' n' => ∃ u, v' = .tuple #[u, .int .i64 0] ∧ Row h' n' 3 .i64 u (grp xs i) := by
  rw [sh_freq_Group]
  refine Run.inside_ ?_
  unfold b_freq_Group
  have hR0 := hR
  obtain ⟨a, c, rfl⟩ := hR.len
  have e1 : ¬ ((i : Int) < 0) := by omega
  try simp (disch := first | omega | assumption | exact one_int _ _ | exact one_slice _ _ _ | exact one_ptr _ | exact one_bool _ | exact one_string _) only [RXA, RXB, Nat.reduceAdd, Nat.reduceLT, wrap_id, wrap_succ, wrap_pred, FX1, e1]
  refine run_same (s_fGroups lf (d + 1) n h xs.length (by omega)) (Nat.le_refl _) (fun _ _ h => h.elim) ?_
  have e2 : ¬ ((grpN xs.length : Int) ≤ (i : Int)) := by omega
  try simp (disch := first | omega | assumption | exact one_int _ _ | exact one_slice _ _ _ | exact one_ptr _ | exact one_bool _ | exact one_string _) only [RXA, RXB, Nat.reduceAdd, Nat.reduceLT, wrap_id, wrap_succ, wrap_pred, FX1, e2]
  have hp := grp_pos hi
  unfold grpN at hi
  have s1 : Run (fun _ => False) n (evCall2 Tryd.prog gt lf (d + 2) 47 #[.slice a xs.length c, .int .i64 (i : Int), .int .i64 50]) h n fun v' h' n' => Row h' n' 3 .i64 v' (grp xs i) := by
    rw [sh_freq_part_int]
    refine Run.inside_ ?_
    unfold b_freq_part_int
    have f1 : IntKind.i64.wrap ((i : Int) * 50) = ((50 * i : Nat) : Int) := by rw [wrap_id (by omega) (by omega)]; omega
    have f2 : IntKind.i64.wrap ((i : Int) + 1) = ((i + 1 : Nat) : Int) := w_next (N := 1000000) (by omega) (by omega)
    have f3 : IntKind.i64.wrap (((i + 1 : Nat) : Int) * 50) = ((50 * i + 50 : Nat) : Int) := by rw [wrap_id (by omega) (by omega)]; omega
    have f4 : (if ((50 * i + 50 : Nat) : Int) < ((xs.length : Nat) : Int) then ((50 * i + 50 : Nat) : Int) else ((xs.length : Nat) : Int)) = ((min xs.length (50 * i + 50) : Nat) : Int) := by split <;> omega
    try simp (disch := first | omega | assumption | exact one_int _ _ | exact one_slice _ _ _ | exact one_ptr _ | exact one_bool _ | exact one_string _) only [RXA, RXB, Nat.reduceAdd, Nat.reduceLT, wrap_id, wrap_succ, wrap_pred, FX1, f1, f2, f3, f4]
    refine run_sub hR0 (by omega) (by omega) _ fun v' hr => ?_
    have hg : (xs.drop (50 * i)).take (min xs.length (50 * i + 50) - 50 * i) = grp xs i := by
      unfold grp
      by_cases q : xs.length ≤ 50 * i + 50
      · rw [List.take_of_length_le (by simp; omega), List.take_of_length_le (by simp; omega)]
      · congr 1; omega
    rw [hg] at hr
    refine run_call okd (s_Clone lf d n h v' _ hr hp (by rw [grp_len]; omega)) (Nat.le_refl _) (fun _ _ h => h.elim) fun v1 h1 n1 hn1 fr1 hq => ?_
    try simp (disch := first | omega | assumption | exact one_int _ _ | exact one_slice _ _ _ | exact one_ptr _ | exact one_bool _ | exact one_string _) only [RXA, RXB, Nat.reduceAdd, Nat.reduceLT, wrap_id, wrap_succ, wrap_pred, FX1]
    exact hq.2.1
  refine run_call okd s1 (Nat.le_refl _) (fun _ _ h => h.elim) fun v1 h1 n1 hn1 fr1 hq => ?_
  try simp (disch := first | omega | assumption | exact one_int _ _ | exact one_slice _ _ _ | exact one_ptr _ | exact one_bool _ | exact one_string _) only [RXA, RXB, Nat.reduceAdd, Nat.reduceLT, wrap_id, wrap_succ, wrap_pred, FX1]
  exact ⟨_, rfl, hq⟩
theorem s_Add (v u : Value) (xs ys : List Int) (hR : Row h n 3 .i64 v xs) (hL : Row h n 3 .i64 u ys) (hl : xs.length ≤ 1000000) (hxy : xs.length = ys.length) (hx : allIn 0 1099511627776 xs = true) (hy : allIn 0 1099511627776 ys = true) :
    Run (fun _ => False) n (evCall2 Tryd.prog gt lf (d + 6) 51 #[v, u]) h n fun v' h' n' => ∃ z, v' = .tuple #[z, .int .i64 0] ∧ Row h' n' 3 .i64 z (addL xs ys) ∧ ∀ b, InBlk z b → n ≤ b := by
  rw [sh_freq_Add]
  refine Run.inside_ ?_
  unfold b_freq_Add
  have hR0 := hR
  have hL0 := hL
  obtain ⟨a, c, rfl⟩ := hR.len
  obtain ⟨a2, c2, rfl⟩ := hL.len
  have e1 : (((xs.length : Nat) : Int) != ((ys.length : Nat) : Int)) = false := by rw [hxy]; simp
  try simp (disch := first | omega | assumption | exact one_int _ _ | exact one_slice _ _ _ | exact one_ptr _ | exact one_bool _ | exact one_string _) only [RXA, RXB, Nat.reduceAdd, Nat.reduceLT, wrap_id, wrap_succ, wrap_pred, FX1, e1]
  refine run_same (s_all lf d n h hlf _ xs hR0 hl) (Nat.le_refl _) (fun _ _ h => h.elim) ?_
  rw [hx]
  try simp (disch := first | omega | assumption | exact one_int _ _ | exact one_slice _ _ _ | exact one_ptr _ | exact one_bool _ | exact one_string _) only [RXA, RXB, Nat.reduceAdd, Nat.reduceLT, wrap_id, wrap_succ, wrap_pred, FX1, Bool.not_true]
  refine run_same (s_all lf d n h hlf _ ys hL0 (by omega)) (Nat.le_refl _) (fun _ _ h => h.elim) ?_
  rw [hy]
  try simp (disch := first | omega | assumption | exact one_int _ _ | exact one_slice _ _ _ | exact one_ptr _ | exact one_bool _ | exact one_string _) only [RXA, RXB, Nat.reduceAdd, Nat.reduceLT, wrap_id, wrap_succ, wrap_pred, FX1, Bool.not_true]
  refine Ev.run_make c1x22 xs.length xs.length _ (Nat.le_refl _) (by omega) ?_
  try simp (disch := first | omega | assumption | exact one_int _ _ | exact one_slice _ _ _ | exact one_ptr _ | exact one_bool _ | exact one_string _) only [RXA, RXB, Nat.reduceAdd, Nat.reduceLT, wrap_id, wrap_succ, wrap_pred, FX1]
  have adl : (addL xs ys).length = xs.length := by unfold addL; simp
  have ada : ∀ i, i < xs.length → (addL xs ys).getD i 0 = capI (xs.getD i 0 + ys.getD i 0) := fun i hi => by
    unfold addL
    rw [List.getD_eq_getElem?_getD, List.getElem?_map, List.getElem?_range hi]
    rfl
  have hx' := allIn_iff.1 hx
  have hy' := allIn_iff.1 hy
  refine run_for xs.length (fun fu i (_ : Unit) => lpA_freq_Add lf (d + 5) fu (kcA_freq_Add lf (d + 5)) _ _ (.slice none 0 0) (.int .i64 0) (.slice (some ⟨n, 0, none⟩) xs.length xs.length) (.bool false) (.int .i64 (xs.length : Nat)) (.int .i64 (i : Nat)))
    (fun i _ h' n' => n' = n + 1 ∧ (∀ b, b < n → h'.get b = h.get b) ∧ h'.get n = some ⟨3, true, intsV .i64 (part (addL xs ys) i)⟩) ?_ ?_ lf 0 () _ _ (Nat.zero_le _) (by omega) ⟨rfl, fun b hb => get_ne _ _ (by omega), by rw [get_eq, part_0, adl, intsV_rep]⟩
  · rintro fu _ h' n' ⟨rfl, hk, hg⟩
    rw [succA_freq_Add]
    try simp (disch := first | omega | assumption | exact one_int _ _ | exact one_slice _ _ _ | exact one_ptr _ | exact one_bool _ | exact one_string _) only [RXA, RXB, Nat.reduceAdd, Nat.reduceLT, wrap_id, wrap_succ, wrap_pred, FX1, Int.lt_irrefl]
    rw [kcAa_freq_Add]
    try simp (disch := first | omega | assumption | exact one_int _ _ | exact one_slice _ _ _ | exact one_ptr _ | exact one_bool _ | exact one_string _) only [RXA, RXB, Nat.reduceAdd, Nat.reduceLT, wrap_id, wrap_succ, wrap_pred, FX1]
    rw [← adl, part_all] at hg
    exact ⟨_, rfl, Row.ofBlk hg (by omega) adl, fun b hb => by rw [hb.inj]; exact Nat.le_refl n⟩
  · rintro fu i _ h' n' hi ⟨rfl, hk, hgn⟩ next
    obtain ⟨b, off, cap, o, cs, hv, hg, hb, _, _, _, hat⟩ := (hR0.keep (Nat.le_succ n) hk).some (by omega)
    cases hv
    obtain ⟨b2, off2, cap2, o2, cs2, hv2, hg2, hb2, _, _, _, hat2⟩ := (hL0.keep (Nat.le_succ n) hk).some (by omega)
    cases hv2
    have e3 : ((i : Nat) : Int) < ((xs.length : Nat) : Int) := by omega
    have e4 : ((i : Nat) : Int) < ((ys.length : Nat) : Int) := by omega
    have c1 := hat i hi
    have c2 := hat2 i (by omega)
    have w1 := w_next hi (by omega)
    have b1 := hx' _ (gd_mem hi)
    have b2 := hy' _ (gd_mem (show i < ys.length by omega))
    have pl : (part (addL xs ys) i).length = xs.length := by rw [part_len _ (by omega), adl]
    have ps : (part (addL xs ys) i).set i (capI (xs.getD i 0 + ys.getD i 0)) = part (addL xs ys) (i + 1) := by rw [← ada i hi, part_set (by omega)]
    rw [succA_freq_Add]
    try simp (disch := first | omega | assumption | exact one_int _ _ | exact one_slice _ _ _ | exact one_ptr _ | exact one_bool _ | exact one_string _) only [RXA, RXB, Nat.reduceAdd, Nat.reduceLT, wrap_id, wrap_succ, wrap_pred, FX1, e3, e4, hg, c1, hg2, c2]
    refine run_same (s_together lf (d + 4) _ h' _ _ (by omega) (by omega)) (by omega) (fun _ _ h => h.elim) ?_
    try simp (disch := first | omega | assumption | exact one_int _ _ | exact one_slice _ _ _ | exact one_ptr _ | exact one_bool _ | exact one_string _) only [RXA, RXB, Nat.reduceAdd, Nat.reduceLT, wrap_id, wrap_succ, wrap_pred, FX1, e3, hgn, intsV_set, intsV_len, pl, ps]
    refine ⟨by omega, .inl (by omega), ?_⟩
    rw [show ((i : Nat) : Int) + 1 = ((i + 1 : Nat) : Int) by omega]
    exact next () _ _ ⟨rfl, fun b hb => by rw [get_ne _ _ (by omega)]; exact hk b hb, get_eq _ _ _⟩
end
end Go.Proofs.YtdagfcflbphoiaaDoor
/- Layer 8 by the second form: the reference's counts, groups, costs. -/
namespace Go.Proofs.YtdagfcflbphoiaaDoor
set_option linter.unusedVariables false
set_option linter.unusedSimpArgs false
open Go.RowKit Ev Tb

section
variable (lf d n : Nat) (h : H) (hlf : 3000000 ≤ lf)
theorem r_Size (z : Int) : Run (fun _ => False) n (evCall2 Tryd.prog gt lf (d + 1) 14 #[.int .i64 z]) h n fun v' h' n' => v' = .bool (decide (3 ≤ z) && decide (z ≤ 258)) ∧ h' = h ∧ n' = n := by
  rw [sh_balerref08_Size]
  refine Run.inside_ ?_
  unfold b_balerref08_Size
  by_cases c : 3 ≤ z
  · try simp (disch := first | omega | assumption | exact one_int _ _ | exact one_slice _ _ _ | exact one_ptr _ | exact one_bool _ | exact one_string _) only [RXA, RXB, Nat.reduceAdd, Nat.reduceLT, wrap_id, wrap_succ, wrap_pred, FX1, c]
  · try simp (disch := first | omega | assumption | exact one_int _ _ | exact one_slice _ _ _ | exact one_ptr _ | exact one_bool _ | exact one_string _) only [RXA, RXB, Nat.reduceAdd, Nat.reduceLT, wrap_id, wrap_succ, wrap_pred, FX1, c]
theorem r_most (z : Int) : Run (fun _ => False) n (evCall2 Tryd.prog gt lf (d + 1) 33 #[.int .i64 z]) h n fun v' h' n' => v' = .int .i64 (capI z) ∧ h' = h ∧ n' = n := by
  rw [sh_balerref08_most]
  refine Run.inside_ ?_
  unfold b_balerref08_most capI
  by_cases c : 1099511627776 < z
  · try simp (disch := first | omega | assumption | exact one_int _ _ | exact one_slice _ _ _ | exact one_ptr _ | exact one_bool _ | exact one_string _) only [RXA, RXB, Nat.reduceAdd, Nat.reduceLT, wrap_id, wrap_succ, wrap_pred, FX1, c]
  · try simp (disch := first | omega | assumption | exact one_int _ _ | exact one_slice _ _ _ | exact one_ptr _ | exact one_bool _ | exact one_string _) only [RXA, RXB, Nat.reduceAdd, Nat.reduceLT, wrap_id, wrap_succ, wrap_pred, FX1, c]
include hlf
theorem r_Of (v : Value) (xs : List Int) (hR : Row h n 3 .i64 v xs) (hl : xs.length ≤ 1000000) (z : Int) :
    Run (fun _ => False) n (evCall2 Tryd.prog gt lf (d + 1) 11 #[v, .int .i64 z]) h n fun v' h' n' => v' = .bool (inB z xs) ∧ h' = h ∧ n' = n := by
  rw [sh_balerref08_Of]
  refine Run.inside_ ?_
  unfold b_balerref08_Of
  have hR0 := hR
  obtain ⟨a, c, rfl⟩ := hR.len
  try simp (disch := first | omega | assumption | exact one_int _ _ | exact one_slice _ _ _ | exact one_ptr _ | exact one_bool _ | exact one_string _) only [RXA, RXB, Nat.reduceAdd, Nat.reduceLT, wrap_id, wrap_succ, wrap_pred, FX1]
  refine run_for xs.length (fun fu i (_ : Unit) => lpA_balerref08_Of lf d fu (kcA_balerref08_Of lf d) _ _ _ _ (.int .i64 (xs.length : Nat)) (.int .i64 (i : Nat))) (fun i _ h' n' => (h' = h ∧ n' = n) ∧ inB z (xs.take i) = true) ?_ ?_ lf 0 () h n (Nat.zero_le _) (by omega) ⟨⟨rfl, rfl⟩, rfl⟩
  · rintro fu _ h' n' ⟨⟨rfl, rfl⟩, ha⟩
    rw [List.take_length] at ha
    rw [succA_balerref08_Of, ha]
    try simp (disch := first | omega | assumption | exact one_int _ _ | exact one_slice _ _ _ | exact one_ptr _ | exact one_bool _ | exact one_string _) only [RXA, RXB, Nat.reduceAdd, Nat.reduceLT, wrap_id, wrap_succ, wrap_pred, FX1, Int.lt_irrefl]
    rw [kcAb_balerref08_Of]
    try simp (disch := first | omega | assumption | exact one_int _ _ | exact one_slice _ _ _ | exact one_ptr _ | exact one_bool _ | exact one_string _) only [RXA, RXB, Nat.reduceAdd, Nat.reduceLT, wrap_id, wrap_succ, wrap_pred, FX1]
  · rintro fu i _ h' n' hi ⟨⟨rfl, rfl⟩, ha⟩ next
    obtain ⟨b, off, cap, o, cs, hv, hg, hb, _, _, _, hat⟩ := hR0.some (by omega)
    cases hv
    have e1 : ((i : Nat) : Int) < ((xs.length : Nat) : Int) := by omega
    have c1 := hat i hi
    rw [succA_balerref08_Of]
    by_cases h1 : xs.getD i 0 < 0
    · rw [inB_neg hi h1]
      try simp (disch := first | omega | assumption | exact one_int _ _ | exact one_slice _ _ _ | exact one_ptr _ | exact one_bool _ | exact one_string _) only [RXA, RXB, Nat.reduceAdd, Nat.reduceLT, wrap_id, wrap_succ, wrap_pred, FX1, e1, hg, c1, h1]
      rw [kcAa_balerref08_Of]
      try simp (disch := first | omega | assumption | exact one_int _ _ | exact one_slice _ _ _ | exact one_ptr _ | exact one_bool _ | exact one_string _) only [RXA, RXB, Nat.reduceAdd, Nat.reduceLT, wrap_id, wrap_succ, wrap_pred, FX1]
    · by_cases h2 : z ≤ xs.getD i 0
      · rw [inB_big hi h2]
        try simp (disch := first | omega | assumption | exact one_int _ _ | exact one_slice _ _ _ | exact one_ptr _ | exact one_bool _ | exact one_string _) only [RXA, RXB, Nat.reduceAdd, Nat.reduceLT, wrap_id, wrap_succ, wrap_pred, FX1, e1, hg, c1, h1, h2]
        rw [kcAa_balerref08_Of]
        try simp (disch := first | omega | assumption | exact one_int _ _ | exact one_slice _ _ _ | exact one_ptr _ | exact one_bool _ | exact one_string _) only [RXA, RXB, Nat.reduceAdd, Nat.reduceLT, wrap_id, wrap_succ, wrap_pred, FX1]
      · try simp (disch := first | omega | assumption | exact one_int _ _ | exact one_slice _ _ _ | exact one_ptr _ | exact one_bool _ | exact one_string _) only [RXA, RXB, Nat.reduceAdd, Nat.reduceLT, wrap_id, wrap_succ, wrap_pred, FX1, e1, hg, c1, h1, h2]
        exact next () _ _ ⟨⟨rfl, rfl⟩, inB_next hi ha rfl (by omega) (by omega)⟩
theorem r_count (v : Value) (xs : List Int) (hR : Row h n 3 .i64 v xs) (hl : xs.length ≤ 1000000) (z : Nat) :
    Run (fun _ => False) n (evCall2 Tryd.prog gt lf (d + 1) 32 #[v, .int .i64 (z : Int)]) h n fun v' h' n' => v' = .int .i64 (cntv xs z : Int) ∧ h' = h ∧ n' = n := by
  rw [sh_balerref08_count]
  refine Run.inside_ ?_
  unfold b_balerref08_count
  have hR0 := hR
  obtain ⟨a, c, rfl⟩ := hR.len
  try simp (disch := first | omega | assumption | exact one_int _ _ | exact one_slice _ _ _ | exact one_ptr _ | exact one_bool _ | exact one_string _) only [RXA, RXB, Nat.reduceAdd, Nat.reduceLT, wrap_id, wrap_succ, wrap_pred, FX1]
  refine run_for xs.length (fun fu i (a : Nat) => lpA_balerref08_count lf d fu (kcA_balerref08_count lf d) _ _ _ (.int .i64 (a : Int)) _ (.int .i64 (xs.length : Nat)) (.int .i64 (i : Nat))) (fun i a h' n' => (h' = h ∧ n' = n) ∧ a = cntv (xs.take i) z) ?_ ?_ lf 0 0 h n (Nat.zero_le _) (by omega) ⟨⟨rfl, rfl⟩, rfl⟩
  · rintro fu q h' n' ⟨⟨rfl, rfl⟩, rfl⟩
    rw [succA_balerref08_count, List.take_length]
    try simp (disch := first | omega | assumption | exact one_int _ _ | exact one_slice _ _ _ | exact one_ptr _ | exact one_bool _ | exact one_string _) only [RXA, RXB, Nat.reduceAdd, Nat.reduceLT, wrap_id, wrap_succ, wrap_pred, FX1, Int.lt_irrefl]
    rw [kcAa_balerref08_count]
    try simp (disch := first | omega | assumption | exact one_int _ _ | exact one_slice _ _ _ | exact one_ptr _ | exact one_bool _ | exact one_string _) only [RXA, RXB, Nat.reduceAdd, Nat.reduceLT, wrap_id, wrap_succ, wrap_pred, FX1]
  · rintro fu i q h' n' hi ⟨⟨rfl, rfl⟩, rfl⟩ next
    obtain ⟨b, off, cap, o, cs, hv, hg, hb, _, _, _, hat⟩ := hR0.some (by omega)
    cases hv
    have e1 : ((i : Nat) : Int) < ((xs.length : Nat) : Int) := by omega
    have c1 := hat i hi
    have k1 := cntv_le (xs.take i) z
    have k2 : (xs.take i).length ≤ 1000000 := by rw [List.length_take]; omega
    have k3 := cntv_next hi z
    rw [succA_balerref08_count]
    by_cases h1 : xs.getD i 0 = (z : Int)
    · have n1 : ((z : Int) == xs.getD i 0) = true := by rw [h1]; simp
      rw [if_pos h1] at k3
      try simp (disch := first | omega | assumption | exact one_int _ _ | exact one_slice _ _ _ | exact one_ptr _ | exact one_bool _ | exact one_string _) only [RXA, RXB, Nat.reduceAdd, Nat.reduceLT, wrap_id, wrap_succ, wrap_pred, FX1, e1, hg, c1, n1]
      exact next (cntv (xs.take i) z + 1) _ _ ⟨⟨rfl, rfl⟩, k3.symm⟩
    · have n1 : ((z : Int) == xs.getD i 0) = false := beq_eq_false_iff_ne.2 fun e => h1 e.symm
      rw [if_neg h1] at k3
      try simp (disch := first | omega | assumption | exact one_int _ _ | exact one_slice _ _ _ | exact one_ptr _ | exact one_bool _ | exact one_string _) only [RXA, RXB, Nat.reduceAdd, Nat.reduceLT, wrap_id, wrap_succ, wrap_pred, FX1, e1, hg, c1, n1]
      exact next (cntv (xs.take i) z) _ _ ⟨⟨rfl, rfl⟩, k3.symm⟩
theorem r_Counts (v : Value) (xs : List Int) (hR : Row h n 3 .i64 v xs) (hl : xs.length ≤ 1000000) (s : Nat) (hs : s ≤ 1000) :
    Run (fun _ => False) n (evCall2 Tryd.prog gt lf (d + 2) 44 #[v, .int .i64 (s : Int)]) h n fun v' h' n' => Row h' n' 3 .i64 v' (countsL xs s) := by
  rw [sh_balerref08_Counts]
  refine Run.inside_ ?_
  unfold b_balerref08_Counts
  refine run_for s (fun fu i (u : Value) => lpA_balerref08_Counts lf (d + 1) fu (kcA_balerref08_Counts lf (d + 1)) _ _ _ u (.int .i64 (s : Nat)) (.int .i64 (i : Nat))) (fun i u h' n' => n ≤ n' ∧ (∀ b, b < n → h'.get b = h.get b) ∧ Own h' n n' 3 u (intsV .i64 (countsL xs i))) ?_ ?_ lf 0 _ h n (Nat.zero_le _) (by omega) ⟨Nat.le_refl _, fun _ _ => rfl, Own.nil _ _ _ _⟩
  · rintro fu u h' n' ⟨hn, hk, hO⟩
    rw [succA_balerref08_Counts]
    try simp (disch := first | omega | assumption | exact one_int _ _ | exact one_slice _ _ _ | exact one_ptr _ | exact one_bool _ | exact one_string _) only [RXA, RXB, Nat.reduceAdd, Nat.reduceLT, wrap_id, wrap_succ, wrap_pred, FX1, Int.lt_irrefl]
    rw [kcAa_balerref08_Counts]
    try simp (disch := first | omega | assumption | exact one_int _ _ | exact one_slice _ _ _ | exact one_ptr _ | exact one_bool _ | exact one_string _) only [RXA, RXB, Nat.reduceAdd, Nat.reduceLT, wrap_id, wrap_succ, wrap_pred, FX1]
    exact hO.row
  · rintro fu i u h' n' hi ⟨hn, hk, hO⟩ next
    have e1 : ((i : Nat) : Int) < ((s : Nat) : Int) := by omega
    rw [succA_balerref08_Counts]
    try simp (disch := first | omega | assumption | exact one_int _ _ | exact one_slice _ _ _ | exact one_ptr _ | exact one_bool _ | exact one_string _) only [RXA, RXB, Nat.reduceAdd, Nat.reduceLT, wrap_id, wrap_succ, wrap_pred, FX1, e1]
    refine run_same (r_count lf d n' h' hlf v xs (hR.keep hn hk) hl i) hn (fun _ _ h => h.elim) ?_
    refine run_pushO c1x22 (one_int _ _) hO (by rw [intsV_len, countsL_len]; omega) (Nat.le_refl _) _ fun h2 g2 k2 => ?_
    try simp (disch := first | omega | assumption | exact one_int _ _ | exact one_slice _ _ _ | exact one_ptr _ | exact one_bool _ | exact one_string _) only [RXA, RXB, Nat.reduceAdd, Nat.reduceLT, wrap_id, wrap_succ, wrap_pred, FX1]
    have e2 : intsV .i64 (countsL xs i) ++ [.int .i64 (cntv xs i : Int)] = intsV .i64 (countsL xs (i + 1)) := by
      unfold countsL intsV
      rw [List.range_succ, List.map_append, List.map_append]
      rfl
    rw [e2] at g2
    exact next _ h2 (n' + 2) ⟨by omega, fun b hb => by rw [k2 b (by omega) fun q => by have := (hO.lt q).1; omega]; exact hk b hb, Own.mk' g2 (by omega) (by omega) (by rw [← e2]; simp)⟩
/-- what symbols cost, by how often each is there -/
theorem r_Cost (v u : Value) (xs ls : List Int) (hR : Row h n 3 .i64 v xs) (hL : Row h n 3 .i64 u ls) (hl : xs.length ≤ 1000000) (hl2 : ls.length ≤ 1000000) (hm : ∀ y ∈ ls, 0 ≤ y ∧ y ≤ 1099511627776) (hx : inB ls.length xs = true) :
    Run (fun _ => False) n (evCall2 Tryd.prog gt lf (d + 2) 13 #[v, u]) h n fun v' h' n' => v' = .int .i64 (costL xs ls) ∧ h' = h ∧ n' = n := by
  rw [sh_balerref08_Cost]
  refine Run.inside_ ?_
  unfold b_balerref08_Cost
  have hL0 := hL
  obtain ⟨a, c, rfl⟩ := hL.len
  try simp (disch := first | omega | assumption | exact one_int _ _ | exact one_slice _ _ _ | exact one_ptr _ | exact one_bool _ | exact one_string _) only [RXA, RXB, Nat.reduceAdd, Nat.reduceLT, wrap_id, wrap_succ, wrap_pred, FX1]
  refine run_for ls.length (fun fu i (a : Int) => lpA_balerref08_Cost lf (d + 1) fu (kcA_balerref08_Cost lf (d + 1)) _ _ (.int .i64 0) (.int .i64 a) _ (.int .i64 (ls.length : Nat)) (.int .i64 (i : Nat))) (fun i a h' n' => (h' = h ∧ n' = n) ∧ a = capI (costU xs ls i)) ?_ ?_ lf 0 0 h n (Nat.zero_le _) (by omega) ⟨⟨rfl, rfl⟩, rfl⟩
  · rintro fu q h' n' ⟨⟨rfl, rfl⟩, rfl⟩
    rw [succA_balerref08_Cost]
    try simp (disch := first | omega | assumption | exact one_int _ _ | exact one_slice _ _ _ | exact one_ptr _ | exact one_bool _ | exact one_string _) only [RXA, RXB, Nat.reduceAdd, Nat.reduceLT, wrap_id, wrap_succ, wrap_pred, FX1, Int.lt_irrefl]
    rw [kcAa_balerref08_Cost]
    try simp (disch := first | omega | assumption | exact one_int _ _ | exact one_slice _ _ _ | exact one_ptr _ | exact one_bool _ | exact one_string _) only [RXA, RXB, Nat.reduceAdd, Nat.reduceLT, wrap_id, wrap_succ, wrap_pred, FX1]
    unfold costU costL
    rw [cost_counts (inB_iff.1 hx)]
  · rintro fu i q h' n' hi ⟨⟨rfl, rfl⟩, rfl⟩ next
    obtain ⟨b, off, cap, o, cs, hv, hg, hb, _, _, _, hat⟩ := hL0.some (by omega)
    cases hv
    have e1 : ((i : Nat) : Int) < ((ls.length : Nat) : Int) := by omega
    have c1 := hat i hi
    rw [succA_balerref08_Cost]
    try simp (disch := first | omega | assumption | exact one_int _ _ | exact one_slice _ _ _ | exact one_ptr _ | exact one_bool _ | exact one_string _) only [RXA, RXB, Nat.reduceAdd, Nat.reduceLT, wrap_id, wrap_succ, wrap_pred, FX1, e1, hg, c1]
    refine run_same (r_count lf d _ h' hlf v xs hR hl i) (Nat.le_refl _) (fun _ _ h => h.elim) ?_
    obtain ⟨y, hy⟩ : ∃ y, ls.getD i 0 = y := ⟨_, rfl⟩
    have hyb := hm _ (gd_mem hi)
    rw [hy] at hyb
    rw [hy]
    have cu : 0 ≤ costU xs ls i := by
      unfold costU
      refine sumI_ge fun x hx => ?_
      obtain ⟨w, _, rfl⟩ := List.mem_map.1 hx
      exact Int.mul_nonneg (by omega) (getD_ge (fun x hx => (hm x hx).1) w)
    have kc := cntv_le xs i
    refine run_for (cntv xs i) (fun f2 j (a : Int) => lpB_balerref08_Cost lf (d + 1) f2 (kcB_balerref08_Cost lf (d + 1) fu (kcA_balerref08_Cost lf (d + 1))) _ _ _ (.int .i64 a) _ (.int .i64 y) _ _ (.int .i64 (i : Nat)) _ (.int .i64 (cntv xs i : Nat)) (.int .i64 (j : Nat))) (fun j a h2 n2 => (h2 = h' ∧ n2 = n') ∧ a = capI (costU xs ls i + (j : Int) * y)) ?_ ?_ lf 0 _ h' n' (Nat.zero_le _) (by omega) ⟨⟨rfl, rfl⟩, by simp⟩
    · rintro f2 q h2 n2 ⟨⟨rfl, rfl⟩, rfl⟩
      rw [succB_balerref08_Cost]
      try simp (disch := first | omega | assumption | exact one_int _ _ | exact one_slice _ _ _ | exact one_ptr _ | exact one_bool _ | exact one_string _) only [RXA, RXB, Nat.reduceAdd, Nat.reduceLT, wrap_id, wrap_succ, wrap_pred, FX1, Int.lt_irrefl]
      rw [kcBa_balerref08_Cost]
      try simp (disch := first | omega | assumption | exact one_int _ _ | exact one_slice _ _ _ | exact one_ptr _ | exact one_bool _ | exact one_string _) only [RXA, RXB, Nat.reduceAdd, Nat.reduceLT, wrap_id, wrap_succ, wrap_pred, FX1]
      exact next _ _ _ ⟨⟨rfl, rfl⟩, by rw [costU_next, hy]⟩
    · rintro f2 j q h2 n2 hj ⟨⟨rfl, rfl⟩, rfl⟩ next2
      have e3 : ((j : Nat) : Int) < ((cntv xs i : Nat) : Int) := by omega
      have k0 : 0 ≤ (j : Int) * y := Int.mul_nonneg (by omega) hyb.1
      have k1 := capI_le (costU xs ls i + (j : Int) * y)
      have k2 := capI_ge (x := costU xs ls i + (j : Int) * y) (by omega)
      rw [succB_balerref08_Cost]
      try simp (disch := first | omega | assumption | exact one_int _ _ | exact one_slice _ _ _ | exact one_ptr _ | exact one_bool _ | exact one_string _) only [RXA, RXB, Nat.reduceAdd, Nat.reduceLT, wrap_id, wrap_succ, wrap_pred, FX1, e3]
      refine run_same (r_most lf d _ h2 _) (Nat.le_refl _) (fun _ _ h => h.elim) ?_
      try simp (disch := first | omega | assumption | exact one_int _ _ | exact one_slice _ _ _ | exact one_ptr _ | exact one_bool _ | exact one_string _) only [RXA, RXB, Nat.reduceAdd, Nat.reduceLT, wrap_id, wrap_succ, wrap_pred, FX1]
      refine next2 _ _ _ ⟨⟨rfl, rfl⟩, ?_⟩
      rw [capI_cap hyb.1]
      congr 1
      simp only [Int.natCast_add, Int.add_mul, Int.natCast_one, Int.one_mul]
      omega
end
end Go.Proofs.YtdagfcflbphoiaaDoor
/- None is cheaper: depths that merging gives cost no more than any lengths whose share is no more than one. No program in sight. -/
namespace Go.Proofs.YtdagfcflbphoiaaDoor
set_option linter.unusedVariables false
set_option linter.unusedSimpArgs false
open Hu

end Go.Proofs.YtdagfcflbphoiaaDoor
/- The statements LensOrder and LensCheap, walked by the second form. -/
namespace Go.Proofs.YtdagfcflbphoiaaDoor
set_option linter.unusedVariables false
set_option linter.unusedSimpArgs false
open Go.RowKit Ev Hu

theorem ext0 (a b : Value) : evExtract (.tuple #[a, b]) 0 = some a := rfl
theorem ext1 (a b : Value) : evExtract (.tuple #[a, b]) 1 = some b := rfl
theorem mem_getD {xs : List Int} {i : Nat} (h : i < xs.length) : xs.getD i 0 ∈ xs := by
  rw [List.getD_eq_getElem?_getD, List.getElem?_eq_getElem h]
  exact List.getElem_mem _
end Go.Proofs.YtdagfcflbphoiaaDoor
/- The closed test of layer 12, run quickly. -/
namespace Go.Proofs.YtdagfcflbphoiaaDoor
set_option linter.unusedVariables false
set_option linter.unusedSimpArgs false
open Go.RowKit Ev

theorem ev_names : Ev.okNames Tryd.prog = true := by kernel_rfl
theorem ev_prog0 : Ev.okProg Tryd.prog Fa.kn0 = true := by kernel_rfl
theorem ev_progK : Ev.okProg Tryd.prog Ev.KN = true := by kernel_rfl
theorem ev_mix : Tryd.prog.follows .mixedOrders = true := by kernel_rfl
theorem okd0 : okDsts Tryd.prog = true := by kernel_rfl
theorem nat_known : Ev.NatKnown Tryd.prog := by
  intro f k hf
  simp [natOf, NV, natIn] at hf
theorem bad_known : Ev.Known Tryd.prog Fa.kn0 := ⟨fun f hf => by simp [Fa.kn0] at hf, nat_known⟩
/-- what the laid variable holds -/
def gV : List Value := [.int .i64 200, .int .i64 600, .int .i64 1200, .int .i64 2400]
def hG : H := H.set .nil 0 (some ⟨3, false, gV⟩)
theorem laid_hG {w : World} (x : Ev.GlobAt w) : ∃ m, Laid Tryd.prog w m hG Tryd.prog.globals.size := by
  refine laid_KG x (by decide +kernel) (sz := 1) (by kernel_rfl) (by decide) (fun k v hk => ?_) (by decide)
  match k, hk with
  | 0, hk => cases hk; simp [KG]
  | 1, hk => cases hk; simp [KG]
  | 2, hk => cases hk; simp [KG]
  | 3, hk => cases hk; simp [KG]
set_option maxRecDepth 100000 in
theorem q_three : Ev.yieldsTrue ((inside (Fa.F_balerlaw12_three 100000 1000 (Fa.fast 100000 1000))) hG Tryd.prog.globals.size) = true := by kernel_rfl
theorem l_three (w : World) (x : Ev.GlobAt w) : Calls Tryd.prog 8 #[] w fun e w' => e = .returned (.bool true) ∧ Below w.heap.size w w' := by
  obtain ⟨m, x⟩ := laid_hG x
  refine Ev.closedN (kn := Fa.kn0) ev_names ev_prog0 ev_mix bad_known okd0 x (gt := Fa.gtA) (lf := 100000) (d := 1001) ?_
  have := q_three
  rw [Fa.fast_eq, Fa.fsh_balerlaw12_three] at this
  exact this
theorem known : Ev.Known Tryd.prog Ev.KN := ⟨fun f hf hn hp w x => by
  have : f = 8 := by simpa [Ev.KN] using hf
  subst this
  exact l_three w x, nat_known⟩

end Go.Proofs.YtdagfcflbphoiaaDoor
/- The laid variable of a door seat: what it holds. -/
namespace Go.Proofs.YtdagfcflbphoiaaDoor
set_option linter.unusedVariables false
set_option linter.unusedSimpArgs false
open Go Go.RowKit Go.WideShapes Go.ChangeShapes Go.MakeChecks

theorem gn_b : Tryd.prog.globalNamed "baler/tables.bounds" = some 0 := by kernel_rfl
theorem gt_b : (Tryd.prog.globals[0]?).map (·.type) = some 58 := by kernel_rfl
theorem co_i : Tryd.prog.cellsOf 3 = 1 := by kernel_rfl
theorem co_b : Tryd.prog.cellsOf 58 = 4 := by kernel_rfl
set_option maxRecDepth 10000 in
theorem glob_of_laid {w : World} (hL : laidMetH Tryd.prog [("baler/tables.bounds", Rows.laid_baler_tables_bounds)] w) : Ev.GlobAt w := by
  rw [laidMetH_plain _ _ _ rfl] at hL
  obtain ⟨ps, ⟨g, t, cs, fuel, p, q, hg, ht, hv, hx, _⟩, _⟩ := hL
  rw [gn_b] at hg
  cases hg
  rw [gt_b] at ht
  cases ht
  unfold World.var? at hv
  rw [gn_b] at hv
  simp only [Option.bind_some] at hv
  split at hv
  · rename_i cs' e' fr' hw
    cases hv
    obtain ⟨xs, m, rfl, hx1, hlen, hxn, hall⟩ := DataW.trod_array Tryd.underlying58 hx
    rw [co_b] at hlen
    rw [co_i] at hall
    have hc : ∀ (i : Nat) (z : Int), i < 4 → (xs.map (·.1))[i]? = some (.lit (.int .i64 z)) → w.cell? ⟨0, i, none⟩ = some (.int .i64 z) := by
      intro i z hi hz
      rw [List.getElem?_map] at hz
      cases hxi : xs[i]? with
      | none => rw [hxi] at hz; cases hz
      | some y =>
        rw [hxi] at hz
        have ha := hall i hi
        rw [hxi] at ha
        obtain ⟨k, h1, h2, _⟩ := DataW.trod_int Tryd.underlying3 ha
        rw [h2] at hz
        cases hz
        have h3 : cs.toList[i]? = some (.int .i64 z) := by
          rw [Nat.mul_one, List.drop_eq_getElem_cons (by omega), List.take_succ_cons, List.take_zero] at h1
          rw [List.getElem?_eq_getElem (by omega)]
          exact congrArg some (List.cons.inj h1).1
        unfold World.cell?
        simp only [hw]
        simpa using h3
    have hm : xs.map (·.1) = [.lit (.int .i64 200), .lit (.int .i64 600), .lit (.int .i64 1200), .lit (.int .i64 2400)] := by
      have := congrArg Prod.fst hx1
      simp only [Rows.laid_baler_tables_bounds] at this
      injection this with this
      exact this.symm
    rw [hm] at hc
    intro g hg
    have : g = (0, 0, .int .i64 200) ∨ g = (0, 1, .int .i64 600) ∨ g = (0, 2, .int .i64 1200) ∨ g = (0, 3, .int .i64 2400) := by simpa [Ev.KG] using hg
    rcases this with rfl | rfl | rfl | rfl
    · exact hc 0 200 (by decide) rfl
    · exact hc 1 600 (by decide) rfl
    · exact hc 2 1200 (by decide) rfl
    · exact hc 3 2400 (by decide) rfl
  · cases hv

end Go.Proofs.YtdagfcflbphoiaaDoor
/- From the second form to calls, in a seat whose tables are laid. -/
namespace Go.Proofs.YtdagfcflbphoiaaDoor
set_option linter.unusedVariables false
set_option linter.unusedSimpArgs false
open Go.RowKit Ev

/-- the laid variable is there -/
def Gd (h : H) (n : Nat) : Prop := h.get 0 = some ⟨3, false, gV⟩ ∧ 0 < n
theorem Gd.keep {h h' : H} {n n' : Nat} (x : Gd h n) (hn : n ≤ n') (hk : ∀ b, b < n → h'.get b = h.get b) : Gd h' n' := ⟨(hk _ x.2).trans x.1, Nat.lt_of_lt_of_le x.2 hn⟩
theorem Gd.of {h : H} {n : Nat} (hn : Tryd.prog.globals.size ≤ n) (hg : h.get 0 = some ⟨3, false, gV⟩) : Gd h n := ⟨hg, Nat.lt_of_lt_of_le (by decide +kernel) hn⟩
theorem k_three (lf d n : Nat) (h : H) (x : Gd h n) : Run (fun _ => False) n (evCall2 Tryd.prog gt lf (d + 1) 8 #[]) h n fun v' h' n' => v' = .bool true ∧ h' = h ∧ n' = n := by
  obtain ⟨hg, hn⟩ := x
  have e : evCall2 Tryd.prog gt lf (d + 1) 8 #[] = (chkG Tryd.prog KG).bind fun _ => M.ret (.bool true) := by kernel_rfl
  rw [e]
  have rdg : ∀ (k : Nat) (v : Value), gV[k]? = some v → rd 0 k h n = some ⟨v, h, n, [⟨false, 0, some k⟩]⟩ := fun k v hk => by
    unfold rd
    simp only [hn, hg, hk, if_true]
  have hsz : decide (0 < Tryd.prog.globals.size) = true := by decide +kernel
  have stp : ∀ (k : Nat) (x : Int) (l : List (Nat × Nat × Value)) (L : List En), gV[k]? = some (.int .i64 x) → chkG Tryd.prog l h n = some ⟨(), h, n, L⟩ → chkG Tryd.prog ((0, k, .int .i64 x) :: l) h n = some ⟨(), h, n, [⟨false, 0, some k⟩] ++ L⟩ := fun k x l L hk hl => by
    unfold chkG
    refine bind_run (rdg k _ hk) ?_
    simp only [hsz, sameI, decide_true, Bool.and_self, if_true]
    exact hl
  have c := stp 0 200 _ _ rfl (stp 1 600 _ _ rfl (stp 2 1200 _ _ rfl (stp 3 2400 [] [] rfl rfl)))
  refine Run.step c (Nat.le_refl _) (by simp) ?_
  rw [run_ret]
  exact ⟨rfl, rfl, rfl⟩
theorem run_three {lf d n n0 : Nat} {h : H} {W : Nat → Prop} (hn : n0 ≤ n) (x : Gd h n) : Run W n0 ((inside (evCall2 Tryd.prog gt lf (d + 1) 8 #[])).bind fun v => outK [v]) h n fun v _ _ => v = .bool true := by
  refine run_same (k_three lf d n h x) hn (fun _ _ h => h.elim) ?_
  rw [run_out1]

end Go.Proofs.YtdagfcflbphoiaaDoor

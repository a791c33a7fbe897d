/- The statement TablesFirst. -/
import Derived.Test.YtdagfcflbphoiaaDoorMak
namespace Go.Proofs.YtdagfcflbphoiaaDoor
set_option linter.unusedVariables false
set_option linter.unusedSimpArgs false
open Go.RowKit Ev Tb

section
variable (lf d n : Nat) (h : H) (hlf : 3000000 ≤ lf)
include hlf
theorem s_fTotal (v : Value) (xs : List Int) (hR : Row h n 3 .i64 v xs) (hl : xs.length ≤ 1000000) (hm : allIn 0 1099511627776 xs = true) :
    Run (fun _ => False) n (evCall2 Tryd.prog gt lf (d + 2) 40 #[v]) h n fun v' h' n' => v' = .int .i64 (capI (sumI xs)) ∧ h' = h ∧ n' = n := by
  have hm' := allIn_iff.1 hm
  rw [sh_freq_Total]
  refine Run.inside_ ?_
  unfold b_freq_Total
  have hR0 := hR
  obtain ⟨a, c, rfl⟩ := hR.len
  try simp (disch := first | omega | assumption | exact one_int _ _ | exact one_slice _ _ _ | exact one_ptr _ | exact one_bool _ | exact one_string _) only [RXA, RXB, Nat.reduceAdd, Nat.reduceLT, wrap_id, wrap_succ, wrap_pred, FX1]
  refine run_for xs.length (fun fu i (q : Int) => lpA_freq_Total lf (d + 1) fu (kcA_freq_Total lf (d + 1)) (.slice a xs.length c) (.int .i64 0) (.int .i64 q) (.slice a xs.length c) (.int .i64 (xs.length : Nat)) (.int .i64 (i : Nat))) (fun i q h' n' => (h' = h ∧ n' = n) ∧ q = capI (sumI (xs.take i))) ?_ ?_ lf 0 0 h n (Nat.zero_le _) (by omega) ⟨⟨rfl, rfl⟩, rfl⟩
  · rintro fu q h' n' ⟨⟨rfl, rfl⟩, rfl⟩
    rw [succA_freq_Total, List.take_length]
    try simp (disch := first | omega | assumption | exact one_int _ _ | exact one_slice _ _ _ | exact one_ptr _ | exact one_bool _ | exact one_string _) only [RXA, RXB, Nat.reduceAdd, Nat.reduceLT, wrap_id, wrap_succ, wrap_pred, FX1, Int.lt_irrefl]
    rw [kcAa_freq_Total]
    try simp (disch := first | omega | assumption | exact one_int _ _ | exact one_slice _ _ _ | exact one_ptr _ | exact one_bool _ | exact one_string _) only [RXA, RXB, Nat.reduceAdd, Nat.reduceLT, wrap_id, wrap_succ, wrap_pred, FX1]
  · rintro fu i q h' n' hi ⟨⟨rfl, rfl⟩, rfl⟩ next
    obtain ⟨b, off, cap, o, cs, hv, hg, hb, _, _, _, hat⟩ := hR0.some (by omega)
    cases hv
    have e1 : ((i : Nat) : Int) < ((xs.length : Nat) : Int) := by omega
    have c1 := hat i hi
    have xb := hm' _ (gd_mem hi)
    have m1 : ¬ (xs.getD i 0 < 0) := by omega
    have m2 : ¬ (1099511627776 < xs.getD i 0) := by omega
    have k1 := capI_le (sumI (xs.take i))
    have k2 := capI_ge (sumI_ge (l := xs.take i) fun x hx => (hm' x (List.mem_of_mem_take hx)).1)
    rw [succA_freq_Total]
    try simp (disch := first | omega | assumption | exact one_int _ _ | exact one_slice _ _ _ | exact one_ptr _ | exact one_bool _ | exact one_string _) only [RXA, RXB, Nat.reduceAdd, Nat.reduceLT, wrap_id, wrap_succ, wrap_pred, FX1, e1, hg, c1, m1, m2]
    refine run_same (s_together lf d _ h' _ _ (by omega) (by omega)) (Nat.le_refl _) (fun _ _ h => h.elim) ?_
    try simp (disch := first | omega | assumption | exact one_int _ _ | exact one_slice _ _ _ | exact one_ptr _ | exact one_bool _ | exact one_string _) only [RXA, RXB, Nat.reduceAdd, Nat.reduceLT, wrap_id, wrap_succ, wrap_pred, FX1]
    exact next _ _ _ ⟨⟨rfl, rfl⟩, by rw [capI_cap xb.1, sumI_next hi]⟩
theorem r_Total (v : Value) (xs : List Int) (hR : Row h n 3 .i64 v xs) (hl : xs.length ≤ 1000000) (hm : allIn 0 1099511627776 xs = true) :
    Run (fun _ => False) n (evCall2 Tryd.prog gt lf (d + 2) 21 #[v]) h n fun v' h' n' => v' = .int .i64 (capI (sumI xs)) ∧ h' = h ∧ n' = n := by
  have hm' := allIn_iff.1 hm
  rw [sh_balerref08_Total]
  refine Run.inside_ ?_
  unfold b_balerref08_Total
  have hR0 := hR
  obtain ⟨a, c, rfl⟩ := hR.len
  try simp (disch := first | omega | assumption | exact one_int _ _ | exact one_slice _ _ _ | exact one_ptr _ | exact one_bool _ | exact one_string _) only [RXA, RXB, Nat.reduceAdd, Nat.reduceLT, wrap_id, wrap_succ, wrap_pred, FX1]
  refine run_for xs.length (fun fu i (q : Int) => lpA_balerref08_Total lf (d + 1) fu (kcA_balerref08_Total lf (d + 1)) (.slice a xs.length c) (.int .i64 0) (.int .i64 q) (.slice a xs.length c) (.int .i64 (xs.length : Nat)) (.int .i64 (i : Nat))) (fun i q h' n' => (h' = h ∧ n' = n) ∧ q = capI (sumI (xs.take i))) ?_ ?_ lf 0 0 h n (Nat.zero_le _) (by omega) ⟨⟨rfl, rfl⟩, rfl⟩
  · rintro fu q h' n' ⟨⟨rfl, rfl⟩, rfl⟩
    rw [succA_balerref08_Total, List.take_length]
    try simp (disch := first | omega | assumption | exact one_int _ _ | exact one_slice _ _ _ | exact one_ptr _ | exact one_bool _ | exact one_string _) only [RXA, RXB, Nat.reduceAdd, Nat.reduceLT, wrap_id, wrap_succ, wrap_pred, FX1, Int.lt_irrefl]
    rw [kcAa_balerref08_Total]
    try simp (disch := first | omega | assumption | exact one_int _ _ | exact one_slice _ _ _ | exact one_ptr _ | exact one_bool _ | exact one_string _) only [RXA, RXB, Nat.reduceAdd, Nat.reduceLT, wrap_id, wrap_succ, wrap_pred, FX1]
  · rintro fu i q h' n' hi ⟨⟨rfl, rfl⟩, rfl⟩ next
    obtain ⟨b, off, cap, o, cs, hv, hg, hb, _, _, _, hat⟩ := hR0.some (by omega)
    cases hv
    have e1 : ((i : Nat) : Int) < ((xs.length : Nat) : Int) := by omega
    have c1 := hat i hi
    have xb := hm' _ (gd_mem hi)
    have k1 := capI_le (sumI (xs.take i))
    have k2 := capI_ge (sumI_ge (l := xs.take i) fun x hx => (hm' x (List.mem_of_mem_take hx)).1)
    have k3 := sumI_next hi
    rw [succA_balerref08_Total]
    by_cases p : 0 < xs.getD i 0
    · try simp (disch := first | omega | assumption | exact one_int _ _ | exact one_slice _ _ _ | exact one_ptr _ | exact one_bool _ | exact one_string _) only [RXA, RXB, Nat.reduceAdd, Nat.reduceLT, wrap_id, wrap_succ, wrap_pred, FX1, e1, hg, c1, p]
      refine run_same (r_most lf d _ h' _) (Nat.le_refl _) (fun _ _ h => h.elim) ?_
      rw [capI_id xb.2]
      try simp (disch := first | omega | assumption | exact one_int _ _ | exact one_slice _ _ _ | exact one_ptr _ | exact one_bool _ | exact one_string _) only [RXA, RXB, Nat.reduceAdd, Nat.reduceLT, wrap_id, wrap_succ, wrap_pred, FX1]
      refine run_same (r_most lf d _ h' _) (Nat.le_refl _) (fun _ _ h => h.elim) ?_
      try simp (disch := first | omega | assumption | exact one_int _ _ | exact one_slice _ _ _ | exact one_ptr _ | exact one_bool _ | exact one_string _) only [RXA, RXB, Nat.reduceAdd, Nat.reduceLT, wrap_id, wrap_succ, wrap_pred, FX1]
      exact next _ _ _ ⟨⟨rfl, rfl⟩, by rw [capI_cap xb.1, k3]⟩
    · try simp (disch := first | omega | assumption | exact one_int _ _ | exact one_slice _ _ _ | exact one_ptr _ | exact one_bool _ | exact one_string _) only [RXA, RXB, Nat.reduceAdd, Nat.reduceLT, wrap_id, wrap_succ, wrap_pred, FX1, e1, hg, c1, p]
      refine next _ _ _ ⟨⟨rfl, rfl⟩, ?_⟩
      rw [k3, show xs.getD i 0 = 0 by omega, Int.add_zero]
def FirstOk (xs : List Int) (z : Int) : Prop := 3 ≤ xs.length ∧ xs.length ≤ 258 ∧ allIn 0 1099511627776 xs = true ∧ 1 ≤ z ∧ capI (sumI xs) = z
theorem s_TFirst (v : Value) (xs : List Int) (z : Int) (g : Gd h n) (hR : Row h n 3 .i64 v xs) (hL : xs.length ≤ 9223372036854775807) (hd : 500 ≤ d) :
    Run (fun _ => False) n (evCall2 Tryd.prog gt lf d 18 #[v, .int .i64 z]) h n fun v' h' n' => (FirstOk xs z ∧ ∃ u, v' = .tuple #[u, .int .i64 0] ∧ RR h' n' 22 3 u (firstL xs z)) ∨ (¬ FirstOk xs z ∧ v' = .tuple #[.slice none 0 0, .int .i64 1]) := by
  obtain ⟨d, rfl⟩ : ∃ e, d = e + 4 := ⟨d - 4, by omega⟩
  rw [sh_tables_First]
  refine Run.inside_ ?_
  unfold b_tables_First
  have z1 : ((1 : Int) != 0) = true := rfl
  have z2 : ((0 : Int) != 0) = false := rfl
  by_cases ok : 3 ≤ xs.length ∧ xs.length ≤ 258 ∧ allIn 0 1099511627776 xs = true
  · obtain ⟨h3, h258, hm⟩ := ok
    refine run_call okd (s_tbl lf (d + 3) n h hlf v xs hR h3 h258 hm (by omega)) (Nat.le_refl n) (fun _ _ h => h.elim) fun v1 h1 n1 hn1 fr1 hq => ?_
    obtain ⟨u, rfl, _⟩ := hq
    have hR1 := hR.keep hn1 fun b hb => fr1 b hb id
    try simp (disch := first | omega | assumption | exact one_int _ _ | exact one_slice _ _ _ | exact one_ptr _ | exact one_bool _ | exact one_string _) only [RXA, RXB, Nat.reduceAdd, Nat.reduceLT, wrap_id, wrap_succ, wrap_pred, FX1, ext0, ext1, z2]
    by_cases p : z < 1
    · try simp (disch := first | omega | assumption | exact one_int _ _ | exact one_slice _ _ _ | exact one_ptr _ | exact one_bool _ | exact one_string _) only [RXA, RXB, Nat.reduceAdd, Nat.reduceLT, wrap_id, wrap_succ, wrap_pred, FX1, p]
      exact .inr fun q => by have := q.2.2.2.1; omega
    · try simp (disch := first | omega | assumption | exact one_int _ _ | exact one_slice _ _ _ | exact one_ptr _ | exact one_bool _ | exact one_string _) only [RXA, RXB, Nat.reduceAdd, Nat.reduceLT, wrap_id, wrap_succ, wrap_pred, FX1, p]
      refine run_same (s_fTotal lf (d + 1) n1 h1 hlf v xs hR1 (by omega) hm) hn1 (fun _ _ h => h.elim) ?_
      by_cases q : capI (sumI xs) = z
      · have e : (capI (sumI xs) != z) = false := by rw [q]; simp
        have hc := capI_le (sumI xs)
        try simp (disch := first | omega | assumption | exact one_int _ _ | exact one_slice _ _ _ | exact one_ptr _ | exact one_bool _ | exact one_string _) only [RXA, RXB, Nat.reduceAdd, Nat.reduceLT, wrap_id, wrap_succ, wrap_pred, FX1, e]
        refine run_call okd (s_first lf (d + 1) n1 h1 hlf v xs z (g.keep hn1 fun b hb => fr1 b hb id) hR1 h258 (allIn_iff.1 hm) (by omega) (by omega)) hn1 (fun _ _ h => h.elim) fun v2 h2 n2 hn2 fr2 hq2 => ?_
        try simp (disch := first | omega | assumption | exact one_int _ _ | exact one_slice _ _ _ | exact one_ptr _ | exact one_bool _ | exact one_string _) only [RXA, RXB, Nat.reduceAdd, Nat.reduceLT, wrap_id, wrap_succ, wrap_pred, FX1]
        exact .inl ⟨⟨h3, h258, hm, by omega, q⟩, _, rfl, hq2⟩
      · have e : (capI (sumI xs) != z) = true := bne_iff_ne.2 q
        try simp (disch := first | omega | assumption | exact one_int _ _ | exact one_slice _ _ _ | exact one_ptr _ | exact one_bool _ | exact one_string _) only [RXA, RXB, Nat.reduceAdd, Nat.reduceLT, wrap_id, wrap_succ, wrap_pred, FX1, e]
        exact .inr fun w => q w.2.2.2.2
  · refine run_call okd (s_Of_no lf (d + 3) n h v xs hR ?_ hL hlf (by omega)) (Nat.le_refl n) (fun _ _ h => h.elim) fun v1 h1 n1 hn1 fr1 hq => ?_
    · by_cases q1 : xs.length < 3
      · exact .inl q1
      by_cases q2 : 258 < xs.length
      · exact .inr (.inl q2)
      · refine .inr (.inr ?_)
        cases q3 : allIn 0 1099511627776 xs with
        | false => rfl
        | true => exact absurd ⟨by omega, by omega, q3⟩ ok
    · subst hq
      try simp (disch := first | omega | assumption | exact one_int _ _ | exact one_slice _ _ _ | exact one_ptr _ | exact one_bool _ | exact one_string _) only [RXA, RXB, Nat.reduceAdd, Nat.reduceLT, wrap_id, wrap_succ, wrap_pred, FX1, ext0, ext1, z1]
      exact .inr fun q => ok ⟨q.1, q.2.1, q.2.2.1⟩
set_option maxHeartbeats 1000000 in
theorem law_TFirst (v : Value) (xs : List Int) (z : Int) (g : Gd h n) (hR : Row h n 3 .i64 v xs) (hL : xs.length ≤ 9223372036854775807) (hd : 700 ≤ d) :
    Run (fun _ => False) n (evCall2 Tryd.prog gt lf d 5 #[v, .int .i64 z]) h n fun v' _ _ => v' = .bool true := by
  obtain ⟨d, rfl⟩ : ∃ e, d = e + 8 := ⟨d - 8, by omega⟩
  rw [sh_balerlaw12_TablesFirst]
  refine Run.inside_ ?_
  unfold b_balerlaw12_TablesFirst
  have hR0 := hR
  obtain ⟨a, c, rfl⟩ := hR.len
  have z1 : ((1 : Int) == 1) = true := rfl
  have z0 : ((0 : Int) == 0) = true := rfl
  have z00 : (((0 : Nat) : Int) == 0) = true := rfl
  by_cases c1 : 60 < xs.length ∧ xs.length ≤ 258
  · have e1 : (60 : Int) < ((xs.length : Nat) : Int) := by omega
    have e2 : ((xs.length : Nat) : Int) ≤ 258 := by omega
    try simp (disch := first | omega | assumption | exact one_int _ _ | exact one_slice _ _ _ | exact one_ptr _ | exact one_bool _ | exact one_string _) only [RXA, RXB, Nat.reduceAdd, Nat.reduceLT, wrap_id, wrap_succ, wrap_pred, FX1, e1, e2]
    exact run_three (Nat.le_refl n) g
  have call := s_TFirst lf (d + 7) n h hlf _ xs z g hR0 hL (by omega)
  have nn : ((numL z : Int) != (numL z : Int)) = false := by simp
  by_cases c2 : 60 < xs.length
  · have e1 : (60 : Int) < ((xs.length : Nat) : Int) := by omega
    have e2 : ¬ ((xs.length : Nat) : Int) ≤ 258 := by omega
    have e3 : ¬ ((xs.length : Nat) : Int) < 3 := by omega
    have e4 : (258 : Int) < ((xs.length : Nat) : Int) := by omega
    try simp (disch := first | omega | assumption | exact one_int _ _ | exact one_slice _ _ _ | exact one_ptr _ | exact one_bool _ | exact one_string _) only [RXA, RXB, Nat.reduceAdd, Nat.reduceLT, wrap_id, wrap_succ, wrap_pred, FX1, e1, e2]
    refine run_call okd call (Nat.le_refl n) (fun _ _ h => h.elim) fun v1 h1 n1 hn1 fr1 hq => ?_
    have g1 := g.keep hn1 fun b hb => fr1 b hb id
    rcases hq with ⟨q, _⟩ | ⟨_, rfl⟩
    · have := q.2.1; omega
    try simp (disch := first | omega | assumption | exact one_int _ _ | exact one_slice _ _ _ | exact one_ptr _ | exact one_bool _ | exact one_string _) only [RXA, RXB, Nat.reduceAdd, Nat.reduceLT, wrap_id, wrap_succ, wrap_pred, FX1, ext0, ext1]
    refine run_same (s_Number lf (d + 6) n1 h1 z g1 (by omega)) hn1 (fun _ _ h => h.elim) ?_
    refine run_same (r_Number lf (d + 6) n1 h1 z) hn1 (fun _ _ h => h.elim) ?_
    try simp (disch := first | omega | assumption | exact one_int _ _ | exact one_slice _ _ _ | exact one_ptr _ | exact one_bool _ | exact one_string _) only [RXA, RXB, Nat.reduceAdd, Nat.reduceLT, wrap_id, wrap_succ, wrap_pred, FX1, nn, e3, e4, z1, z00]
    exact run_three hn1 g1
  · have e1 : ¬ (60 : Int) < ((xs.length : Nat) : Int) := by omega
    have e4 : ¬ (258 : Int) < ((xs.length : Nat) : Int) := by omega
    try simp (disch := first | omega | assumption | exact one_int _ _ | exact one_slice _ _ _ | exact one_ptr _ | exact one_bool _ | exact one_string _) only [RXA, RXB, Nat.reduceAdd, Nat.reduceLT, wrap_id, wrap_succ, wrap_pred, FX1, e1]
    refine run_call okd call (Nat.le_refl n) (fun _ _ h => h.elim) fun v1 h1 n1 hn1 fr1 hq => ?_
    have g1 := g.keep hn1 fun b hb => fr1 b hb id
    have hR1 := hR0.keep hn1 fun b hb => fr1 b hb id
    rcases hq with ⟨ok, u, rfl, hu⟩ | ⟨bad, rfl⟩
    · obtain ⟨h3, h258, hm, hz, hs⟩ := ok
      have e3 : ¬ ((xs.length : Nat) : Int) < 3 := by omega
      have e5 : ¬ z < 1 := by omega
      have e6 : (capI (sumI xs) != z) = false := by rw [hs]; simp
      have hc := capI_le (sumI xs)
      try simp (disch := first | omega | assumption | exact one_int _ _ | exact one_slice _ _ _ | exact one_ptr _ | exact one_bool _ | exact one_string _) only [RXA, RXB, Nat.reduceAdd, Nat.reduceLT, wrap_id, wrap_succ, wrap_pred, FX1, ext0, ext1]
      refine run_same (s_Number lf (d + 6) n1 h1 z g1 (by omega)) hn1 (fun _ _ h => h.elim) ?_
      refine run_same (r_Number lf (d + 6) n1 h1 z) hn1 (fun _ _ h => h.elim) ?_
      try simp (disch := first | omega | assumption | exact one_int _ _ | exact one_slice _ _ _ | exact one_ptr _ | exact one_bool _ | exact one_string _) only [RXA, RXB, Nat.reduceAdd, Nat.reduceLT, wrap_id, wrap_succ, wrap_pred, FX1, nn, e3, e4]
      refine run_same (s_May lf (d + 6) n1 h1 _ xs hR1 0 1099511627776 (by omega) hlf) hn1 (fun _ _ h => h.elim) ?_
      rw [hm]
      try simp (disch := first | omega | assumption | exact one_int _ _ | exact one_slice _ _ _ | exact one_ptr _ | exact one_bool _ | exact one_string _) only [RXA, RXB, Nat.reduceAdd, Nat.reduceLT, wrap_id, wrap_succ, wrap_pred, FX1, Bool.not_true, e5]
      refine run_same (r_Total lf (d + 5) n1 h1 hlf _ xs hR1 (by omega) hm) hn1 (fun _ _ h => h.elim) ?_
      by_cases big : 274877906944 < z
      · try simp (disch := first | omega | assumption | exact one_int _ _ | exact one_slice _ _ _ | exact one_ptr _ | exact one_bool _ | exact one_string _) only [RXA, RXB, Nat.reduceAdd, Nat.reduceLT, wrap_id, wrap_succ, wrap_pred, FX1, e6, big]
        exact run_three hn1 g1
      · try simp (disch := first | omega | assumption | exact one_int _ _ | exact one_slice _ _ _ | exact one_ptr _ | exact one_bool _ | exact one_string _) only [RXA, RXB, Nat.reduceAdd, Nat.reduceLT, wrap_id, wrap_succ, wrap_pred, FX1, e6, big, z0]
        refine run_call okd (r_First lf (d + 5) n1 h1 hlf _ xs z hR1 h258 (allIn_iff.1 hm) (by omega) (by omega)) hn1 (fun _ _ h => h.elim) fun v2 h2 n2 hn2 fr2 hq2 => ?_
        have lt6 := (numL_ge z).2
        refine run_same (r_Rows lf (d + 5) n2 h2 u v2 _ _ (hu.keep hn2 fun b hb => fr2 b hb id) hq2 (by rw [firstL_len]; omega) (by rw [firstL_len]; omega) fun l hl => ?_) (by omega) (fun _ _ h => h.elim) ?_
        · unfold firstL at hl
          obtain ⟨p, _, rfl⟩ := List.mem_map.1 hl
          rw [firstT_len]
          omega
        · rw [decide_eq_true rfl]
          try simp (disch := first | omega | assumption | exact one_int _ _ | exact one_slice _ _ _ | exact one_ptr _ | exact one_bool _ | exact one_string _) only [RXA, RXB, Nat.reduceAdd, Nat.reduceLT, wrap_id, wrap_succ, wrap_pred, FX1]
          exact run_three (by omega) (g1.keep hn2 fun b hb => fr2 b hb id)
    · try simp (disch := first | omega | assumption | exact one_int _ _ | exact one_slice _ _ _ | exact one_ptr _ | exact one_bool _ | exact one_string _) only [RXA, RXB, Nat.reduceAdd, Nat.reduceLT, wrap_id, wrap_succ, wrap_pred, FX1, ext0, ext1]
      refine run_same (s_Number lf (d + 6) n1 h1 z g1 (by omega)) hn1 (fun _ _ h => h.elim) ?_
      refine run_same (r_Number lf (d + 6) n1 h1 z) hn1 (fun _ _ h => h.elim) ?_
      by_cases q1 : xs.length < 3
      · have e3 : ((xs.length : Nat) : Int) < 3 := by omega
        try simp (disch := first | omega | assumption | exact one_int _ _ | exact one_slice _ _ _ | exact one_ptr _ | exact one_bool _ | exact one_string _) only [RXA, RXB, Nat.reduceAdd, Nat.reduceLT, wrap_id, wrap_succ, wrap_pred, FX1, nn, e3, z1, z00]
        exact run_three hn1 g1
      have e3 : ¬ ((xs.length : Nat) : Int) < 3 := by omega
      try simp (disch := first | omega | assumption | exact one_int _ _ | exact one_slice _ _ _ | exact one_ptr _ | exact one_bool _ | exact one_string _) only [RXA, RXB, Nat.reduceAdd, Nat.reduceLT, wrap_id, wrap_succ, wrap_pred, FX1, nn, e3, e4]
      refine run_same (s_May lf (d + 6) n1 h1 _ xs hR1 0 1099511627776 (by omega) hlf) hn1 (fun _ _ h => h.elim) ?_
      cases hm : allIn 0 1099511627776 xs with
      | false =>
        try simp (disch := first | omega | assumption | exact one_int _ _ | exact one_slice _ _ _ | exact one_ptr _ | exact one_bool _ | exact one_string _) only [RXA, RXB, Nat.reduceAdd, Nat.reduceLT, wrap_id, wrap_succ, wrap_pred, FX1, Bool.not_false, z1, z00]
        exact run_three hn1 g1
      | true =>
        by_cases q2 : z < 1
        · try simp (disch := first | omega | assumption | exact one_int _ _ | exact one_slice _ _ _ | exact one_ptr _ | exact one_bool _ | exact one_string _) only [RXA, RXB, Nat.reduceAdd, Nat.reduceLT, wrap_id, wrap_succ, wrap_pred, FX1, Bool.not_true, q2, z1, z00]
          exact run_three hn1 g1
        · try simp (disch := first | omega | assumption | exact one_int _ _ | exact one_slice _ _ _ | exact one_ptr _ | exact one_bool _ | exact one_string _) only [RXA, RXB, Nat.reduceAdd, Nat.reduceLT, wrap_id, wrap_succ, wrap_pred, FX1, Bool.not_true, q2]
          refine run_same (r_Total lf (d + 5) n1 h1 hlf _ xs hR1 (by omega) hm) hn1 (fun _ _ h => h.elim) ?_
          have e6 : (capI (sumI xs) != z) = true := bne_iff_ne.2 fun q => bad ⟨by omega, by omega, hm, by omega, q⟩
          try simp (disch := first | omega | assumption | exact one_int _ _ | exact one_slice _ _ _ | exact one_ptr _ | exact one_bool _ | exact one_string _) only [RXA, RXB, Nat.reduceAdd, Nat.reduceLT, wrap_id, wrap_succ, wrap_pred, FX1, e6, z1, z00]
          exact run_three hn1 g1
end
theorem call_TFirst {w : World} (hw : Ev.GlobAt w) {vs : List Value} (ha : All2 (ArgR Tryd.prog w) [22, 3] vs) : Calls Tryd.prog 5 vs.toArray w fun e w' => e = .returned (.bool true) ∧ Below w.heap.size w w' :=
  the_law' (lf := 3000000) (d := 700) hw ha fun n h vs0 g q => by
    obtain ⟨a, b, rfl, h1, h2⟩ := Ev.all2_2 q
    obtain ⟨xs, hR, hl, _⟩ := a_row h1
    obtain ⟨z, rfl, _⟩ := a_num h2
    exact law_TFirst 3000000 700 n h (by decide) a xs z g hR hl (by decide)
end Go.Proofs.YtdagfcflbphoiaaDoor

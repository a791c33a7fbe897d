/- The statement TablesWhole. -/
import Derived.Test.YtdagfcflbphoiaaDoorMam
namespace Go.Proofs.YtdagfcflbphoiaaDoor
set_option linter.unusedVariables false
set_option linter.unusedSimpArgs false
open Go.RowKit Ev Tb

section
variable (lf d n : Nat) (h : H) (hlf : 3000000 ≤ lf)
include hlf
/-- lengths that are a whole code -/
theorem r_Whole_yes (v : Value) (xs : List Int) (hR : Row h n 3 .i64 v xs) (hl : xs.length ≤ 258) (hm : allIn 1 20 xs = true) (hs : shrL xs = 1048576) :
    Run (fun _ => False) n (evCall2 Tryd.prog gt lf (d + 2) 17 #[v]) h n fun v' h' n' => v' = .bool true ∧ h' = h ∧ n' = n := by
  rw [sh_balerref10_Whole]
  refine Run.inside_ ?_
  unfold b_balerref10_Whole
  refine run_same (s_May lf d n h v xs hR 1 20 (by omega) hlf) (Nat.le_refl _) (fun _ _ h => h.elim) ?_
  rw [hm]
  try simp (disch := first | omega | assumption | exact one_int _ _ | exact one_slice _ _ _ | exact one_ptr _ | exact one_bool _ | exact one_string _) only [RXA, RXB, Nat.reduceAdd, Nat.reduceLT, wrap_id, wrap_succ, wrap_pred, FX1]
  refine run_same (s_ShareR lf d n h v xs hR (by omega) (fun x hx => by have := allIn_iff.1 hm x hx; omega) hlf) (Nat.le_refl _) (fun _ _ h => h.elim) ?_
  rw [hs]
  have z3 : ((1048576 : Int) == 1048576) = true := rfl
  try simp (disch := first | omega | assumption | exact one_int _ _ | exact one_slice _ _ _ | exact one_ptr _ | exact one_bool _ | exact one_string _) only [RXA, RXB, Nat.reduceAdd, Nat.reduceLT, wrap_id, wrap_succ, wrap_pred, FX1, z3]
set_option maxHeartbeats 1000000 in
theorem law_TWhole (v : Value) (xs : List Int) (z : Int) (g : Gd h n) (hR : Row h n 3 .i64 v xs) (hL : xs.length ≤ 9223372036854775807) (hd : 700 ≤ d) :
    Run (fun _ => False) n (evCall2 Tryd.prog gt lf d 4 #[v, .int .i64 z]) h n fun v' _ _ => v' = .bool true := by
  obtain ⟨d, rfl⟩ : ∃ e, d = e + 8 := ⟨d - 8, by omega⟩
  rw [sh_balerlaw12_TablesWhole]
  refine Run.inside_ ?_
  unfold b_balerlaw12_TablesWhole
  have hR0 := hR
  obtain ⟨a, c, rfl⟩ := hR.len
  by_cases c1 : 700 < xs.length
  · have e1 : (700 : Int) < ((xs.length : Nat) : Int) := by omega
    try simp (disch := first | omega | assumption | exact one_int _ _ | exact one_slice _ _ _ | exact one_ptr _ | exact one_bool _ | exact one_string _) only [RXA, RXB, Nat.reduceAdd, Nat.reduceLT, wrap_id, wrap_succ, wrap_pred, FX1, e1]
    exact run_three (Nat.le_refl n) g
  have e1 : ¬ (700 : Int) < ((xs.length : Nat) : Int) := by omega
  by_cases q3 : xs = []
  · subst q3
    have z3 : (((0 : Nat) : Int) == 0) = true := rfl
    have e0 : ¬ (700 : Int) < ((0 : Nat) : Int) := by omega
    try simp (disch := first | omega | assumption | exact one_int _ _ | exact one_slice _ _ _ | exact one_ptr _ | exact one_bool _ | exact one_string _) only [RXA, RXB, Nat.reduceAdd, Nat.reduceLT, wrap_id, wrap_succ, wrap_pred, FX1, e0, z3]
    exact run_three (Nat.le_refl n) g
  have hx0 : 0 < xs.length := List.length_pos_iff.2 q3
  have z3 : (((xs.length : Nat) : Int) == 0) = false := beq_eq_false_iff_ne.2 (by omega)
  try simp (disch := first | omega | assumption | exact one_int _ _ | exact one_slice _ _ _ | exact one_ptr _ | exact one_bool _ | exact one_string _) only [RXA, RXB, Nat.reduceAdd, Nat.reduceLT, wrap_id, wrap_succ, wrap_pred, FX1, e1, z3]
  refine run_same (r_Size lf (d + 6) _ h z) (by omega) (fun _ _ h => h.elim) ?_
  by_cases sz : 3 ≤ z ∧ z ≤ 258
  rotate_left
  · have : (decide (3 ≤ z) && decide (z ≤ 258)) = false := by
      cases q : (decide (3 ≤ z) && decide (z ≤ 258)) with
      | false => rfl
      | true =>
        rw [Bool.and_eq_true, decide_eq_true_eq, decide_eq_true_eq] at q
        exact absurd q sz
    rw [this]
    try simp (disch := first | omega | assumption | exact one_int _ _ | exact one_slice _ _ _ | exact one_ptr _ | exact one_bool _ | exact one_string _) only [RXA, RXB, Nat.reduceAdd, Nat.reduceLT, wrap_id, wrap_succ, wrap_pred, FX1, Bool.not_false]
    exact run_three (Nat.le_refl n) g
  obtain ⟨h3, h258⟩ := sz
  obtain ⟨s, rfl⟩ : ∃ s : Nat, z = (s : Int) := ⟨z.toNat, by omega⟩
  rw [decide_eq_true h3, decide_eq_true h258]
  try simp (disch := first | omega | assumption | exact one_int _ _ | exact one_slice _ _ _ | exact one_ptr _ | exact one_bool _ | exact one_string _) only [RXA, RXB, Nat.reduceAdd, Nat.reduceLT, wrap_id, wrap_succ, wrap_pred, FX1, Bool.and_self, Bool.not_true]
  refine run_same (r_Of lf (d + 6) _ h hlf _ xs hR0 (by omega) (s : Int)) (by omega) (fun _ _ h => h.elim) ?_
  cases hin : inB s xs with
  | false =>
    try simp (disch := first | omega | assumption | exact one_int _ _ | exact one_slice _ _ _ | exact one_ptr _ | exact one_bool _ | exact one_string _) only [RXA, RXB, Nat.reduceAdd, Nat.reduceLT, wrap_id, wrap_succ, wrap_pred, FX1, Bool.not_false]
    exact run_three (Nat.le_refl n) g
  | true =>
    try simp (disch := first | omega | assumption | exact one_int _ _ | exact one_slice _ _ _ | exact one_ptr _ | exact one_bool _ | exact one_string _) only [RXA, RXB, Nat.reduceAdd, Nat.reduceLT, wrap_id, wrap_succ, wrap_pred, FX1, Bool.not_true]
    refine run_call okd (s_TablesOf lf (d + 7) n h hlf _ xs s g hR0 hx0 (by omega) (by omega) (by omega) hin (by omega)) (Nat.le_refl n) (fun _ _ h => h.elim) fun v1 h1 n1 hn1 fr1 hq => ?_
    obtain ⟨x, y, rfl, hx, hy⟩ := hq
    have g1 := g.keep hn1 fun b hb => fr1 b hb id
    have hx1 := hx
    have hy1 := hy
    obtain ⟨a1, c1', rfl⟩ := hx.len
    obtain ⟨a2, c2', rfl⟩ := hy.len
    have z1 : ((0 : Int) != 0) = false := rfl
    try simp (disch := first | omega | assumption | exact one_int _ _ | exact one_slice _ _ _ | exact one_ptr _ | exact one_bool _ | exact one_string _) only [RXA, RXB, Nat.reduceAdd, Nat.reduceLT, wrap_id, wrap_succ, wrap_pred, FX1, ext0, ext1]
    refine run_alloc zr25 _ ?_
    refine run_sta (cs := [.slice none 0 0, .slice none 0 0]) sz25 (vs := [.slice a1 (tabIt xs s 4).length c1', .slice a2 (picksI (groupsL xs) (tabIt xs s 3)).length c2']) rfl rfl rfl (get_eq _ _ _) (Nat.lt_succ_self n1) (Nat.le_refl _) (.inl (by omega)) _ fun h2 hg2 k2 => ?_
    have k2' : ∀ b, b < n1 → h2.get b = h1.get b := fun b hb => by rw [k2 b (by omega), get_ne _ _ (by omega)]
    have hg2 : h2.get n1 = some ⟨25, true, [.slice a1 (tabIt xs s 4).length c1', .slice a2 (picksI (groupsL xs) (tabIt xs s 3)).length c2']⟩ := hg2
    have g2 := g1.keep (Nat.le_succ n1) k2'
    have hx2 := hx1.keep (Nat.le_succ n1) k2'
    have hy2 := hy1.keep (Nat.le_succ n1) k2'
    have lt1 : n1 < n1 + 1 := Nat.lt_succ_self n1
    have c0 : ∀ p q : Value, [p, q][0]? = some p := fun _ _ => rfl
    have c1 : ∀ p q : Value, [p, q][1]? = some q := fun _ _ => rfl
    have kl : (picksI (groupsL xs) (tabIt xs s 3)).length = grpN xs.length := by rw [picksI_len, groupsL_len]
    have tl := tabIt_len xs s 4
    have tl6 := numL_ge (xs.length : Int)
    have nn : ((((tabIt xs s 4).length : Nat) : Int) != (numL (xs.length : Int) : Int)) = false := by rw [tl]; simp
    have w1 : IntKind.i64.wrap (((xs.length : Nat) : Int) + 49) = ((xs.length + 49 : Nat) : Int) := by rw [wrap_id (by omega) (by omega)]; rfl
    have w1' : ((xs.length : Nat) : Int) + 49 = ((xs.length + 49 : Nat) : Int) := rfl
    have w2 : ((xs.length + 49 : Nat) : Int).tdiv 50 = ((grpN xs.length : Nat) : Int) := rfl
    have w3 : IntKind.i64.wrap ((grpN xs.length : Nat) : Int) = ((grpN xs.length : Nat) : Int) := wrap_id (by omega) (by unfold grpN; omega)
    have nn2 : ((((picksI (groupsL xs) (tabIt xs s 3)).length : Nat) : Int) != ((grpN xs.length : Nat) : Int)) = false := by rw [kl]; simp
    try simp (disch := first | omega | assumption | exact one_int _ _ | exact one_slice _ _ _ | exact one_ptr _ | exact one_bool _ | exact one_string _) only [RXA, RXB, Nat.reduceAdd, Nat.reduceLT, wrap_id, wrap_succ, wrap_pred, FX1, z1]
    refine timed_ldB ag23 _ _ _ hg2 lt1 (Nat.le_refl _) (c0 _ _) fun T1 t1 => ?_
    try simp (disch := first | omega | assumption | exact one_int _ _ | exact one_slice _ _ _ | exact one_ptr _ | exact one_bool _ | exact one_string _) only [RXA, RXB, Nat.reduceAdd, Nat.reduceLT, wrap_id, wrap_succ, wrap_pred, FX1]
    refine timed_callB okd (r_Number lf (d + 6) _ h2 _) (by omega) fun v3 h3 n3 T3 hn3 fr3 hq3 t3 => ?_
    obtain ⟨hv3, hh3, hn3'⟩ := hq3
    have hv3 : v3 = .int .i64 (numL (xs.length : Int) : Int) := hv3
    have hh3 : h3 = h2 := hh3
    subst hv3 hh3 hn3'
    try simp (disch := first | omega | assumption | exact one_int _ _ | exact one_slice _ _ _ | exact one_ptr _ | exact one_bool _ | exact one_string _) only [RXA, RXB, Nat.reduceAdd, Nat.reduceLT, wrap_id, wrap_succ, wrap_pred, FX1, nn]
    refine timed_ldB ag22 _ _ _ hg2 lt1 (Nat.le_refl _) (c1 _ _) fun T2 t2 => ?_
    have x13 := t1.clash t3
    try simp (disch := first | omega | assumption | exact one_int _ _ | exact one_slice _ _ _ | exact one_ptr _ | exact one_bool _ | exact one_string _) only [RXA, RXB, Nat.reduceAdd, Nat.reduceLT, wrap_id, wrap_succ, wrap_pred, FX1, w1, w1', w2, w3, nn2, x13, Bool.not_false, chk_true, Bool.and_self, hg2]
    have tg := tabIt_good (by omega : xs.length ≤ 1000000) hin (by omega) (by omega)
    have tw : ∀ t ∈ tabIt xs s 4, t.length = s ∧ allIn 1 20 t = true ∧ shrL t = 1048576 := fun t ht => by
      have ht : t ∈ tabsL (groupsL xs) (tabIt xs s 3) s := ht
      unfold tabsL at ht
      obtain ⟨p, _, rfl⟩ := List.mem_map.1 ht
      have hl : (tabC (groupsL xs) (tabIt xs s 3) s p).length = s := countsL_len _ _
      obtain ⟨a, b, e⟩ := tbl_good (c := tabC (groupsL xs) (tabIt xs s 3) s p) (by omega) (by omega) (tabC_in (groupsL xs) (tabIt xs s 3) s p (groups_good (by omega) hin) (fun _ h => h) (Nat.le_refl _))
      exact ⟨by omega, b, e⟩
    refine run_for (tabIt xs s 4).length (fun fu i (_ : Unit) => lpA_balerlaw12_TablesWhole lf (d + 7) fu (kcA_balerlaw12_TablesWhole lf (d + 7)) (.slice a xs.length c) (.int .i64 (s : Nat)) (.bool false) (.pointer (some ⟨n1, 0, none⟩)) (.int .i64 0) (.bool false) (.bool false) (.slice a1 (tabIt xs s 4).length c1') (.int .i64 ((tabIt xs s 4).length : Nat)) (.int .i64 (i : Nat)))
      (fun i _ h' n' => h' = h3 ∧ n' = n1 + 1) ?_ ?_ lf 0 () _ _ (Nat.zero_le _) (by omega) ⟨rfl, rfl⟩
    · rintro fu _ h' n' ⟨rfl, rfl⟩
      rw [succA_balerlaw12_TablesWhole]
      try simp (disch := first | omega | assumption | exact one_int _ _ | exact one_slice _ _ _ | exact one_ptr _ | exact one_bool _ | exact one_string _) only [RXA, RXB, Nat.reduceAdd, Nat.reduceLT, wrap_id, wrap_succ, wrap_pred, FX1, Int.lt_irrefl]
      rw [kcAb_balerlaw12_TablesWhole]
      try simp (disch := first | omega | assumption | exact one_int _ _ | exact one_slice _ _ _ | exact one_ptr _ | exact one_bool _ | exact one_string _) only [RXA, RXB, Nat.reduceAdd, Nat.reduceLT, wrap_id, wrap_succ, wrap_pred, FX1, hg2]
      refine run_for (picksI (groupsL xs) (tabIt xs s 3)).length (fun fu i (_ : Unit) => lpB_balerlaw12_TablesWhole lf (d + 7) fu (kcB_balerlaw12_TablesWhole lf (d + 7)) (.slice a xs.length c) (.int .i64 (s : Nat)) (.bool false) (.pointer (some ⟨n1, 0, none⟩)) (.int .i64 0) (.bool false) (.bool false) (.slice a1 (tabIt xs s 4).length c1') _ _ _ (.slice a2 (picksI (groupsL xs) (tabIt xs s 3)).length c2') (.int .i64 ((picksI (groupsL xs) (tabIt xs s 3)).length : Nat)) (.int .i64 (i : Nat)))
        (fun i _ h2 n2 => h2 = h' ∧ n2 = n1 + 1) ?_ ?_ lf 0 () _ _ (Nat.zero_le _) (by rw [kl]; unfold grpN; omega) ⟨rfl, rfl⟩
      · rintro fu _ h' n' ⟨rfl, rfl⟩
        rw [succB_balerlaw12_TablesWhole]
        try simp (disch := first | omega | assumption | exact one_int _ _ | exact one_slice _ _ _ | exact one_ptr _ | exact one_bool _ | exact one_string _) only [RXA, RXB, Nat.reduceAdd, Nat.reduceLT, wrap_id, wrap_succ, wrap_pred, FX1, Int.lt_irrefl]
        rw [kcBb_balerlaw12_TablesWhole]
        exact run_three (by omega) g2
      · rintro fu i _ h4 n4 hi ⟨rfl, rfl⟩ next
        obtain ⟨b2, off2, cap2, o2, cs2, hv2, hgw, hb2, _, _, _, hat2⟩ := hy2.some (by omega)
        cases hv2
        have kl5 : (picksI (groupsL xs) (tabIt xs s 3)).length ≤ 1000 := by rw [kl]; unfold grpN; omega
        have e5 : ((i : Nat) : Int) < (((picksI (groupsL xs) (tabIt xs s 3)).length : Nat) : Int) := by omega
        have c5 := hat2 i hi
        have hi2 : i < (groupsL xs).length := by rw [picksI_len] at hi; exact hi
        rw [picksI_at hi2] at c5
        have pl := pickL_lt ((groupsL xs).getD i []) (T := tabIt xs s 3) (by rw [tabIt_len]; omega)
        rw [tabIt_len] at pl
        have e6 : ¬ ((pickL ((groupsL xs).getD i []) (tabIt xs s 3) : Int) < 0) := by omega
        have e7 : ¬ ((((tabIt xs s 4).length : Nat) : Int) ≤ (pickL ((groupsL xs).getD i []) (tabIt xs s 3) : Int)) := by rw [tl]; omega
        rw [succB_balerlaw12_TablesWhole]
        try simp (disch := first | omega | assumption | exact one_int _ _ | exact one_slice _ _ _ | exact one_ptr _ | exact one_bool _ | exact one_string _) only [RXA, RXB, Nat.reduceAdd, Nat.reduceLT, wrap_id, wrap_succ, wrap_pred, FX1, e5, hgw, c5, e6, hg2, e7]
        exact next () _ _ ⟨rfl, rfl⟩
    · rintro fu i _ h4 n4 hi ⟨rfl, rfl⟩ next
      obtain ⟨b, off, cap, o, cs, hv, hgg, hb, hat⟩ := hx2.at (by omega)
      cases hv
      obtain ⟨q, hq, hrq⟩ := hat i hi
      have e2 : ((i : Nat) : Int) < (((tabIt xs s 4).length : Nat) : Int) := by omega
      have hm : (tabIt xs s 4).getD i [] ∈ tabIt xs s 4 := by rw [List.getD_eq_getElem?_getD, List.getElem?_eq_getElem hi]; exact List.getElem_mem hi
      obtain ⟨w4, w5, w6⟩ := tw _ hm
      obtain ⟨aq, cq, hql⟩ := hrq.len
      have nn3 : (((((tabIt xs s 4).getD i []).length : Nat) : Int) != (s : Int)) = false := by rw [w4]; simp
      rw [succA_balerlaw12_TablesWhole]
      rw [hql] at hq hrq
      try simp (disch := first | omega | assumption | exact one_int _ _ | exact one_slice _ _ _ | exact one_ptr _ | exact one_bool _ | exact one_string _) only [RXA, RXB, Nat.reduceAdd, Nat.reduceLT, wrap_id, wrap_succ, wrap_pred, FX1, e2, hgg, hq, nn3]
      refine run_same (r_Whole_yes lf (d + 5) _ h4 hlf _ _ hrq (by omega) w5 w6) (by omega) (fun _ _ h => h.elim) ?_
      try simp (disch := first | omega | assumption | exact one_int _ _ | exact one_slice _ _ _ | exact one_ptr _ | exact one_bool _ | exact one_string _) only [RXA, RXB, Nat.reduceAdd, Nat.reduceLT, wrap_id, wrap_succ, wrap_pred, FX1, Bool.not_true]
      exact next () _ _ ⟨rfl, rfl⟩
end
theorem call_TWhole {w : World} (hw : Ev.GlobAt w) {vs : List Value} (ha : All2 (ArgR Tryd.prog w) [22, 3] vs) : Calls Tryd.prog 4 vs.toArray w fun e w' => e = .returned (.bool true) ∧ Below w.heap.size w w' :=
  the_law' (lf := 3000000) (d := 700) hw ha fun n h vs0 g q => by
    obtain ⟨a, b, rfl, h1, h2⟩ := Ev.all2_2 q
    obtain ⟨xs, hR, hl, _⟩ := a_row h1
    obtain ⟨z, rfl, _⟩ := a_num h2
    exact law_TWhole 3000000 700 n h (by decide) a xs z g hR hl (by decide)
end Go.Proofs.YtdagfcflbphoiaaDoor

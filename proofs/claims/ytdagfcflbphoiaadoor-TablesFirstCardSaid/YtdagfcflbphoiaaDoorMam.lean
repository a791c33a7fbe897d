/- The reference's merging, as plain lists: it takes what the program takes. No program in sight. -/
import Derived.Test.YtdagfcflbphoiaaDoorMal
import Derived.Test.YtdagfcflbphoiaaDoorMae
namespace Go.Proofs.YtdagfcflbphoiaaDoor
set_option linter.unusedVariables false
set_option linter.unusedSimpArgs false
open Ev Hu

def incAll (out : List Int) : List Nat → List Int
  | [] => out
  | i :: ls => incAll (out.set i (out.getD i 0 + 1)) ls
theorem inc_len : ∀ (ls : List Nat) (out : List Int), (incAll out ls).length = out.length
  | [], _ => rfl
  | i :: ls, out => by unfold incAll; rw [inc_len ls]; simp
theorem inc_at : ∀ (ls : List Nat) (out : List Int), ls.Nodup → (∀ i ∈ ls, i < out.length) → ∀ j, (incAll out ls).getD j 0 = out.getD j 0 + if j ∈ ls then 1 else 0
  | [], out, _, _, j => by simp [incAll]
  | i :: ls, out, hn, hl, j => by
    rw [List.nodup_cons] at hn
    have hi := hl i (by simp)
    unfold incAll
    rw [inc_at ls _ hn.2 (fun k hk => by rw [List.length_set]; exact hl k (by simp [hk])), getD_setI]
    by_cases e : i = j
    · subst e
      rw [if_pos ⟨rfl, hi⟩, if_neg hn.1, if_pos (by simp)]
      omega
    · rw [if_neg (fun q => e q.1)]
      have : (j ∈ i :: ls) ↔ j ∈ ls := by simp [Ne.symm e]
      simp only [this]
theorem erase_perm {α : Type} : ∀ {l : List α} {i : Nat} (h : i < l.length), l.Perm (l[i] :: l.eraseIdx i)
  | x :: l, 0, _ => List.Perm.refl _
  | x :: l, i + 1, h => by
    have h' : i < l.length := by simpa using h
    have := erase_perm h'
    simp only [List.getElem_cons_succ, List.eraseIdx_cons_succ]
    exact (this.cons x).trans (List.Perm.swap _ _ _)
/-- the numbers of the trees that wait, in order; their leaves; the depths so far -/
structure PInv (N : Nat) (dep : Nat → Nat) (X : Nat → List Nat) (k : Nat) (nums : List Nat) (lf : Nat → List Nat) (out : List Int) : Prop where
  srt : nums.Pairwise (· < ·)
  prm : nums.Perm (X k)
  len : out.length = N
  lv : ∀ t ∈ nums, ∀ i ∈ lf t, i < N ∧ out.getD i 0 + dep t = dep i
  cov : (nums.flatMap lf).Perm (List.range N)
  pos : ∀ i, 0 ≤ out.getD i 0
section
variable {N : Nat} {w : Nat → Int} {I A B : Nat → Nat} {X R : Nat → List Nat} {dep : Nat → Nat}
theorem PInv.next (m : Merge N w I A B X R) (d1 : ∀ i, i < 2 * N - 2 → dep i = dep (I i) + 1) {k : Nat} (hk : k + 2 ≤ N) {nums : List Nat} {lf : Nat → List Nat} {out : List Int} (p : PInv N dep X k nums lf out) {a b : Nat} (ha : a < nums.length) (hb : b < (nums.eraseIdx a).length) (ea : nums[a] = A k) (eb : (nums.eraseIdx a)[b] = B k) :
    PInv N dep X (k + 1) ((nums.eraseIdx a).eraseIdx b ++ [N + k]) (fun t => if t = N + k then lf (A k) ++ lf (B k) else lf t) (incAll out (lf (A k) ++ lf (B k))) ∧ (lf (A k) ++ lf (B k)).Nodup ∧ (∀ i ∈ lf (A k) ++ lf (B k), i < N) := by
  have q1 := erase_perm ha
  have q2 := erase_perm hb
  rw [ea] at q1
  rw [eb] at q2
  have q3 : nums.Perm (A k :: B k :: (nums.eraseIdx a).eraseIdx b) := q1.trans (q2.cons _)
  have hR : ((nums.eraseIdx a).eraseIdx b).Perm (R k) := ((q3.symm.trans p.prm).trans (m.st k hk)).cons_inv.cons_inv
  have hlt : ∀ t ∈ nums, t < N + k := fun t ht => m.lt (by omega) (p.prm.mem_iff.1 ht)
  obtain ⟨S, hS⟩ : ∃ S, (nums.eraseIdx a).eraseIdx b = S := ⟨_, rfl⟩
  rw [hS] at q3 hR ⊢
  have sub : ∀ t ∈ S, t ∈ nums := fun t ht => q3.mem_iff.2 (by simp [ht])
  have mA : A k ∈ nums := q3.mem_iff.2 (by simp)
  have mB : B k ∈ nums := q3.mem_iff.2 (by simp)
  have cv := (q3.flatMap_right lf).symm.trans p.cov
  simp only [List.flatMap_cons] at cv
  have nd : ((lf (A k) ++ lf (B k)) ++ S.flatMap lf).Nodup := by
    rw [List.append_assoc]
    exact cv.nodup_iff.2 List.nodup_range
  have nd1 := (List.nodup_append.1 nd).1
  have dis : ∀ t ∈ S, ∀ i ∈ lf t, i ∉ lf (A k) ++ lf (B k) := fun t ht i hi hc => (List.nodup_append.1 nd).2.2 i hc i (List.mem_flatMap.2 ⟨t, ht, hi⟩) rfl
  have il : ∀ i ∈ lf (A k) ++ lf (B k), i < N := fun i hi => by
    rcases List.mem_append.1 hi with q | q
    · exact (p.lv _ mA i q).1
    · exact (p.lv _ mB i q).1
  have ia := inc_at (lf (A k) ++ lf (B k)) out nd1 (fun i hi => by rw [p.len]; exact il i hi)
  obtain ⟨dA, dB⟩ := m.dep_ab d1 hk
  refine ⟨⟨?_, ?_, by rw [inc_len, p.len], fun t ht i hi => ?_, ?_, fun i => ?_⟩, nd1, il⟩
  · rw [List.pairwise_append]
    refine ⟨?_, by simp, fun x hx y hy => by rw [List.mem_singleton.1 hy]; exact hlt x (sub x hx)⟩
    rw [← hS]
    exact (p.srt.sublist (List.eraseIdx_sublist _ _)).sublist (List.eraseIdx_sublist _ _)
  · exact ((List.perm_append_singleton _ _).trans (hR.cons _)).trans (m.nx k hk).symm
  · rcases List.mem_append.1 ht with q | q
    · have hne : t ≠ N + k := fun e => by have := hlt t (sub t q); omega
      simp only [if_neg hne] at hi
      have := p.lv t (sub t q) i hi
      rw [ia, if_neg (dis t q i hi)]
      omega
    · obtain rfl := List.mem_singleton.1 q
      simp only [if_true] at hi
      refine ⟨il i hi, ?_⟩
      rw [ia, if_pos hi]
      rcases List.mem_append.1 hi with q | q
      · have := (p.lv _ mA i q).2; omega
      · have := (p.lv _ mB i q).2; omega
  · rw [List.flatMap_append]
    have e1 : S.flatMap (fun t => if t = N + k then lf (A k) ++ lf (B k) else lf t) = S.flatMap lf := by
      have : ∀ L : List Nat, (∀ t ∈ L, t < N + k) → L.flatMap (fun t => if t = N + k then lf (A k) ++ lf (B k) else lf t) = L.flatMap lf := by
        intro L
        induction L with
        | nil => intro _; rfl
        | cons t L ih =>
          intro h
          have := h t (by simp)
          rw [List.flatMap_cons, List.flatMap_cons, ih (fun s hs => h s (by simp [hs])), if_neg (by omega)]
      exact this S fun t ht => hlt t (sub t ht)
    rw [e1]
    simp only [List.flatMap_cons, List.flatMap_nil, if_true, List.append_nil]
    refine List.perm_append_comm.trans ?_
    rw [List.append_assoc]
    exact cv
  · rw [ia]
    have := p.pos i
    split <;> omega
theorem PInv.last (m : Merge N w I A B X R) (d0 : dep (2 * N - 2) = 0) {nums : List Nat} {lf : Nat → List Nat} {out : List Int} (p : PInv N dep X (N - 1) nums lf out) : out = (List.range N).map fun i => (dep i : Int) := by
  have hx := p.prm
  rw [m.last] at hx
  have hn := List.perm_singleton.1 hx
  subst hn
  have hc := p.cov
  simp only [List.flatMap_cons, List.flatMap_nil, List.append_nil] at hc
  apply List.ext_getElem
  · rw [p.len]; simp
  · intro i h1 h2
    have hi : i < N := by rw [p.len] at h1; exact h1
    have := (p.lv (2 * N - 2) (by simp) i (hc.mem_iff.2 (List.mem_range.2 hi))).2
    rw [d0, List.getD_eq_getElem?_getD, List.getElem?_eq_getElem h1] at this
    simp only [Option.getD_some] at this
    simp only [List.getElem_map, List.getElem_range]
    omega
end
end Go.Proofs.YtdagfcflbphoiaaDoor
/- The reference's depths, by the second form: they are the program's. -/
namespace Go.Proofs.YtdagfcflbphoiaaDoor
set_option linter.unusedVariables false
set_option linter.unusedSimpArgs false
open Go.RowKit Ev Hu

end Go.Proofs.YtdagfcflbphoiaaDoor
/- One round of the reference's depths, in two parts: a tree is taken; two are joined. -/
namespace Go.Proofs.YtdagfcflbphoiaaDoor
set_option linter.unusedVariables false
set_option linter.unusedSimpArgs false
open Go.RowKit Ev Hu

end Go.Proofs.YtdagfcflbphoiaaDoor
/- One round of the reference's depths: two trees are joined. -/
namespace Go.Proofs.YtdagfcflbphoiaaDoor
set_option linter.unusedVariables false
set_option linter.unusedSimpArgs false
open Go.RowKit Ev Hu

end Go.Proofs.YtdagfcflbphoiaaDoor
/- The reference's depths whole: they are the program's. -/
namespace Go.Proofs.YtdagfcflbphoiaaDoor
set_option linter.unusedVariables false
set_option linter.unusedSimpArgs false
open Go.RowKit Ev Hu

end Go.Proofs.YtdagfcflbphoiaaDoor
/- The reference's halving and lengths; the statements LensDepths and LensOf. -/
namespace Go.Proofs.YtdagfcflbphoiaaDoor
set_option linter.unusedVariables false
set_option linter.unusedSimpArgs false
open Go.RowKit Ev Hu

end Go.Proofs.YtdagfcflbphoiaaDoor
/- Layer 12 by the second form: a round. -/
namespace Go.Proofs.YtdagfcflbphoiaaDoor
set_option linter.unusedVariables false
set_option linter.unusedSimpArgs false
open Go.RowKit Ev Tb

theorem Rounds.det {r : Nat} {w l : List Int} (x : Rounds r w l) : ∀ {r' : Nat} {l' : List Int}, Rounds r' w l' → l = l' := by
  induction x with
  | stop w hW so hs =>
    intro r' l' y
    cases y with
    | stop => rfl
    | next _ _ hn _ => exact absurd hs hn
  | next hW so hs hr ih =>
    intro r' l' y
    cases y with
    | stop _ _ _ hn => exact absurd hn hs
    | next _ _ _ hr2 => exact ih hr2
/-- the lengths of counts -/
noncomputable def tbl (c : List Int) : List Int := Classical.epsilon fun l => ∃ r, Rounds r (cntL c) l ∧ r ≤ 40
theorem tbl_of {c l : List Int} {r : Nat} (h : Rounds r (cntL c) l) (hr : r ≤ 40) : l = tbl c := by
  obtain ⟨r', h', _⟩ := Classical.epsilon_spec (p := fun l => ∃ r, Rounds r (cntL c) l ∧ r ≤ 40) ⟨l, r, h, hr⟩
  exact h.det h'
section
variable (lf d n : Nat) (h : H) (hlf : 3000000 ≤ lf)
include hlf
theorem s_tbl (v : Value) (c : List Int) (hR : Row h n 3 .i64 v c) (h3 : 3 ≤ c.length) (h258 : c.length ≤ 258) (hm : allIn 0 1099511627776 c = true) (hd : 400 ≤ d) :
    Run (fun _ => False) n (evCall2 Tryd.prog gt lf d 39 #[v]) h n fun v' h' n' => ∃ v1, v' = .tuple #[v1, .int .i64 0] ∧ Row h' n' 3 .i64 v1 (tbl c) := by
  refine (s_Of_ok lf d n h v c hR h3 h258 hm hlf hd).mono ?_
  rintro v' h' n' _ ⟨v1, l, r, rfl, hr, hr2, hrow⟩
  rw [tbl_of hr hr2] at hrow
  exact ⟨v1, rfl, hrow⟩
end
section
variable (lf d n : Nat) (h : H) (hlf : 3000000 ≤ lf)
include hlf
end
end Go.Proofs.YtdagfcflbphoiaaDoor
/- Layer 12 by the second form: the choice. -/
namespace Go.Proofs.YtdagfcflbphoiaaDoor
set_option linter.unusedVariables false
set_option linter.unusedSimpArgs false
open Go.RowKit Ev Tb

section
variable (lf d n : Nat) (h : H) (hlf : 3000000 ≤ lf)
include hlf
end
end Go.Proofs.YtdagfcflbphoiaaDoor
/- Layer 12 by the second form: the reference's tables at first, and its choice. -/
namespace Go.Proofs.YtdagfcflbphoiaaDoor
set_option linter.unusedVariables false
set_option linter.unusedSimpArgs false
open Go.RowKit Ev Tb

def clampI (z q : Int) : Int := if z - 1 < q then z - 1 else q
theorem firstT_next {xs : List Int} {z : Int} {p i : Nat} (hi : i < xs.length) : intsV .i64 ((firstT xs z p).take (i + 1)) = intsV .i64 ((firstT xs z p).take i) ++ [.int .i64 (if mineL xs z i = p then 0 else 15)] := by
  rw [List.take_succ_eq_append_getElem (by rw [firstT_len]; exact hi)]
  unfold intsV firstT
  rw [List.map_append]
  simp
section
variable (lf d n : Nat) (h : H) (hlf : 3000000 ≤ lf)
include hlf
set_option maxHeartbeats 1000000 in
theorem r_First (v : Value) (xs : List Int) (z : Int) (hR : Row h n 3 .i64 v xs) (hl : xs.length ≤ 258) (hx : ∀ x ∈ xs, 0 ≤ x ∧ x ≤ 1099511627776) (hz : 1 ≤ z) (hz2 : z ≤ 1099511627776) :
    Run (fun _ => False) n (evCall2 Tryd.prog gt lf (d + 2) 23 #[v, .int .i64 z]) h n fun v' h' n' => RR h' n' 22 3 v' (firstL xs z) := by
  rw [sh_balerref12_First]
  refine Run.inside_ ?_
  unfold b_balerref12_First
  have hR0 := hR
  obtain ⟨a, c, rfl⟩ := hR.len
  refine run_same (r_Number lf d n h z) (Nat.le_refl _) (fun _ _ h => h.elim) ?_
  have ht := numL_ge z
  obtain ⟨t, htt⟩ : ∃ t, numL z = t := ⟨_, rfl⟩
  rw [htt] at ht ⊢
  refine run_for t (fun fu i (q : Value) => lpA_balerref12_First lf (d + 1) fu (kcA_balerref12_First lf (d + 1)) (.slice a xs.length c) (.int .i64 z) (.slice none 0 0) (.int .i64 (t : Nat)) q (.int .i64 (t : Nat)) (.int .i64 (i : Nat)))
    (fun i q h' n' => n ≤ n' ∧ (∀ b, b < n → h'.get b = h.get b) ∧ OwnRR h' n n' n' 22 3 q ((List.range i).map (firstT xs z))) ?_ ?_ lf 0 _ _ _ (Nat.zero_le _) (by omega) ⟨Nat.le_refl _, fun _ _ => rfl, OwnRR.nil _ _ _ _ _ _⟩
  · rintro fu q h' n' ⟨hn, hk, hO⟩
    rw [succA_balerref12_First]
    try simp (disch := first | omega | assumption | exact one_int _ _ | exact one_slice _ _ _ | exact one_ptr _ | exact one_bool _ | exact one_string _) only [RXA, RXB, Nat.reduceAdd, Nat.reduceLT, wrap_id, wrap_succ, wrap_pred, FX1, Int.lt_irrefl]
    rw [kcAa_balerref12_First]
    try simp (disch := first | omega | assumption | exact one_int _ _ | exact one_slice _ _ _ | exact one_ptr _ | exact one_bool _ | exact one_string _) only [RXA, RXB, Nat.reduceAdd, Nat.reduceLT, wrap_id, wrap_succ, wrap_pred, FX1]
    have := hO.rr
    unfold firstL
    rw [htt]
    exact this
  · rintro fu i q h1 n1 hi ⟨hn, hk, hO⟩ next
    have e1 : ((i : Nat) : Int) < ((t : Nat) : Int) := by omega
    rw [succA_balerref12_First]
    try simp (disch := first | omega | assumption | exact one_int _ _ | exact one_slice _ _ _ | exact one_ptr _ | exact one_bool _ | exact one_string _) only [RXA, RXB, Nat.reduceAdd, Nat.reduceLT, wrap_id, wrap_succ, wrap_pred, FX1, e1]
    refine run_for xs.length (fun f2 j (w : Value × Int) => lpB_balerref12_First lf (d + 1) f2 (kcB_balerref12_First lf (d + 1) fu (kcA_balerref12_First lf (d + 1))) (.slice a xs.length c) (.int .i64 z) (.slice none 0 0) (.int .i64 (t : Nat)) q (.int .i64 (i : Nat)) w.1 (.int .i64 w.2) (.int .i64 (t : Nat)) (.int .i64 (i : Nat)) _ (.slice a xs.length c) (.int .i64 (xs.length : Nat)) (.int .i64 (j : Nat)))
      (fun j w h' n' => n1 ≤ n' ∧ (∀ b, b < n1 → h'.get b = h1.get b) ∧ Own h' n1 n' 3 w.1 (intsV .i64 ((firstT xs z i).take j)) ∧ clampI z w.2 = belowL xs z j ∧ 0 ≤ w.2 ∧ w.2 ≤ 2199023255552) ?_ ?_ lf 0 (.slice none 0 0, 0) _ _ (Nat.zero_le _) (by omega) ⟨Nat.le_refl _, fun _ _ => rfl, Own.nil _ _ _ _, by unfold clampI belowL; simp only [List.take_zero, sumI], by omega, by omega⟩
    · rintro f2 ⟨w, q2⟩ h' n' ⟨hn', hk', hO', _, _⟩
      simp only at hO'
      rw [succB_balerref12_First]
      try simp (disch := first | omega | assumption | exact one_int _ _ | exact one_slice _ _ _ | exact one_ptr _ | exact one_bool _ | exact one_string _) only [RXA, RXB, Nat.reduceAdd, Nat.reduceLT, wrap_id, wrap_succ, wrap_pred, FX1, Int.lt_irrefl]
      rw [kcBa_balerref12_First]
      rw [List.take_of_length_le (by rw [firstT_len]; exact Nat.le_refl _)] at hO'
      have hO1 := (hO.keep hn' fun b hb _ => hk' b hb).up hn'
      refine run_pushRR c1x23 (by decide) hO1 hO'.row (Nat.le_refl _) (by simp; omega) (Nat.le_refl _) (by omega) _ fun v2 h2 o2 k2 _ => ?_
      try simp (disch := first | omega | assumption | exact one_int _ _ | exact one_slice _ _ _ | exact one_ptr _ | exact one_bool _ | exact one_string _) only [RXA, RXB, Nat.reduceAdd, Nat.reduceLT, wrap_id, wrap_succ, wrap_pred, FX1]
      refine next v2 h2 (n' + 2) ⟨by omega, fun b hb => ?_, ?_⟩
      · rw [k2 b (by omega) fun q => by have := (hO1.lt q).1; omega, hk' b (by omega)]
        exact hk b hb
      · rw [List.range_succ, List.map_append]
        exact o2.up (by omega)
    · rintro f2 j ⟨w, q2⟩ h' n' hj ⟨hn', hk', hO', hq, hq0, hq1⟩ next2
      simp only at hO' hq hq0 hq1
      obtain ⟨b, off, cap, o, cs, hv, hgx, hb, _, _, _, hat⟩ := (hR0.keep (show n ≤ n' by omega) (fun b hb => (hk' b (by omega)).trans (hk b hb))).some (by omega)
      cases hv
      have e2 : ((j : Nat) : Int) < ((xs.length : Nat) : Int) := by omega
      have c1 := hat j hj
      obtain ⟨g0, g1⟩ := belowL_ge (fun x hx' => (hx x hx').1) hz (v := j)
      have g2 := mineL_eq (fun x hx' => (hx x hx').1) hz j
      rw [htt] at g2
      have g4 : 0 ≤ belowL xs z j * (t : Int) := Int.mul_nonneg g0 (by omega)
      have g5 : belowL xs z j * (t : Int) ≤ 1099511627776 * 6 := Int.mul_le_mul (by omega) (by omega) (by omega) (by omega)
      have w1 : IntKind.i64.wrap (belowL xs z j * (t : Int)) = belowL xs z j * (t : Int) := wrap_id (by omega) (by omega)
      have g6 : (mineL xs z j : Int) ≤ 1099511627776 * 6 := by
        have := Int.ediv_le_self z g4
        have h2 : (belowL xs z j * (t : Int)) / z = (mineL xs z j : Int) := by rw [← g2, Int.tdiv_eq_ediv_of_nonneg g4]
        omega
      have w2 : IntKind.i64.wrap (mineL xs z j : Int) = (mineL xs z j : Int) := wrap_id (by omega) (by omega)
      have z0 : z ≠ 0 := by omega
      have xb := hx _ (gd_mem hj)
      have w3 : IntKind.i64.wrap (belowL xs z j + xs.getD j 0) = belowL xs z j + xs.getD j 0 := wrap_id (by omega) (by omega)
      have w4 : IntKind.i64.wrap (z - 1) = z - 1 := wrap_id (by omega) (by omega)
      have bn := belowL_next (fun x hx' => (hx x hx').1) (n := z) hj
      have fn := firstT_next (z := z) (p := i) hj
      have hlen : (intsV .i64 ((firstT xs z i).take j)).length + 1 ≤ 1099511627776 := by rw [intsV_len, List.length_take, firstT_len]; omega
      have hll : (intsV .i64 ((firstT xs z i).take j)).length = j := by rw [intsV_len, List.length_take, firstT_len]; omega
      have fin : ∀ h2, h2.get (n' + 1) = some ⟨3, true, intsV .i64 ((firstT xs z i).take j) ++ [.int .i64 (if mineL xs z j = i then 0 else 15)]⟩ → (∀ b, b < n' → ¬ InBlk w b → h2.get b = h'.get b) →
          Run (fun _ => False) n (lpB_balerref12_First lf (d + 1) f2 (kcB_balerref12_First lf (d + 1) fu (kcA_balerref12_First lf (d + 1))) (.slice (some ⟨b, off, none⟩) xs.length c) (.int .i64 z) (.slice none 0 0) (.int .i64 (t : Nat)) q (.int .i64 (i : Nat)) (.slice (some ⟨n' + 1, 0, none⟩) (j + 1) (CAP + (j + 1))) (.int .i64 (belowL xs z j + xs.getD j 0)) (.int .i64 (t : Nat)) (.int .i64 (i : Nat)) (.bool true) (.slice (some ⟨b, off, none⟩) xs.length c) (.int .i64 (xs.length : Nat)) (.int .i64 ((j + 1 : Nat) : Int))) h2 (n' + 2) fun v' h' n' => RR h' n' 22 3 v' (firstL xs z) := by
        intro h2 hg2 hk2
        rw [← fn] at hg2
        refine next2 (_, belowL xs z j + xs.getD j 0) h2 (n' + 2) ⟨by omega, fun b hb => ?_, Own.mk' hg2 (by omega) (by omega) (by rw [intsV_len, List.length_take, firstT_len]; omega), ?_, by simp only; omega, by simp only; omega⟩
        · rw [hk2 b (by omega) fun q => by have := (hO'.lt q).1; omega]
          exact hk' b hb
        · exact bn
      have cases2 : ∀ (kk : Value → M Value), (∀ h2, h2.get (n' + 1) = some ⟨3, true, intsV .i64 ((firstT xs z i).take j) ++ [.int .i64 (if mineL xs z j = i then 0 else 15)]⟩ → (∀ b, b < n' → ¬ InBlk w b → h2.get b = h'.get b) → Run (fun _ => False) n (kk (.slice (some ⟨n' + 1, 0, none⟩) (j + 1) (CAP + (j + 1)))) h2 (n' + 2) fun v' h' n' => RR h' n' 22 3 v' (firstL xs z)) →
          Run (fun _ => False) n ((inside (evBuildSlice Tryd.prog 22 1 [(0, .int .i64 (if mineL xs z j = i then 0 else 15))])).bind fun u => (inside (evAppend Tryd.prog 22 w u)).bind kk) h' n' fun v' h' n' => RR h' n' 22 3 v' (firstL xs z) := by
        intro kk hkk
        refine run_pushO c1x22 (one_int _ _) hO' hlen (by omega) _ fun h2 hg2 hk2 => ?_
        rw [hll]
        exact hkk h2 hg2 hk2
      rw [succB_balerref12_First]
      by_cases cl : z - 1 < q2
      · have hq' : z - 1 = belowL xs z j := by rw [← hq]; unfold clampI; rw [if_pos cl]
        rw [← hq'] at w1 g2 w3 fin
        by_cases m : mineL xs z j = i
        · have n1 : ((mineL xs z j : Int) == (i : Int)) = true := by rw [m]; simp
          rw [if_pos m] at cases2 fin
          try simp (disch := first | omega | assumption | exact one_int _ _ | exact one_slice _ _ _ | exact one_ptr _ | exact one_bool _ | exact one_string _) only [RXA, RXB, Nat.reduceAdd, Nat.reduceLT, wrap_id, wrap_succ, wrap_pred, FX1, e2, hgx, c1, w4, cl, w1, z0, g2, w2, n1]
          refine cases2 _ fun h2 hg2 hk2 => ?_
          try simp (disch := first | omega | assumption | exact one_int _ _ | exact one_slice _ _ _ | exact one_ptr _ | exact one_bool _ | exact one_string _) only [RXA, RXB, Nat.reduceAdd, Nat.reduceLT, wrap_id, wrap_succ, wrap_pred, FX1, w3]
          exact fin h2 hg2 hk2
        · have n1 : ((mineL xs z j : Int) == (i : Int)) = false := beq_eq_false_iff_ne.2 fun e => m (by omega)
          rw [if_neg m] at cases2 fin
          try simp (disch := first | omega | assumption | exact one_int _ _ | exact one_slice _ _ _ | exact one_ptr _ | exact one_bool _ | exact one_string _) only [RXA, RXB, Nat.reduceAdd, Nat.reduceLT, wrap_id, wrap_succ, wrap_pred, FX1, e2, hgx, c1, w4, cl, w1, z0, g2, w2, n1]
          refine cases2 _ fun h2 hg2 hk2 => ?_
          try simp (disch := first | omega | assumption | exact one_int _ _ | exact one_slice _ _ _ | exact one_ptr _ | exact one_bool _ | exact one_string _) only [RXA, RXB, Nat.reduceAdd, Nat.reduceLT, wrap_id, wrap_succ, wrap_pred, FX1, w3]
          exact fin h2 hg2 hk2
      · have hq' : q2 = belowL xs z j := by rw [← hq]; unfold clampI; rw [if_neg cl]
        rw [← hq'] at w1 g2 w3 fin
        by_cases m : mineL xs z j = i
        · have n1 : ((mineL xs z j : Int) == (i : Int)) = true := by rw [m]; simp
          rw [if_pos m] at cases2 fin
          try simp (disch := first | omega | assumption | exact one_int _ _ | exact one_slice _ _ _ | exact one_ptr _ | exact one_bool _ | exact one_string _) only [RXA, RXB, Nat.reduceAdd, Nat.reduceLT, wrap_id, wrap_succ, wrap_pred, FX1, e2, hgx, c1, w4, cl, w1, z0, g2, w2, n1]
          refine cases2 _ fun h2 hg2 hk2 => ?_
          try simp (disch := first | omega | assumption | exact one_int _ _ | exact one_slice _ _ _ | exact one_ptr _ | exact one_bool _ | exact one_string _) only [RXA, RXB, Nat.reduceAdd, Nat.reduceLT, wrap_id, wrap_succ, wrap_pred, FX1, w3]
          exact fin h2 hg2 hk2
        · have n1 : ((mineL xs z j : Int) == (i : Int)) = false := beq_eq_false_iff_ne.2 fun e => m (by omega)
          rw [if_neg m] at cases2 fin
          try simp (disch := first | omega | assumption | exact one_int _ _ | exact one_slice _ _ _ | exact one_ptr _ | exact one_bool _ | exact one_string _) only [RXA, RXB, Nat.reduceAdd, Nat.reduceLT, wrap_id, wrap_succ, wrap_pred, FX1, e2, hgx, c1, w4, cl, w1, z0, g2, w2, n1]
          refine cases2 _ fun h2 hg2 hk2 => ?_
          try simp (disch := first | omega | assumption | exact one_int _ _ | exact one_slice _ _ _ | exact one_ptr _ | exact one_bool _ | exact one_string _) only [RXA, RXB, Nat.reduceAdd, Nat.reduceLT, wrap_id, wrap_succ, wrap_pred, FX1, w3]
          exact fin h2 hg2 hk2
end
end Go.Proofs.YtdagfcflbphoiaaDoor
/- Layer 12 by the second form: the reference's choice. -/
namespace Go.Proofs.YtdagfcflbphoiaaDoor
set_option linter.unusedVariables false
set_option linter.unusedSimpArgs false
open Go.RowKit Ev Tb

section
variable (lf d n : Nat) (h : H) (hlf : 3000000 ≤ lf)
include hlf
end
end Go.Proofs.YtdagfcflbphoiaaDoor
/- Layer 12 by the second form: which choices are the same. -/
namespace Go.Proofs.YtdagfcflbphoiaaDoor
set_option linter.unusedVariables false
set_option linter.unusedSimpArgs false
open Go.RowKit Ev Tb

theorem drop_same {α : Type} [DecidableEq α] (d : α) {xs ys : List α} (hl : xs.length = ys.length) {i : Nat} (hi : i < xs.length) : decide (xs.drop i = ys.drop i) = (decide (xs.getD i d = ys.getD i d) && decide (xs.drop (i + 1) = ys.drop (i + 1))) := by
  rw [drop_next d hi, drop_next d (show i < ys.length by omega)]
  by_cases h1 : xs.getD i d = ys.getD i d
  · rw [h1, decide_eq_true rfl, Bool.true_and]
    simp only [List.cons.injEq, true_and]
  · rw [decide_eq_false h1, Bool.false_and]
    exact decide_eq_false fun q => h1 (List.cons.inj q).1
theorem drop_all {α : Type} [DecidableEq α] {xs ys : List α} (hl : xs.length = ys.length) : decide (xs.drop xs.length = ys.drop xs.length) = true := by
  rw [List.drop_length, hl, List.drop_length]
  exact decide_eq_true rfl
section
variable (lf d n : Nat) (h : H)
theorem r_Ints (v u : Value) (xs ys : List Int) (hR : Row h n 3 .i64 v xs) (hS : Row h n 3 .i64 u ys) (hl : xs.length < lf) (hm : xs.length ≤ 9223372036854775807) :
    Run (fun _ => False) n (evCall2 Tryd.prog gt lf (d + 1) 28 #[v, u]) h n fun v' h' n' => v' = .bool (decide (xs = ys)) ∧ h' = h ∧ n' = n := by
  rw [sh_balerplain_Ints]
  refine Run.inside_ ?_
  unfold b_balerplain_Ints
  have hR0 := hR
  have hS0 := hS
  obtain ⟨a, c, rfl⟩ := hR.len
  obtain ⟨a2, c2, rfl⟩ := hS.len
  by_cases hxy : xs.length = ys.length
  · have n1 : (((xs.length : Nat) : Int) != ((ys.length : Nat) : Int)) = false := by rw [hxy]; simp
    try simp (disch := first | omega | assumption | exact one_int _ _ | exact one_slice _ _ _ | exact one_ptr _ | exact one_bool _ | exact one_string _) only [RXA, RXB, Nat.reduceAdd, Nat.reduceLT, wrap_id, wrap_succ, wrap_pred, FX1, n1]
    refine run_for xs.length (fun fu i (_ : Unit) => lpA_balerplain_Ints lf d fu (kcA_balerplain_Ints lf d) (.slice a xs.length c) (.slice a2 ys.length c2) _ _ (.int .i64 (xs.length : Nat)) (.int .i64 (i : Nat))) (fun i _ h' n' => (h' = h ∧ n' = n) ∧ decide (xs = ys) = decide (xs.drop i = ys.drop i)) ?_ ?_ lf 0 () h n (Nat.zero_le _) (by omega) ⟨⟨rfl, rfl⟩, rfl⟩
    · rintro fu _ h' n' ⟨⟨rfl, rfl⟩, e⟩
      rw [succA_balerplain_Ints, e, drop_all hxy]
      try simp (disch := first | omega | assumption | exact one_int _ _ | exact one_slice _ _ _ | exact one_ptr _ | exact one_bool _ | exact one_string _) only [RXA, RXB, Nat.reduceAdd, Nat.reduceLT, wrap_id, wrap_succ, wrap_pred, FX1, Int.lt_irrefl]
      rw [kcAb_balerplain_Ints]
      try simp (disch := first | omega | assumption | exact one_int _ _ | exact one_slice _ _ _ | exact one_ptr _ | exact one_bool _ | exact one_string _) only [RXA, RXB, Nat.reduceAdd, Nat.reduceLT, wrap_id, wrap_succ, wrap_pred, FX1]
    · rintro fu i _ h' n' hi ⟨⟨rfl, rfl⟩, e⟩ next
      obtain ⟨b, off, cap, o, cs, hv, hg, hb, _, _, _, hat⟩ := hR0.some (by omega)
      cases hv
      obtain ⟨b2, off2, cap2, o2, cs2, hv2, hg2, hb2, _, _, _, hat2⟩ := hS0.some (by omega)
      cases hv2
      have e1 : ((i : Nat) : Int) < ((xs.length : Nat) : Int) := by omega
      have e2 : ((i : Nat) : Int) < ((ys.length : Nat) : Int) := by omega
      have c1 := hat i hi
      have c2 := hat2 i (by omega)
      rw [drop_same 0 hxy hi] at e
      rw [succA_balerplain_Ints]
      by_cases h1 : xs.getD i 0 = ys.getD i 0
      · have n1 : (xs.getD i 0 != ys.getD i 0) = false := by rw [h1]; simp
        rw [decide_eq_true h1, Bool.true_and] at e
        try simp (disch := first | omega | assumption | exact one_int _ _ | exact one_slice _ _ _ | exact one_ptr _ | exact one_bool _ | exact one_string _) only [RXA, RXB, Nat.reduceAdd, Nat.reduceLT, wrap_id, wrap_succ, wrap_pred, FX1, e1, e2, hg, hg2, c1, c2, n1]
        exact next () _ _ ⟨⟨rfl, rfl⟩, e⟩
      · have n1 : (xs.getD i 0 != ys.getD i 0) = true := bne_iff_ne.2 h1
        rw [decide_eq_false h1, Bool.false_and] at e
        rw [e]
        try simp (disch := first | omega | assumption | exact one_int _ _ | exact one_slice _ _ _ | exact one_ptr _ | exact one_bool _ | exact one_string _) only [RXA, RXB, Nat.reduceAdd, Nat.reduceLT, wrap_id, wrap_succ, wrap_pred, FX1, e1, e2, hg, hg2, c1, c2, n1]
        rw [kcAa_balerplain_Ints]
        try simp (disch := first | omega | assumption | exact one_int _ _ | exact one_slice _ _ _ | exact one_ptr _ | exact one_bool _ | exact one_string _) only [RXA, RXB, Nat.reduceAdd, Nat.reduceLT, wrap_id, wrap_succ, wrap_pred, FX1]
  · have n1 : (((xs.length : Nat) : Int) != ((ys.length : Nat) : Int)) = true := by simp; omega
    rw [decide_eq_false (fun q => hxy (by rw [q]))]
    try simp (disch := first | omega | assumption | exact one_int _ _ | exact one_slice _ _ _ | exact one_ptr _ | exact one_bool _ | exact one_string _) only [RXA, RXB, Nat.reduceAdd, Nat.reduceLT, wrap_id, wrap_succ, wrap_pred, FX1, n1]
theorem r_Rows (v u : Value) (xss yss : List (List Int)) (hR : RR h n 22 3 v xss) (hS : RR h n 22 3 u yss) (hl : xss.length < lf) (hm : xss.length ≤ 9223372036854775807) (hi2 : ∀ xs ∈ xss, xs.length < lf ∧ xs.length ≤ 9223372036854775807) :
    Run (fun _ => False) n (evCall2 Tryd.prog gt lf (d + 2) 22 #[v, u]) h n fun v' h' n' => v' = .bool (decide (xss = yss)) ∧ h' = h ∧ n' = n := by
  rw [sh_balerplain_Rows]
  refine Run.inside_ ?_
  unfold b_balerplain_Rows
  have hR0 := hR
  have hS0 := hS
  obtain ⟨a, c, rfl⟩ := hR.len
  obtain ⟨a2, c2, rfl⟩ := hS.len
  by_cases hxy : xss.length = yss.length
  · have n1 : (((xss.length : Nat) : Int) != ((yss.length : Nat) : Int)) = false := by rw [hxy]; simp
    try simp (disch := first | omega | assumption | exact one_int _ _ | exact one_slice _ _ _ | exact one_ptr _ | exact one_bool _ | exact one_string _) only [RXA, RXB, Nat.reduceAdd, Nat.reduceLT, wrap_id, wrap_succ, wrap_pred, FX1, n1]
    refine run_for xss.length (fun fu i (_ : Unit) => lpA_balerplain_Rows lf (d + 1) fu (kcA_balerplain_Rows lf (d + 1)) (.slice a xss.length c) (.slice a2 yss.length c2) _ _ (.int .i64 (xss.length : Nat)) (.int .i64 (i : Nat))) (fun i _ h' n' => (h' = h ∧ n' = n) ∧ decide (xss = yss) = decide (xss.drop i = yss.drop i)) ?_ ?_ lf 0 () h n (Nat.zero_le _) (by omega) ⟨⟨rfl, rfl⟩, rfl⟩
    · rintro fu _ h' n' ⟨⟨rfl, rfl⟩, e⟩
      rw [succA_balerplain_Rows, e, drop_all hxy]
      try simp (disch := first | omega | assumption | exact one_int _ _ | exact one_slice _ _ _ | exact one_ptr _ | exact one_bool _ | exact one_string _) only [RXA, RXB, Nat.reduceAdd, Nat.reduceLT, wrap_id, wrap_succ, wrap_pred, FX1, Int.lt_irrefl]
      rw [kcAb_balerplain_Rows]
      try simp (disch := first | omega | assumption | exact one_int _ _ | exact one_slice _ _ _ | exact one_ptr _ | exact one_bool _ | exact one_string _) only [RXA, RXB, Nat.reduceAdd, Nat.reduceLT, wrap_id, wrap_succ, wrap_pred, FX1]
    · rintro fu i _ h' n' hi ⟨⟨rfl, rfl⟩, e⟩ next
      obtain ⟨b, off, cap, o, cs, hv, hg, hb, hat⟩ := hR0.at (by omega)
      cases hv
      obtain ⟨b2, off2, cap2, o2, cs2, hv2, hg2, hb2, hat2⟩ := hS0.at (by omega)
      cases hv2
      have e1 : ((i : Nat) : Int) < ((xss.length : Nat) : Int) := by omega
      have e2 : ((i : Nat) : Int) < ((yss.length : Nat) : Int) := by omega
      obtain ⟨p, c1, r1⟩ := hat i hi
      obtain ⟨q, c2, r2⟩ := hat2 i (by omega)
      have hm : xss.getD i [] ∈ xss := by rw [List.getD_eq_getElem?_getD, List.getElem?_eq_getElem hi]; exact List.getElem_mem hi
      obtain ⟨l1, l2⟩ := hi2 _ hm
      rw [drop_same [] hxy hi] at e
      rw [succA_balerplain_Rows]
      try simp (disch := first | omega | assumption | exact one_int _ _ | exact one_slice _ _ _ | exact one_ptr _ | exact one_bool _ | exact one_string _) only [RXA, RXB, Nat.reduceAdd, Nat.reduceLT, wrap_id, wrap_succ, wrap_pred, FX1, e1, e2, hg, hg2, c1, c2]
      refine run_same (r_Ints lf d _ h' p q _ _ r1 r2 l1 l2) (Nat.le_refl _) (fun _ _ h => h.elim) ?_
      by_cases h1 : xss.getD i [] = yss.getD i []
      · rw [decide_eq_true h1, Bool.true_and] at e
        rw [decide_eq_true h1]
        try simp (disch := first | omega | assumption | exact one_int _ _ | exact one_slice _ _ _ | exact one_ptr _ | exact one_bool _ | exact one_string _) only [RXA, RXB, Nat.reduceAdd, Nat.reduceLT, wrap_id, wrap_succ, wrap_pred, FX1, Bool.not_true]
        exact next () _ _ ⟨⟨rfl, rfl⟩, e⟩
      · rw [decide_eq_false h1, Bool.false_and] at e
        rw [decide_eq_false h1, e]
        try simp (disch := first | omega | assumption | exact one_int _ _ | exact one_slice _ _ _ | exact one_ptr _ | exact one_bool _ | exact one_string _) only [RXA, RXB, Nat.reduceAdd, Nat.reduceLT, wrap_id, wrap_succ, wrap_pred, FX1, Bool.not_false]
        rw [kcAa_balerplain_Rows]
        try simp (disch := first | omega | assumption | exact one_int _ _ | exact one_slice _ _ _ | exact one_ptr _ | exact one_bool _ | exact one_string _) only [RXA, RXB, Nat.reduceAdd, Nat.reduceLT, wrap_id, wrap_succ, wrap_pred, FX1]
  · have n1 : (((xss.length : Nat) : Int) != ((yss.length : Nat) : Int)) = true := by simp; omega
    rw [decide_eq_false (fun q => hxy (by rw [q]))]
    try simp (disch := first | omega | assumption | exact one_int _ _ | exact one_slice _ _ _ | exact one_ptr _ | exact one_bool _ | exact one_string _) only [RXA, RXB, Nat.reduceAdd, Nat.reduceLT, wrap_id, wrap_succ, wrap_pred, FX1, n1]
/-- a choice: its tables and its picks -/
structure Choi (h : H) (n : Nat) (v : Value) (L : List (List Int)) (K : List Int) : Prop where
  ex : ∃ x y, v = .agg #[x, y] ∧ RR h n 22 3 x L ∧ Row h n 3 .i64 y K
theorem Choi.keep {h h' : H} {n n' : Nat} {v : Value} {L : List (List Int)} {K : List Int} (x : Choi h n v L K) (hn : n ≤ n') (hk : ∀ b, b < n → h'.get b = h.get b) : Choi h' n' v L K := by
  obtain ⟨x, y, hv, h1, h2⟩ := x.ex
  exact ⟨x, y, hv, h1.keep hn hk, h2.keep hn hk⟩
end
end Go.Proofs.YtdagfcflbphoiaaDoor
/- The statements TablesOf and TablesSame. -/
namespace Go.Proofs.YtdagfcflbphoiaaDoor
set_option linter.unusedVariables false
set_option linter.unusedSimpArgs false
open Go.RowKit Ev Tb

theorem the_law' {f : FuncId} {ts : List TypeId} {vs : List Value} {w : World} {lf d : Nat} (hw : Ev.GlobAt w) (ha : All2 (ArgR Tryd.prog w) ts vs) (r : ∀ n h vs0, Gd h n → All2 (ArgH Tryd.prog h n) ts vs0 → Run (fun _ => False) n (evCall2 Tryd.prog gt lf d f vs0.toArray) h n fun v _ _ => v = .bool true) :
    Calls Tryd.prog f vs.toArray w fun e w' => e = .returned (.bool true) ∧ Below w.heap.size w w' := by
  obtain ⟨m, x⟩ := laid_hG hw
  exact Ev.law_of ev_names ev_progK ev_mix known okd ha x fun n h vs0 hn hg q => r n h vs0 (Gd.of hn (by rw [hg _ (by decide +kernel)]; exact get_eq _ _ _)) q
theorem ct_ints : cellTs Tryd.prog 8 22 = some [22] := by kernel_rfl
theorem ct_int : cellTs Tryd.prog 8 3 = some [3] := by kernel_rfl
theorem ag_ints : isAggT Tryd.prog 22 = false := by kernel_rfl
theorem ag_int : isAggT Tryd.prog 3 = false := by kernel_rfl
theorem a_row {h : H} {n : Nat} {v : Value} (x : ArgH Tryd.prog h n 22 v) : ∃ xs, Row h n 3 .i64 v xs ∧ xs.length ≤ 9223372036854775807 ∧ ∀ y ∈ xs, -9223372036854775808 ≤ y ∧ y ≤ 9223372036854775807 := by
  obtain ⟨xs, h1, h2, h3⟩ := rep_row (f := 6) Tryd.underlying22 ct_int Tryd.underlying3 (argH_cell ct_ints ag_ints x)
  exact ⟨xs, h1, h2, fun y hy => wf64 (h3 y hy)⟩
theorem a_num {h : H} {n : Nat} {v : Value} (x : ArgH Tryd.prog h n 3 v) : ∃ i, v = .int .i64 i ∧ -9223372036854775808 ≤ i ∧ i ≤ 9223372036854775807 := by
  obtain ⟨i, h1, h2⟩ := rep_int (f := 7) Tryd.underlying3 (argH_cell ct_int ag_int x)
  exact ⟨i, h1, wf64 h2⟩
theorem Choi.agg {h : H} {n : Nat} {v : Value} {L : List (List Int)} {K : List Int} (x : Choi h n v L K) : ∃ a c a2 c2, v = .agg #[.slice a L.length c, .slice a2 K.length c2] ∧ RR h n 22 3 (.slice a L.length c) L ∧ Row h n 3 .i64 (.slice a2 K.length c2) K := by
  obtain ⟨x, y, rfl, h1, h2⟩ := x.ex
  have h10 := h1
  have h20 := h2
  obtain ⟨a, c, rfl⟩ := h1.len
  obtain ⟨a2, c2, rfl⟩ := h2.len
  exact ⟨a, c, a2, c2, rfl, h10, h20⟩
section
variable (lf d n : Nat) (h : H)
variable (hlf : 3000000 ≤ lf) (hd : 700 ≤ d)
include hlf hd
end
end Go.Proofs.YtdagfcflbphoiaaDoor
/- The statement TablesFirst. -/
namespace Go.Proofs.YtdagfcflbphoiaaDoor
set_option linter.unusedVariables false
set_option linter.unusedSimpArgs false
open Go.RowKit Ev Tb

section
variable (lf d n : Nat) (h : H) (hlf : 3000000 ≤ lf)
include hlf
theorem s_fTotal (v : Value) (xs : List Int) (hR : Row h n 3 .i64 v xs) (hl : xs.length ≤ 1000000) (hm : allIn 0 1099511627776 xs = true) :
    Run (fun _ => False) n (evCall2 Tryd.prog gt lf (d + 2) 40 #[v]) h n fun v' h' n' => v' = .int .i64 (capI (sumI xs)) ∧ h' = h ∧ n' = n := by
  have hm' := allIn_iff.1 hm
  rw [sh_freq_Total]
  refine Run.inside_ ?_
  unfold b_freq_Total
  have hR0 := hR
  obtain ⟨a, c, rfl⟩ := hR.len
  try simp (disch := first | omega | assumption | exact one_int _ _ | exact one_slice _ _ _ | exact one_ptr _ | exact one_bool _ | exact one_string _) only [RXA, RXB, Nat.reduceAdd, Nat.reduceLT, wrap_id, wrap_succ, wrap_pred, FX1]
  refine run_for xs.length (fun fu i (q : Int) => lpA_freq_Total lf (d + 1) fu (kcA_freq_Total lf (d + 1)) (.slice a xs.length c) (.int .i64 0) (.int .i64 q) (.slice a xs.length c) (.int .i64 (xs.length : Nat)) (.int .i64 (i : Nat))) (fun i q h' n' => (h' = h ∧ n' = n) ∧ q = capI (sumI (xs.take i))) ?_ ?_ lf 0 0 h n (Nat.zero_le _) (by omega) ⟨⟨rfl, rfl⟩, rfl⟩
  · rintro fu q h' n' ⟨⟨rfl, rfl⟩, rfl⟩
    rw [succA_freq_Total, List.take_length]
    try simp (disch := first | omega | assumption | exact one_int _ _ | exact one_slice _ _ _ | exact one_ptr _ | exact one_bool _ | exact one_string _) only [RXA, RXB, Nat.reduceAdd, Nat.reduceLT, wrap_id, wrap_succ, wrap_pred, FX1, Int.lt_irrefl]
    rw [kcAa_freq_Total]
    try simp (disch := first | omega | assumption | exact one_int _ _ | exact one_slice _ _ _ | exact one_ptr _ | exact one_bool _ | exact one_string _) only [RXA, RXB, Nat.reduceAdd, Nat.reduceLT, wrap_id, wrap_succ, wrap_pred, FX1]
  · rintro fu i q h' n' hi ⟨⟨rfl, rfl⟩, rfl⟩ next
    obtain ⟨b, off, cap, o, cs, hv, hg, hb, _, _, _, hat⟩ := hR0.some (by omega)
    cases hv
    have e1 : ((i : Nat) : Int) < ((xs.length : Nat) : Int) := by omega
    have c1 := hat i hi
    have xb := hm' _ (gd_mem hi)
    have m1 : ¬ (xs.getD i 0 < 0) := by omega
    have m2 : ¬ (1099511627776 < xs.getD i 0) := by omega
    have k1 := capI_le (sumI (xs.take i))
    have k2 := capI_ge (sumI_ge (l := xs.take i) fun x hx => (hm' x (List.mem_of_mem_take hx)).1)
    rw [succA_freq_Total]
    try simp (disch := first | omega | assumption | exact one_int _ _ | exact one_slice _ _ _ | exact one_ptr _ | exact one_bool _ | exact one_string _) only [RXA, RXB, Nat.reduceAdd, Nat.reduceLT, wrap_id, wrap_succ, wrap_pred, FX1, e1, hg, c1, m1, m2]
    refine run_same (s_together lf d _ h' _ _ (by omega) (by omega)) (Nat.le_refl _) (fun _ _ h => h.elim) ?_
    try simp (disch := first | omega | assumption | exact one_int _ _ | exact one_slice _ _ _ | exact one_ptr _ | exact one_bool _ | exact one_string _) only [RXA, RXB, Nat.reduceAdd, Nat.reduceLT, wrap_id, wrap_succ, wrap_pred, FX1]
    exact next _ _ _ ⟨⟨rfl, rfl⟩, by rw [capI_cap xb.1, sumI_next hi]⟩
theorem r_Total (v : Value) (xs : List Int) (hR : Row h n 3 .i64 v xs) (hl : xs.length ≤ 1000000) (hm : allIn 0 1099511627776 xs = true) :
    Run (fun _ => False) n (evCall2 Tryd.prog gt lf (d + 2) 21 #[v]) h n fun v' h' n' => v' = .int .i64 (capI (sumI xs)) ∧ h' = h ∧ n' = n := by
  have hm' := allIn_iff.1 hm
  rw [sh_balerref08_Total]
  refine Run.inside_ ?_
  unfold b_balerref08_Total
  have hR0 := hR
  obtain ⟨a, c, rfl⟩ := hR.len
  try simp (disch := first | omega | assumption | exact one_int _ _ | exact one_slice _ _ _ | exact one_ptr _ | exact one_bool _ | exact one_string _) only [RXA, RXB, Nat.reduceAdd, Nat.reduceLT, wrap_id, wrap_succ, wrap_pred, FX1]
  refine run_for xs.length (fun fu i (q : Int) => lpA_balerref08_Total lf (d + 1) fu (kcA_balerref08_Total lf (d + 1)) (.slice a xs.length c) (.int .i64 0) (.int .i64 q) (.slice a xs.length c) (.int .i64 (xs.length : Nat)) (.int .i64 (i : Nat))) (fun i q h' n' => (h' = h ∧ n' = n) ∧ q = capI (sumI (xs.take i))) ?_ ?_ lf 0 0 h n (Nat.zero_le _) (by omega) ⟨⟨rfl, rfl⟩, rfl⟩
  · rintro fu q h' n' ⟨⟨rfl, rfl⟩, rfl⟩
    rw [succA_balerref08_Total, List.take_length]
    try simp (disch := first | omega | assumption | exact one_int _ _ | exact one_slice _ _ _ | exact one_ptr _ | exact one_bool _ | exact one_string _) only [RXA, RXB, Nat.reduceAdd, Nat.reduceLT, wrap_id, wrap_succ, wrap_pred, FX1, Int.lt_irrefl]
    rw [kcAa_balerref08_Total]
    try simp (disch := first | omega | assumption | exact one_int _ _ | exact one_slice _ _ _ | exact one_ptr _ | exact one_bool _ | exact one_string _) only [RXA, RXB, Nat.reduceAdd, Nat.reduceLT, wrap_id, wrap_succ, wrap_pred, FX1]
  · rintro fu i q h' n' hi ⟨⟨rfl, rfl⟩, rfl⟩ next
    obtain ⟨b, off, cap, o, cs, hv, hg, hb, _, _, _, hat⟩ := hR0.some (by omega)
    cases hv
    have e1 : ((i : Nat) : Int) < ((xs.length : Nat) : Int) := by omega
    have c1 := hat i hi
    have xb := hm' _ (gd_mem hi)
    have k1 := capI_le (sumI (xs.take i))
    have k2 := capI_ge (sumI_ge (l := xs.take i) fun x hx => (hm' x (List.mem_of_mem_take hx)).1)
    have k3 := sumI_next hi
    rw [succA_balerref08_Total]
    by_cases p : 0 < xs.getD i 0
    · try simp (disch := first | omega | assumption | exact one_int _ _ | exact one_slice _ _ _ | exact one_ptr _ | exact one_bool _ | exact one_string _) only [RXA, RXB, Nat.reduceAdd, Nat.reduceLT, wrap_id, wrap_succ, wrap_pred, FX1, e1, hg, c1, p]
      refine run_same (r_most lf d _ h' _) (Nat.le_refl _) (fun _ _ h => h.elim) ?_
      rw [capI_id xb.2]
      try simp (disch := first | omega | assumption | exact one_int _ _ | exact one_slice _ _ _ | exact one_ptr _ | exact one_bool _ | exact one_string _) only [RXA, RXB, Nat.reduceAdd, Nat.reduceLT, wrap_id, wrap_succ, wrap_pred, FX1]
      refine run_same (r_most lf d _ h' _) (Nat.le_refl _) (fun _ _ h => h.elim) ?_
      try simp (disch := first | omega | assumption | exact one_int _ _ | exact one_slice _ _ _ | exact one_ptr _ | exact one_bool _ | exact one_string _) only [RXA, RXB, Nat.reduceAdd, Nat.reduceLT, wrap_id, wrap_succ, wrap_pred, FX1]
      exact next _ _ _ ⟨⟨rfl, rfl⟩, by rw [capI_cap xb.1, k3]⟩
    · try simp (disch := first | omega | assumption | exact one_int _ _ | exact one_slice _ _ _ | exact one_ptr _ | exact one_bool _ | exact one_string _) only [RXA, RXB, Nat.reduceAdd, Nat.reduceLT, wrap_id, wrap_succ, wrap_pred, FX1, e1, hg, c1, p]
      refine next _ _ _ ⟨⟨rfl, rfl⟩, ?_⟩
      rw [k3, show xs.getD i 0 = 0 by omega, Int.add_zero]
def FirstOk (xs : List Int) (z : Int) : Prop := 3 ≤ xs.length ∧ xs.length ≤ 258 ∧ allIn 0 1099511627776 xs = true ∧ 1 ≤ z ∧ capI (sumI xs) = z
theorem s_TFirst (v : Value) (xs : List Int) (z : Int) (g : Gd h n) (hR : Row h n 3 .i64 v xs) (hL : xs.length ≤ 9223372036854775807) (hd : 500 ≤ d) :
    Run (fun _ => False) n (evCall2 Tryd.prog gt lf d 18 #[v, .int .i64 z]) h n fun v' h' n' => (FirstOk xs z ∧ ∃ u, v' = .tuple #[u, .int .i64 0] ∧ RR h' n' 22 3 u (firstL xs z)) ∨ (¬ FirstOk xs z ∧ v' = .tuple #[.slice none 0 0, .int .i64 1]) := by
  obtain ⟨d, rfl⟩ : ∃ e, d = e + 4 := ⟨d - 4, by omega⟩
  rw [sh_tables_First]
  refine Run.inside_ ?_
  unfold b_tables_First
  have z1 : ((1 : Int) != 0) = true := rfl
  have z2 : ((0 : Int) != 0) = false := rfl
  by_cases ok : 3 ≤ xs.length ∧ xs.length ≤ 258 ∧ allIn 0 1099511627776 xs = true
  · obtain ⟨h3, h258, hm⟩ := ok
    refine run_call okd (s_tbl lf (d + 3) n h hlf v xs hR h3 h258 hm (by omega)) (Nat.le_refl n) (fun _ _ h => h.elim) fun v1 h1 n1 hn1 fr1 hq => ?_
    obtain ⟨u, rfl, _⟩ := hq
    have hR1 := hR.keep hn1 fun b hb => fr1 b hb id
    try simp (disch := first | omega | assumption | exact one_int _ _ | exact one_slice _ _ _ | exact one_ptr _ | exact one_bool _ | exact one_string _) only [RXA, RXB, Nat.reduceAdd, Nat.reduceLT, wrap_id, wrap_succ, wrap_pred, FX1, ext0, ext1, z2]
    by_cases p : z < 1
    · try simp (disch := first | omega | assumption | exact one_int _ _ | exact one_slice _ _ _ | exact one_ptr _ | exact one_bool _ | exact one_string _) only [RXA, RXB, Nat.reduceAdd, Nat.reduceLT, wrap_id, wrap_succ, wrap_pred, FX1, p]
      exact .inr fun q => by have := q.2.2.2.1; omega
    · try simp (disch := first | omega | assumption | exact one_int _ _ | exact one_slice _ _ _ | exact one_ptr _ | exact one_bool _ | exact one_string _) only [RXA, RXB, Nat.reduceAdd, Nat.reduceLT, wrap_id, wrap_succ, wrap_pred, FX1, p]
      refine run_same (s_fTotal lf (d + 1) n1 h1 hlf v xs hR1 (by omega) hm) hn1 (fun _ _ h => h.elim) ?_
      by_cases q : capI (sumI xs) = z
      · have e : (capI (sumI xs) != z) = false := by rw [q]; simp
        have hc := capI_le (sumI xs)
        try simp (disch := first | omega | assumption | exact one_int _ _ | exact one_slice _ _ _ | exact one_ptr _ | exact one_bool _ | exact one_string _) only [RXA, RXB, Nat.reduceAdd, Nat.reduceLT, wrap_id, wrap_succ, wrap_pred, FX1, e]
        refine run_call okd (s_first lf (d + 1) n1 h1 hlf v xs z (g.keep hn1 fun b hb => fr1 b hb id) hR1 h258 (allIn_iff.1 hm) (by omega) (by omega)) hn1 (fun _ _ h => h.elim) fun v2 h2 n2 hn2 fr2 hq2 => ?_
        try simp (disch := first | omega | assumption | exact one_int _ _ | exact one_slice _ _ _ | exact one_ptr _ | exact one_bool _ | exact one_string _) only [RXA, RXB, Nat.reduceAdd, Nat.reduceLT, wrap_id, wrap_succ, wrap_pred, FX1]
        exact .inl ⟨⟨h3, h258, hm, by omega, q⟩, _, rfl, hq2⟩
      · have e : (capI (sumI xs) != z) = true := bne_iff_ne.2 q
        try simp (disch := first | omega | assumption | exact one_int _ _ | exact one_slice _ _ _ | exact one_ptr _ | exact one_bool _ | exact one_string _) only [RXA, RXB, Nat.reduceAdd, Nat.reduceLT, wrap_id, wrap_succ, wrap_pred, FX1, e]
        exact .inr fun w => q w.2.2.2.2
  · refine run_call okd (s_Of_no lf (d + 3) n h v xs hR ?_ hL hlf (by omega)) (Nat.le_refl n) (fun _ _ h => h.elim) fun v1 h1 n1 hn1 fr1 hq => ?_
    · by_cases q1 : xs.length < 3
      · exact .inl q1
      by_cases q2 : 258 < xs.length
      · exact .inr (.inl q2)
      · refine .inr (.inr ?_)
        cases q3 : allIn 0 1099511627776 xs with
        | false => rfl
        | true => exact absurd ⟨by omega, by omega, q3⟩ ok
    · subst hq
      try simp (disch := first | omega | assumption | exact one_int _ _ | exact one_slice _ _ _ | exact one_ptr _ | exact one_bool _ | exact one_string _) only [RXA, RXB, Nat.reduceAdd, Nat.reduceLT, wrap_id, wrap_succ, wrap_pred, FX1, ext0, ext1, z1]
      exact .inr fun q => ok ⟨q.1, q.2.1, q.2.2.1⟩
set_option maxHeartbeats 1000000 in
theorem law_TFirst (v : Value) (xs : List Int) (z : Int) (g : Gd h n) (hR : Row h n 3 .i64 v xs) (hL : xs.length ≤ 9223372036854775807) (hd : 700 ≤ d) :
    Run (fun _ => False) n (evCall2 Tryd.prog gt lf d 5 #[v, .int .i64 z]) h n fun v' _ _ => v' = .bool true := by
  obtain ⟨d, rfl⟩ : ∃ e, d = e + 8 := ⟨d - 8, by omega⟩
  rw [sh_balerlaw12_TablesFirst]
  refine Run.inside_ ?_
  unfold b_balerlaw12_TablesFirst
  have hR0 := hR
  obtain ⟨a, c, rfl⟩ := hR.len
  have z1 : ((1 : Int) == 1) = true := rfl
  have z0 : ((0 : Int) == 0) = true := rfl
  have z00 : (((0 : Nat) : Int) == 0) = true := rfl
  by_cases c1 : 60 < xs.length ∧ xs.length ≤ 258
  · have e1 : (60 : Int) < ((xs.length : Nat) : Int) := by omega
    have e2 : ((xs.length : Nat) : Int) ≤ 258 := by omega
    try simp (disch := first | omega | assumption | exact one_int _ _ | exact one_slice _ _ _ | exact one_ptr _ | exact one_bool _ | exact one_string _) only [RXA, RXB, Nat.reduceAdd, Nat.reduceLT, wrap_id, wrap_succ, wrap_pred, FX1, e1, e2]
    exact run_three (Nat.le_refl n) g
  have call := s_TFirst lf (d + 7) n h hlf _ xs z g hR0 hL (by omega)
  have nn : ((numL z : Int) != (numL z : Int)) = false := by simp
  by_cases c2 : 60 < xs.length
  · have e1 : (60 : Int) < ((xs.length : Nat) : Int) := by omega
    have e2 : ¬ ((xs.length : Nat) : Int) ≤ 258 := by omega
    have e3 : ¬ ((xs.length : Nat) : Int) < 3 := by omega
    have e4 : (258 : Int) < ((xs.length : Nat) : Int) := by omega
    try simp (disch := first | omega | assumption | exact one_int _ _ | exact one_slice _ _ _ | exact one_ptr _ | exact one_bool _ | exact one_string _) only [RXA, RXB, Nat.reduceAdd, Nat.reduceLT, wrap_id, wrap_succ, wrap_pred, FX1, e1, e2]
    refine run_call okd call (Nat.le_refl n) (fun _ _ h => h.elim) fun v1 h1 n1 hn1 fr1 hq => ?_
    have g1 := g.keep hn1 fun b hb => fr1 b hb id
    rcases hq with ⟨q, _⟩ | ⟨_, rfl⟩
    · have := q.2.1; omega
    try simp (disch := first | omega | assumption | exact one_int _ _ | exact one_slice _ _ _ | exact one_ptr _ | exact one_bool _ | exact one_string _) only [RXA, RXB, Nat.reduceAdd, Nat.reduceLT, wrap_id, wrap_succ, wrap_pred, FX1, ext0, ext1]
    refine run_same (s_Number lf (d + 6) n1 h1 z g1 (by omega)) hn1 (fun _ _ h => h.elim) ?_
    refine run_same (r_Number lf (d + 6) n1 h1 z) hn1 (fun _ _ h => h.elim) ?_
    try simp (disch := first | omega | assumption | exact one_int _ _ | exact one_slice _ _ _ | exact one_ptr _ | exact one_bool _ | exact one_string _) only [RXA, RXB, Nat.reduceAdd, Nat.reduceLT, wrap_id, wrap_succ, wrap_pred, FX1, nn, e3, e4, z1, z00]
    exact run_three hn1 g1
  · have e1 : ¬ (60 : Int) < ((xs.length : Nat) : Int) := by omega
    have e4 : ¬ (258 : Int) < ((xs.length : Nat) : Int) := by omega
    try simp (disch := first | omega | assumption | exact one_int _ _ | exact one_slice _ _ _ | exact one_ptr _ | exact one_bool _ | exact one_string _) only [RXA, RXB, Nat.reduceAdd, Nat.reduceLT, wrap_id, wrap_succ, wrap_pred, FX1, e1]
    refine run_call okd call (Nat.le_refl n) (fun _ _ h => h.elim) fun v1 h1 n1 hn1 fr1 hq => ?_
    have g1 := g.keep hn1 fun b hb => fr1 b hb id
    have hR1 := hR0.keep hn1 fun b hb => fr1 b hb id
    rcases hq with ⟨ok, u, rfl, hu⟩ | ⟨bad, rfl⟩
    · obtain ⟨h3, h258, hm, hz, hs⟩ := ok
      have e3 : ¬ ((xs.length : Nat) : Int) < 3 := by omega
      have e5 : ¬ z < 1 := by omega
      have e6 : (capI (sumI xs) != z) = false := by rw [hs]; simp
      have hc := capI_le (sumI xs)
      try simp (disch := first | omega | assumption | exact one_int _ _ | exact one_slice _ _ _ | exact one_ptr _ | exact one_bool _ | exact one_string _) only [RXA, RXB, Nat.reduceAdd, Nat.reduceLT, wrap_id, wrap_succ, wrap_pred, FX1, ext0, ext1]
      refine run_same (s_Number lf (d + 6) n1 h1 z g1 (by omega)) hn1 (fun _ _ h => h.elim) ?_
      refine run_same (r_Number lf (d + 6) n1 h1 z) hn1 (fun _ _ h => h.elim) ?_
      try simp (disch := first | omega | assumption | exact one_int _ _ | exact one_slice _ _ _ | exact one_ptr _ | exact one_bool _ | exact one_string _) only [RXA, RXB, Nat.reduceAdd, Nat.reduceLT, wrap_id, wrap_succ, wrap_pred, FX1, nn, e3, e4]
      refine run_same (s_May lf (d + 6) n1 h1 _ xs hR1 0 1099511627776 (by omega) hlf) hn1 (fun _ _ h => h.elim) ?_
      rw [hm]
      try simp (disch := first | omega | assumption | exact one_int _ _ | exact one_slice _ _ _ | exact one_ptr _ | exact one_bool _ | exact one_string _) only [RXA, RXB, Nat.reduceAdd, Nat.reduceLT, wrap_id, wrap_succ, wrap_pred, FX1, Bool.not_true, e5]
      refine run_same (r_Total lf (d + 5) n1 h1 hlf _ xs hR1 (by omega) hm) hn1 (fun _ _ h => h.elim) ?_
      by_cases big : 274877906944 < z
      · try simp (disch := first | omega | assumption | exact one_int _ _ | exact one_slice _ _ _ | exact one_ptr _ | exact one_bool _ | exact one_string _) only [RXA, RXB, Nat.reduceAdd, Nat.reduceLT, wrap_id, wrap_succ, wrap_pred, FX1, e6, big]
        exact run_three hn1 g1
      · try simp (disch := first | omega | assumption | exact one_int _ _ | exact one_slice _ _ _ | exact one_ptr _ | exact one_bool _ | exact one_string _) only [RXA, RXB, Nat.reduceAdd, Nat.reduceLT, wrap_id, wrap_succ, wrap_pred, FX1, e6, big, z0]
        refine run_call okd (r_First lf (d + 5) n1 h1 hlf _ xs z hR1 h258 (allIn_iff.1 hm) (by omega) (by omega)) hn1 (fun _ _ h => h.elim) fun v2 h2 n2 hn2 fr2 hq2 => ?_
        have lt6 := (numL_ge z).2
        refine run_same (r_Rows lf (d + 5) n2 h2 u v2 _ _ (hu.keep hn2 fun b hb => fr2 b hb id) hq2 (by rw [firstL_len]; omega) (by rw [firstL_len]; omega) fun l hl => ?_) (by omega) (fun _ _ h => h.elim) ?_
        · unfold firstL at hl
          obtain ⟨p, _, rfl⟩ := List.mem_map.1 hl
          rw [firstT_len]
          omega
        · rw [decide_eq_true rfl]
          try simp (disch := first | omega | assumption | exact one_int _ _ | exact one_slice _ _ _ | exact one_ptr _ | exact one_bool _ | exact one_string _) only [RXA, RXB, Nat.reduceAdd, Nat.reduceLT, wrap_id, wrap_succ, wrap_pred, FX1]
          exact run_three (by omega) (g1.keep hn2 fun b hb => fr2 b hb id)
    · try simp (disch := first | omega | assumption | exact one_int _ _ | exact one_slice _ _ _ | exact one_ptr _ | exact one_bool _ | exact one_string _) only [RXA, RXB, Nat.reduceAdd, Nat.reduceLT, wrap_id, wrap_succ, wrap_pred, FX1, ext0, ext1]
      refine run_same (s_Number lf (d + 6) n1 h1 z g1 (by omega)) hn1 (fun _ _ h => h.elim) ?_
      refine run_same (r_Number lf (d + 6) n1 h1 z) hn1 (fun _ _ h => h.elim) ?_
      by_cases q1 : xs.length < 3
      · have e3 : ((xs.length : Nat) : Int) < 3 := by omega
        try simp (disch := first | omega | assumption | exact one_int _ _ | exact one_slice _ _ _ | exact one_ptr _ | exact one_bool _ | exact one_string _) only [RXA, RXB, Nat.reduceAdd, Nat.reduceLT, wrap_id, wrap_succ, wrap_pred, FX1, nn, e3, z1, z00]
        exact run_three hn1 g1
      have e3 : ¬ ((xs.length : Nat) : Int) < 3 := by omega
      try simp (disch := first | omega | assumption | exact one_int _ _ | exact one_slice _ _ _ | exact one_ptr _ | exact one_bool _ | exact one_string _) only [RXA, RXB, Nat.reduceAdd, Nat.reduceLT, wrap_id, wrap_succ, wrap_pred, FX1, nn, e3, e4]
      refine run_same (s_May lf (d + 6) n1 h1 _ xs hR1 0 1099511627776 (by omega) hlf) hn1 (fun _ _ h => h.elim) ?_
      cases hm : allIn 0 1099511627776 xs with
      | false =>
        try simp (disch := first | omega | assumption | exact one_int _ _ | exact one_slice _ _ _ | exact one_ptr _ | exact one_bool _ | exact one_string _) only [RXA, RXB, Nat.reduceAdd, Nat.reduceLT, wrap_id, wrap_succ, wrap_pred, FX1, Bool.not_false, z1, z00]
        exact run_three hn1 g1
      | true =>
        by_cases q2 : z < 1
        · try simp (disch := first | omega | assumption | exact one_int _ _ | exact one_slice _ _ _ | exact one_ptr _ | exact one_bool _ | exact one_string _) only [RXA, RXB, Nat.reduceAdd, Nat.reduceLT, wrap_id, wrap_succ, wrap_pred, FX1, Bool.not_true, q2, z1, z00]
          exact run_three hn1 g1
        · try simp (disch := first | omega | assumption | exact one_int _ _ | exact one_slice _ _ _ | exact one_ptr _ | exact one_bool _ | exact one_string _) only [RXA, RXB, Nat.reduceAdd, Nat.reduceLT, wrap_id, wrap_succ, wrap_pred, FX1, Bool.not_true, q2]
          refine run_same (r_Total lf (d + 5) n1 h1 hlf _ xs hR1 (by omega) hm) hn1 (fun _ _ h => h.elim) ?_
          have e6 : (capI (sumI xs) != z) = true := bne_iff_ne.2 fun q => bad ⟨by omega, by omega, hm, by omega, q⟩
          try simp (disch := first | omega | assumption | exact one_int _ _ | exact one_slice _ _ _ | exact one_ptr _ | exact one_bool _ | exact one_string _) only [RXA, RXB, Nat.reduceAdd, Nat.reduceLT, wrap_id, wrap_succ, wrap_pred, FX1, e6, z1, z00]
          exact run_three hn1 g1
end
theorem call_TFirst {w : World} (hw : Ev.GlobAt w) {vs : List Value} (ha : All2 (ArgR Tryd.prog w) [22, 3] vs) : Calls Tryd.prog 5 vs.toArray w fun e w' => e = .returned (.bool true) ∧ Below w.heap.size w w' :=
  the_law' (lf := 3000000) (d := 700) hw ha fun n h vs0 g q => by
    obtain ⟨a, b, rfl, h1, h2⟩ := Ev.all2_2 q
    obtain ⟨xs, hR, hl, _⟩ := a_row h1
    obtain ⟨z, rfl, _⟩ := a_num h2
    exact law_TFirst 3000000 700 n h (by decide) a xs z g hR hl (by decide)
end Go.Proofs.YtdagfcflbphoiaaDoor

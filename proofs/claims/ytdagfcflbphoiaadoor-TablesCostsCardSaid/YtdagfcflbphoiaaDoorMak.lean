/- From the second form to calls, in a seat whose tables are laid. -/
import Derived.Test.YtdagfcflbphoiaaDoorMaj
import Derived.Test.YtdagfcflbphoiaaDoorMae
namespace Go.Proofs.YtdagfcflbphoiaaDoor
set_option linter.unusedVariables false
set_option linter.unusedSimpArgs false
open Go.RowKit Ev

/-- the laid variable is there -/
def Gd (h : H) (n : Nat) : Prop := h.get 0 = some ⟨3, false, gV⟩ ∧ 0 < n
theorem Gd.keep {h h' : H} {n n' : Nat} (x : Gd h n) (hn : n ≤ n') (hk : ∀ b, b < n → h'.get b = h.get b) : Gd h' n' := ⟨(hk _ x.2).trans x.1, Nat.lt_of_lt_of_le x.2 hn⟩
theorem Gd.of {h : H} {n : Nat} (hn : Tryd.prog.globals.size ≤ n) (hg : h.get 0 = some ⟨3, false, gV⟩) : Gd h n := ⟨hg, Nat.lt_of_lt_of_le (by decide +kernel) hn⟩
theorem k_three (lf d n : Nat) (h : H) (x : Gd h n) : Run (fun _ => False) n (evCall2 Tryd.prog gt lf (d + 1) 8 #[]) h n fun v' h' n' => v' = .bool true ∧ h' = h ∧ n' = n := by
  obtain ⟨hg, hn⟩ := x
  have e : evCall2 Tryd.prog gt lf (d + 1) 8 #[] = (chkG Tryd.prog KG).bind fun _ => M.ret (.bool true) := by kernel_rfl
  rw [e]
  have rdg : ∀ (k : Nat) (v : Value), gV[k]? = some v → rd 0 k h n = some ⟨v, h, n, [⟨false, 0, some k⟩]⟩ := fun k v hk => by
    unfold rd
    simp only [hn, hg, hk, if_true]
  have hsz : decide (0 < Tryd.prog.globals.size) = true := by decide +kernel
  have stp : ∀ (k : Nat) (x : Int) (l : List (Nat × Nat × Value)) (L : List En), gV[k]? = some (.int .i64 x) → chkG Tryd.prog l h n = some ⟨(), h, n, L⟩ → chkG Tryd.prog ((0, k, .int .i64 x) :: l) h n = some ⟨(), h, n, [⟨false, 0, some k⟩] ++ L⟩ := fun k x l L hk hl => by
    unfold chkG
    refine bind_run (rdg k _ hk) ?_
    simp only [hsz, sameI, decide_true, Bool.and_self, if_true]
    exact hl
  have c := stp 0 200 _ _ rfl (stp 1 600 _ _ rfl (stp 2 1200 _ _ rfl (stp 3 2400 [] [] rfl rfl)))
  refine Run.step c (Nat.le_refl _) (by simp) ?_
  rw [run_ret]
  exact ⟨rfl, rfl, rfl⟩
theorem run_three {lf d n n0 : Nat} {h : H} {W : Nat → Prop} (hn : n0 ≤ n) (x : Gd h n) : Run W n0 ((inside (evCall2 Tryd.prog gt lf (d + 1) 8 #[])).bind fun v => outK [v]) h n fun v _ _ => v = .bool true := by
  refine run_same (k_three lf d n h x) hn (fun _ _ h => h.elim) ?_
  rw [run_out1]

end Go.Proofs.YtdagfcflbphoiaaDoor
/- Layer 12 by the second form: how many tables, groups, picks. -/
namespace Go.Proofs.YtdagfcflbphoiaaDoor
set_option linter.unusedVariables false
set_option linter.unusedSimpArgs false
open Go.RowKit Ev Tb

section
variable (lf d n : Nat) (h : H) (hlf : 3000000 ≤ lf)
include hlf
end
end Go.Proofs.YtdagfcflbphoiaaDoor
/- Layers 8 and 12 by the second form: the reference's groups; the tables at first. -/
namespace Go.Proofs.YtdagfcflbphoiaaDoor
set_option linter.unusedVariables false
set_option linter.unusedSimpArgs false
open Go.RowKit Ev Tb

def grpNow (xs : List Int) (i : Nat) : List Int := if i < xs.length then (xs.drop (50 * (i / 50))).take (i % 50) else []
def grpOut (xs : List Int) (i : Nat) : List (List Int) := (List.range (if i < xs.length then i / 50 else grpN xs.length)).map (grp xs)
theorem grp_snoc {xs : List Int} {i : Nat} (h : i < xs.length) : (xs.drop (50 * (i / 50))).take (i % 50) ++ [xs.getD i 0] = (xs.drop (50 * (i / 50))).take (i % 50 + 1) := by
  rw [List.take_succ_eq_append_getElem (by simp; omega), List.getElem_drop, List.getD_eq_getElem?_getD, List.getElem?_eq_getElem h]
  congr 2
  show xs[i] = _
  congr 1
  omega
theorem grp_full {xs : List Int} {i : Nat} (h : i < xs.length) (h2 : i % 50 + 1 = 50 ∨ i + 1 = xs.length) : (xs.drop (50 * (i / 50))).take (i % 50 + 1) = grp xs (i / 50) := by
  unfold grp
  rcases h2 with h2 | h2
  · rw [h2]
  · rw [List.take_of_length_le (by simp; omega), List.take_of_length_le (by simp; omega)]
section
variable (lf d n : Nat) (h : H) (hlf : 3000000 ≤ lf)
include hlf
theorem r_Groups (v : Value) (xs : List Int) (hR : Row h n 3 .i64 v xs) (hl : xs.length ≤ 1000000) :
    Run (fun _ => False) n (evCall2 Tryd.prog gt lf (d + 1) 10 #[v]) h n fun v' h' n' => RR h' n' 22 3 v' (groupsL xs) := by
  rw [sh_balerref08_Groups]
  refine Run.inside_ ?_
  unfold b_balerref08_Groups
  have hR0 := hR
  obtain ⟨a, c, rfl⟩ := hR.len
  try simp (disch := first | omega | assumption | exact one_int _ _ | exact one_slice _ _ _ | exact one_ptr _ | exact one_bool _ | exact one_string _) only [RXA, RXB, Nat.reduceAdd, Nat.reduceLT, wrap_id, wrap_succ, wrap_pred, FX1]
  refine run_for xs.length (fun fu i (q : Value × Value) => lpA_balerref08_Groups lf d fu (kcA_balerref08_Groups lf d) (.slice a xs.length c) (.slice none 0 0) q.1 q.2 (.slice a xs.length c) (.int .i64 (xs.length : Nat)) (.int .i64 (i : Nat)))
    (fun i q h' n' => n ≤ n' ∧ (∀ b, b < n → h'.get b = h.get b) ∧ ∃ lo, n ≤ lo ∧ lo ≤ n' ∧ OwnRR h' n lo n' 22 3 q.1 (grpOut xs i) ∧ Own h' lo n' 3 q.2 (intsV .i64 (grpNow xs i))) ?_ ?_ lf 0 (.slice none 0 0, .slice none 0 0) h n (Nat.zero_le _) (by omega) ⟨Nat.le_refl _, fun _ _ => rfl, n, Nat.le_refl _, Nat.le_refl _, ?_, ?_⟩
  · rintro fu ⟨u, w⟩ h' n' ⟨hn, hk, lo, l1, l2, hO, hN⟩
    rw [succA_balerref08_Groups]
    try simp (disch := first | omega | assumption | exact one_int _ _ | exact one_slice _ _ _ | exact one_ptr _ | exact one_bool _ | exact one_string _) only [RXA, RXB, Nat.reduceAdd, Nat.reduceLT, wrap_id, wrap_succ, wrap_pred, FX1, Int.lt_irrefl]
    rw [kcAa_balerref08_Groups]
    try simp (disch := first | omega | assumption | exact one_int _ _ | exact one_slice _ _ _ | exact one_ptr _ | exact one_bool _ | exact one_string _) only [RXA, RXB, Nat.reduceAdd, Nat.reduceLT, wrap_id, wrap_succ, wrap_pred, FX1]
    have := hO.rr
    unfold grpOut at this
    rw [if_neg (Nat.lt_irrefl _)] at this
    exact this
  · rintro fu i ⟨u, w⟩ h' n' hi ⟨hn, hk, lo, l1, l2, hO, hN⟩ next
    simp only at hO hN
    have hR1 := hR0.keep hn hk
    obtain ⟨b, off, cap, o, cs, hv, hg, hb, _, _, _, hat⟩ := hR1.some (by omega)
    cases hv
    have e1 : ((i : Nat) : Int) < ((xs.length : Nat) : Int) := by omega
    have c1 := hat i hi
    have gn : grpNow xs i = (xs.drop (50 * (i / 50))).take (i % 50) := by unfold grpNow; rw [if_pos hi]
    have go : grpOut xs i = (List.range (i / 50)).map (grp xs) := by unfold grpOut; rw [if_pos hi]
    have gl : ((xs.drop (50 * (i / 50))).take (i % 50)).length = i % 50 := by simp; omega
    rw [gn] at hN
    rw [go] at hO
    rw [succA_balerref08_Groups]
    try simp (disch := first | omega | assumption | exact one_int _ _ | exact one_slice _ _ _ | exact one_ptr _ | exact one_bool _ | exact one_string _) only [RXA, RXB, Nat.reduceAdd, Nat.reduceLT, wrap_id, wrap_succ, wrap_pred, FX1, e1, hg, c1]
    refine run_pushO c1x22 (one_int _ _) hN (by rw [intsV_len, gl]; omega) l1 _ fun h2 g2 k2 => ?_
    have g3 : h2.get (n' + 1) = some ⟨3, true, intsV .i64 ((xs.drop (50 * (i / 50))).take (i % 50 + 1))⟩ := by
      rw [g2, ← grp_snoc hi]
      unfold intsV
      rw [List.map_append]
      rfl
    have gl2 : ((xs.drop (50 * (i / 50))).take (i % 50 + 1)).length = i % 50 + 1 := by simp; omega
    obtain ⟨w2, hw2⟩ : ∃ w2 : Value, Value.slice (some ⟨n' + 1, 0, none⟩) ((intsV .i64 ((xs.drop (50 * (i / 50))).take (i % 50))).length + 1) (CAP + ((intsV .i64 ((xs.drop (50 * (i / 50))).take (i % 50))).length + 1)) = w2 := ⟨_, rfl⟩
    have o2 : Own h2 n' (n' + 2) 3 w2 (intsV .i64 ((xs.drop (50 * (i / 50))).take (i % 50 + 1))) := by
      rw [← hw2]
      exact Own.mk' g3 (by omega) (by omega) (by rw [intsV_len, intsV_len, gl, gl2])
    have hlen : (intsV .i64 ((xs.drop (50 * (i / 50))).take (i % 50))).length = i % 50 := by rw [intsV_len, gl]
    rw [hlen] at hw2 ⊢
    have hO2 : OwnRR h2 n n' (n' + 2) 22 3 u ((List.range (i / 50)).map (grp xs)) := (hO.keep (by omega) fun c hc q => k2 c hc fun r => by
      rcases q with q | q
      · have := (hN.lt r).1; omega
      · obtain ⟨B, x1, x2⟩ := hO.elem q
        obtain ⟨B', x3, x4⟩ := hN.elem r
        rw [x1] at x3; cases x3
        rw [x2] at x4; exact absurd x4 (by decide)).up l2
    have hk2 : ∀ c, c < n → h2.get c = h.get c := fun c hc => by rw [k2 c (by omega) fun r => by have := (hN.lt r).1; omega]; exact hk c hc
    have e0 : ((i % 50 : Nat) : Int) + 1 = ((i % 50 + 1 : Nat) : Int) := by omega
    -- the group is full
    have flush : (i % 50 + 1 = 50 ∨ i + 1 = xs.length) → Run (fun _ => False) n ((inside (evBuildSlice Tryd.prog 23 1 [(0, w2)])).bind fun z => (inside (evAppend Tryd.prog 23 u z)).bind fun z2 => lpA_balerref08_Groups lf d fu (kcA_balerref08_Groups lf d) (.slice (some ⟨b, off, none⟩) xs.length c) (.slice none 0 0) z2 (.slice none 0 0) (.slice (some ⟨b, off, none⟩) xs.length c) (.int .i64 (xs.length : Nat)) (.int .i64 ((i + 1 : Nat) : Int))) h2 (n' + 2) fun v' h' n' => RR h' n' 22 3 v' (groupsL xs) := by
      intro hf
      have hr := o2.row
      rw [grp_full hi hf] at hr
      refine run_pushRR c1x23 (by decide) hO2 hr (by omega) (by simp; omega) (Nat.le_refl _) (by omega) _ fun v2 h3 o3 k3 _ => ?_
      refine next (v2, .slice none 0 0) h3 (n' + 2 + 2) ⟨by omega, fun c hc => ?_, n' + 2, by omega, by omega, ?_, ?_⟩
      · rw [k3 c (by omega) fun r => by have := (hO2.lt r).1; omega]
        exact hk2 c hc
      · have : grpOut xs (i + 1) = (List.range (i / 50)).map (grp xs) ++ [grp xs (i / 50)] := by
          have : (if i + 1 < xs.length then (i + 1) / 50 else grpN xs.length) = i / 50 + 1 := by unfold grpN; split <;> omega
          unfold grpOut
          rw [this, List.range_succ, List.map_append]
          rfl
        rw [this]
        exact o3
      · have : grpNow xs (i + 1) = [] := by
          unfold grpNow
          split
          · rw [show (i + 1) % 50 = 0 by omega, List.take_zero]
          · rfl
        rw [this]
        exact Own.nil _ _ _ _
    have e4 : ((i : Nat) : Int) + 1 = ((i + 1 : Nat) : Int) := by omega
    by_cases f1 : i % 50 + 1 = 50
    · have z1 : (((i % 50 : Nat) : Int) + 1 == 50) = true := by rw [e0, f1]; rfl
      have z1' : (((i % 50 + 1 : Nat) : Int) == 50) = true := by rw [f1]; rfl
      rw [← hw2] at flush
      try simp (disch := first | omega | assumption | exact one_int _ _ | exact one_slice _ _ _ | exact one_ptr _ | exact one_bool _ | exact one_string _) only [RXA, RXB, Nat.reduceAdd, Nat.reduceLT, wrap_id, wrap_succ, wrap_pred, FX1, z1, z1']
      exact flush (.inl f1)
    · have z1 : (((i % 50 : Nat) : Int) + 1 == 50) = false := by rw [e0]; exact beq_eq_false_iff_ne.2 (by omega)
      have z1' : (((i % 50 + 1 : Nat) : Int) == 50) = false := beq_eq_false_iff_ne.2 (by omega)
      by_cases f2 : i + 1 = xs.length
      · have z2 : (((i : Nat) : Int) + 1 == ((xs.length : Nat) : Int)) = true := by rw [e4, f2]; simp
        rw [← hw2] at flush
        try simp (disch := first | omega | assumption | exact one_int _ _ | exact one_slice _ _ _ | exact one_ptr _ | exact one_bool _ | exact one_string _) only [RXA, RXB, Nat.reduceAdd, Nat.reduceLT, wrap_id, wrap_succ, wrap_pred, FX1, z1, z1', z2]
        exact flush (.inr f2)
      · have z2 : (((i : Nat) : Int) + 1 == ((xs.length : Nat) : Int)) = false := by rw [e4]; exact beq_eq_false_iff_ne.2 (by omega)
        have hd : (i + 1) / 50 = i / 50 := by omega
        have hm : (i + 1) % 50 = i % 50 + 1 := by omega
        try simp (disch := first | omega | assumption | exact one_int _ _ | exact one_slice _ _ _ | exact one_ptr _ | exact one_bool _ | exact one_string _) only [RXA, RXB, Nat.reduceAdd, Nat.reduceLT, wrap_id, wrap_succ, wrap_pred, FX1, z1, z1', z2]
        refine next (u, .slice (some ⟨n' + 1, 0, none⟩) (i % 50 + 1) (CAP + (i % 50 + 1))) h2 (n' + 2) ⟨by omega, hk2, n', by omega, by omega, ?_, ?_⟩
        · unfold grpOut
          rw [if_pos (by omega), hd]
          exact hO2
        · unfold grpNow
          rw [if_pos (by omega), hd, hm, hw2]
          exact o2
  · unfold grpOut
    by_cases q : 0 < xs.length
    · rw [if_pos q]; exact OwnRR.nil _ _ _ _ _ _
    · have : xs.length = 0 := by omega
      rw [if_neg q, this]; exact OwnRR.nil _ _ _ _ _ _
  · have : grpNow xs 0 = [] := by unfold grpNow; split <;> simp
    rw [this]
    exact Own.nil _ _ _ _
end
end Go.Proofs.YtdagfcflbphoiaaDoor
/- Layer 12 by the second form: the tables at first. -/
namespace Go.Proofs.YtdagfcflbphoiaaDoor
set_option linter.unusedVariables false
set_option linter.unusedSimpArgs false
open Go.RowKit Ev Tb

section
variable (lf d n : Nat) (h : H) (hlf : 3000000 ≤ lf)
include hlf
end
end Go.Proofs.YtdagfcflbphoiaaDoor
/- Lengths of counts: rounds of halving, by the second form; the statement LensWhole. -/
namespace Go.Proofs.YtdagfcflbphoiaaDoor
set_option linter.unusedVariables false
set_option linter.unusedSimpArgs false
open Go.RowKit Ev Hu

/-- the lengths that rounds of halving come to -/
inductive Rounds : Nat → List Int → List Int → Prop
  | stop (w : List Int) (hW : Ws w) (so : Sorts w (sortD w)) (h : lngL (depF w) 0 ≤ 20) : Rounds 0 w (depF w)
  | next {k : Nat} {w l : List Int} (hW : Ws w) (so : Sorts w (sortD w)) (h : ¬ lngL (depF w) 0 ≤ 20) (r : Rounds k (halvL w) l) : Rounds (k + 1) w l
theorem Rounds.out {k : Nat} {w l : List Int} (r : Rounds k w l) : ∃ w', Ws w' ∧ Sorts w' (sortD w') ∧ lngL (depF w') 0 ≤ 20 ∧ l = depF w' ∧ w'.length = w.length := by
  induction r with
  | stop w hW so h => exact ⟨w, hW, so, h, rfl, rfl⟩
  | next hW so h r ih =>
    obtain ⟨w', h1, h2, h3, h4, h5⟩ := ih
    exact ⟨w', h1, h2, h3, h4, by rw [h5, halvL_len]⟩

/-- weights within a bound -/
structure Wb (ws : List Int) (c : Int) : Prop where
  l2 : 2 ≤ ws.length
  l3 : ws.length ≤ 258
  lo : ∀ x ∈ ws, 1 ≤ x
  hi : ∀ x ∈ ws, x ≤ c
theorem Wb.ws {ws : List Int} {c : Int} (h : Wb ws c) (hc : c ≤ 2199023255552) : Ws ws := ⟨h.l2, h.l3, fun x hx => by have := h.lo x hx; omega, fun x hx => by have := h.hi x hx; omega⟩
/-- behind k rounds -/
def cap (k : Nat) : Int := 2 ^ k + 2
theorem Rounds.whole {k : Nat} {w l : List Int} (r : Rounds k w l) : l.length = w.length ∧ allIn 1 20 l = true ∧ shrL l = 1048576 := by
  obtain ⟨w', hW, so, h, rfl, hl⟩ := r.out
  obtain ⟨wf, I, A, B, X, R, dep, D⟩ := hW.deps so
  have hl2 := hW.l2
  rw [lngL_le] at h
  refine ⟨by rw [depF_len (by omega), hl], allIn_iff.2 fun x hx => ⟨?_, h.2 x hx⟩, ?_⟩
  · revert x
    unfold depF
    rw [D.mem]
    intro i hi
    have := D.ge1 hi
    omega
  · unfold depF at h ⊢
    exact D.share h.2
end Go.Proofs.YtdagfcflbphoiaaDoor
/- The reference's trees: which is less, the least one, all but one; by the second form. -/
namespace Go.Proofs.YtdagfcflbphoiaaDoor
set_option linter.unusedVariables false
set_option linter.unusedSimpArgs false
open Go.RowKit Ev Hu

end Go.Proofs.YtdagfcflbphoiaaDoor
/- The reference's merging, as plain lists: it takes what the program takes. No program in sight. -/
namespace Go.Proofs.YtdagfcflbphoiaaDoor
set_option linter.unusedVariables false
set_option linter.unusedSimpArgs false
open Ev Hu

def incAll (out : List Int) : List Nat → List Int
  | [] => out
  | i :: ls => incAll (out.set i (out.getD i 0 + 1)) ls
theorem inc_len : ∀ (ls : List Nat) (out : List Int), (incAll out ls).length = out.length
  | [], _ => rfl
  | i :: ls, out => by unfold incAll; rw [inc_len ls]; simp
theorem inc_at : ∀ (ls : List Nat) (out : List Int), ls.Nodup → (∀ i ∈ ls, i < out.length) → ∀ j, (incAll out ls).getD j 0 = out.getD j 0 + if j ∈ ls then 1 else 0
  | [], out, _, _, j => by simp [incAll]
  | i :: ls, out, hn, hl, j => by
    rw [List.nodup_cons] at hn
    have hi := hl i (by simp)
    unfold incAll
    rw [inc_at ls _ hn.2 (fun k hk => by rw [List.length_set]; exact hl k (by simp [hk])), getD_setI]
    by_cases e : i = j
    · subst e
      rw [if_pos ⟨rfl, hi⟩, if_neg hn.1, if_pos (by simp)]
      omega
    · rw [if_neg (fun q => e q.1)]
      have : (j ∈ i :: ls) ↔ j ∈ ls := by simp [Ne.symm e]
      simp only [this]
theorem erase_perm {α : Type} : ∀ {l : List α} {i : Nat} (h : i < l.length), l.Perm (l[i] :: l.eraseIdx i)
  | x :: l, 0, _ => List.Perm.refl _
  | x :: l, i + 1, h => by
    have h' : i < l.length := by simpa using h
    have := erase_perm h'
    simp only [List.getElem_cons_succ, List.eraseIdx_cons_succ]
    exact (this.cons x).trans (List.Perm.swap _ _ _)
/-- the numbers of the trees that wait, in order; their leaves; the depths so far -/
structure PInv (N : Nat) (dep : Nat → Nat) (X : Nat → List Nat) (k : Nat) (nums : List Nat) (lf : Nat → List Nat) (out : List Int) : Prop where
  srt : nums.Pairwise (· < ·)
  prm : nums.Perm (X k)
  len : out.length = N
  lv : ∀ t ∈ nums, ∀ i ∈ lf t, i < N ∧ out.getD i 0 + dep t = dep i
  cov : (nums.flatMap lf).Perm (List.range N)
  pos : ∀ i, 0 ≤ out.getD i 0
section
variable {N : Nat} {w : Nat → Int} {I A B : Nat → Nat} {X R : Nat → List Nat} {dep : Nat → Nat}
theorem PInv.next (m : Merge N w I A B X R) (d1 : ∀ i, i < 2 * N - 2 → dep i = dep (I i) + 1) {k : Nat} (hk : k + 2 ≤ N) {nums : List Nat} {lf : Nat → List Nat} {out : List Int} (p : PInv N dep X k nums lf out) {a b : Nat} (ha : a < nums.length) (hb : b < (nums.eraseIdx a).length) (ea : nums[a] = A k) (eb : (nums.eraseIdx a)[b] = B k) :
    PInv N dep X (k + 1) ((nums.eraseIdx a).eraseIdx b ++ [N + k]) (fun t => if t = N + k then lf (A k) ++ lf (B k) else lf t) (incAll out (lf (A k) ++ lf (B k))) ∧ (lf (A k) ++ lf (B k)).Nodup ∧ (∀ i ∈ lf (A k) ++ lf (B k), i < N) := by
  have q1 := erase_perm ha
  have q2 := erase_perm hb
  rw [ea] at q1
  rw [eb] at q2
  have q3 : nums.Perm (A k :: B k :: (nums.eraseIdx a).eraseIdx b) := q1.trans (q2.cons _)
  have hR : ((nums.eraseIdx a).eraseIdx b).Perm (R k) := ((q3.symm.trans p.prm).trans (m.st k hk)).cons_inv.cons_inv
  have hlt : ∀ t ∈ nums, t < N + k := fun t ht => m.lt (by omega) (p.prm.mem_iff.1 ht)
  obtain ⟨S, hS⟩ : ∃ S, (nums.eraseIdx a).eraseIdx b = S := ⟨_, rfl⟩
  rw [hS] at q3 hR ⊢
  have sub : ∀ t ∈ S, t ∈ nums := fun t ht => q3.mem_iff.2 (by simp [ht])
  have mA : A k ∈ nums := q3.mem_iff.2 (by simp)
  have mB : B k ∈ nums := q3.mem_iff.2 (by simp)
  have cv := (q3.flatMap_right lf).symm.trans p.cov
  simp only [List.flatMap_cons] at cv
  have nd : ((lf (A k) ++ lf (B k)) ++ S.flatMap lf).Nodup := by
    rw [List.append_assoc]
    exact cv.nodup_iff.2 List.nodup_range
  have nd1 := (List.nodup_append.1 nd).1
  have dis : ∀ t ∈ S, ∀ i ∈ lf t, i ∉ lf (A k) ++ lf (B k) := fun t ht i hi hc => (List.nodup_append.1 nd).2.2 i hc i (List.mem_flatMap.2 ⟨t, ht, hi⟩) rfl
  have il : ∀ i ∈ lf (A k) ++ lf (B k), i < N := fun i hi => by
    rcases List.mem_append.1 hi with q | q
    · exact (p.lv _ mA i q).1
    · exact (p.lv _ mB i q).1
  have ia := inc_at (lf (A k) ++ lf (B k)) out nd1 (fun i hi => by rw [p.len]; exact il i hi)
  obtain ⟨dA, dB⟩ := m.dep_ab d1 hk
  refine ⟨⟨?_, ?_, by rw [inc_len, p.len], fun t ht i hi => ?_, ?_, fun i => ?_⟩, nd1, il⟩
  · rw [List.pairwise_append]
    refine ⟨?_, by simp, fun x hx y hy => by rw [List.mem_singleton.1 hy]; exact hlt x (sub x hx)⟩
    rw [← hS]
    exact (p.srt.sublist (List.eraseIdx_sublist _ _)).sublist (List.eraseIdx_sublist _ _)
  · exact ((List.perm_append_singleton _ _).trans (hR.cons _)).trans (m.nx k hk).symm
  · rcases List.mem_append.1 ht with q | q
    · have hne : t ≠ N + k := fun e => by have := hlt t (sub t q); omega
      simp only [if_neg hne] at hi
      have := p.lv t (sub t q) i hi
      rw [ia, if_neg (dis t q i hi)]
      omega
    · obtain rfl := List.mem_singleton.1 q
      simp only [if_true] at hi
      refine ⟨il i hi, ?_⟩
      rw [ia, if_pos hi]
      rcases List.mem_append.1 hi with q | q
      · have := (p.lv _ mA i q).2; omega
      · have := (p.lv _ mB i q).2; omega
  · rw [List.flatMap_append]
    have e1 : S.flatMap (fun t => if t = N + k then lf (A k) ++ lf (B k) else lf t) = S.flatMap lf := by
      have : ∀ L : List Nat, (∀ t ∈ L, t < N + k) → L.flatMap (fun t => if t = N + k then lf (A k) ++ lf (B k) else lf t) = L.flatMap lf := by
        intro L
        induction L with
        | nil => intro _; rfl
        | cons t L ih =>
          intro h
          have := h t (by simp)
          rw [List.flatMap_cons, List.flatMap_cons, ih (fun s hs => h s (by simp [hs])), if_neg (by omega)]
      exact this S fun t ht => hlt t (sub t ht)
    rw [e1]
    simp only [List.flatMap_cons, List.flatMap_nil, if_true, List.append_nil]
    refine List.perm_append_comm.trans ?_
    rw [List.append_assoc]
    exact cv
  · rw [ia]
    have := p.pos i
    split <;> omega
theorem PInv.last (m : Merge N w I A B X R) (d0 : dep (2 * N - 2) = 0) {nums : List Nat} {lf : Nat → List Nat} {out : List Int} (p : PInv N dep X (N - 1) nums lf out) : out = (List.range N).map fun i => (dep i : Int) := by
  have hx := p.prm
  rw [m.last] at hx
  have hn := List.perm_singleton.1 hx
  subst hn
  have hc := p.cov
  simp only [List.flatMap_cons, List.flatMap_nil, List.append_nil] at hc
  apply List.ext_getElem
  · rw [p.len]; simp
  · intro i h1 h2
    have hi : i < N := by rw [p.len] at h1; exact h1
    have := (p.lv (2 * N - 2) (by simp) i (hc.mem_iff.2 (List.mem_range.2 hi))).2
    rw [d0, List.getD_eq_getElem?_getD, List.getElem?_eq_getElem h1] at this
    simp only [Option.getD_some] at this
    simp only [List.getElem_map, List.getElem_range]
    omega
end
end Go.Proofs.YtdagfcflbphoiaaDoor
/- The reference's depths, by the second form: they are the program's. -/
namespace Go.Proofs.YtdagfcflbphoiaaDoor
set_option linter.unusedVariables false
set_option linter.unusedSimpArgs false
open Go.RowKit Ev Hu

end Go.Proofs.YtdagfcflbphoiaaDoor
/- One round of the reference's depths, in two parts: a tree is taken; two are joined. -/
namespace Go.Proofs.YtdagfcflbphoiaaDoor
set_option linter.unusedVariables false
set_option linter.unusedSimpArgs false
open Go.RowKit Ev Hu

end Go.Proofs.YtdagfcflbphoiaaDoor
/- One round of the reference's depths: two trees are joined. -/
namespace Go.Proofs.YtdagfcflbphoiaaDoor
set_option linter.unusedVariables false
set_option linter.unusedSimpArgs false
open Go.RowKit Ev Hu

end Go.Proofs.YtdagfcflbphoiaaDoor
/- The reference's depths whole: they are the program's. -/
namespace Go.Proofs.YtdagfcflbphoiaaDoor
set_option linter.unusedVariables false
set_option linter.unusedSimpArgs false
open Go.RowKit Ev Hu

end Go.Proofs.YtdagfcflbphoiaaDoor
/- The reference's halving and lengths; the statements LensDepths and LensOf. -/
namespace Go.Proofs.YtdagfcflbphoiaaDoor
set_option linter.unusedVariables false
set_option linter.unusedSimpArgs false
open Go.RowKit Ev Hu

end Go.Proofs.YtdagfcflbphoiaaDoor
/- Layer 12 by the second form: a round. -/
namespace Go.Proofs.YtdagfcflbphoiaaDoor
set_option linter.unusedVariables false
set_option linter.unusedSimpArgs false
open Go.RowKit Ev Tb

theorem Rounds.det {r : Nat} {w l : List Int} (x : Rounds r w l) : ∀ {r' : Nat} {l' : List Int}, Rounds r' w l' → l = l' := by
  induction x with
  | stop w hW so hs =>
    intro r' l' y
    cases y with
    | stop => rfl
    | next _ _ hn _ => exact absurd hs hn
  | next hW so hs hr ih =>
    intro r' l' y
    cases y with
    | stop _ _ _ hn => exact absurd hn hs
    | next _ _ _ hr2 => exact ih hr2
section
variable (lf d n : Nat) (h : H) (hlf : 3000000 ≤ lf)
include hlf
end
section
variable (lf d n : Nat) (h : H) (hlf : 3000000 ≤ lf)
include hlf
end
end Go.Proofs.YtdagfcflbphoiaaDoor
/- Layer 12 by the second form: the choice. -/
namespace Go.Proofs.YtdagfcflbphoiaaDoor
set_option linter.unusedVariables false
set_option linter.unusedSimpArgs false
open Go.RowKit Ev Tb

section
variable (lf d n : Nat) (h : H) (hlf : 3000000 ≤ lf)
include hlf
end
end Go.Proofs.YtdagfcflbphoiaaDoor
/- Layer 12 by the second form: the reference's tables at first, and its choice. -/
namespace Go.Proofs.YtdagfcflbphoiaaDoor
set_option linter.unusedVariables false
set_option linter.unusedSimpArgs false
open Go.RowKit Ev Tb

section
variable (lf d n : Nat) (h : H) (hlf : 3000000 ≤ lf)
include hlf
end
end Go.Proofs.YtdagfcflbphoiaaDoor
/- Layer 12 by the second form: the reference's choice. -/
namespace Go.Proofs.YtdagfcflbphoiaaDoor
set_option linter.unusedVariables false
set_option linter.unusedSimpArgs false
open Go.RowKit Ev Tb

section
variable (lf d n : Nat) (h : H) (hlf : 3000000 ≤ lf)
include hlf
end
end Go.Proofs.YtdagfcflbphoiaaDoor
/- Layer 12 by the second form: which choices are the same. -/
namespace Go.Proofs.YtdagfcflbphoiaaDoor
set_option linter.unusedVariables false
set_option linter.unusedSimpArgs false
open Go.RowKit Ev Tb

section
variable (lf d n : Nat) (h : H)
/-- a choice: its tables and its picks -/
structure Choi (h : H) (n : Nat) (v : Value) (L : List (List Int)) (K : List Int) : Prop where
  ex : ∃ x y, v = .agg #[x, y] ∧ RR h n 22 3 x L ∧ Row h n 3 .i64 y K
theorem Choi.keep {h h' : H} {n n' : Nat} {v : Value} {L : List (List Int)} {K : List Int} (x : Choi h n v L K) (hn : n ≤ n') (hk : ∀ b, b < n → h'.get b = h.get b) : Choi h' n' v L K := by
  obtain ⟨x, y, hv, h1, h2⟩ := x.ex
  exact ⟨x, y, hv, h1.keep hn hk, h2.keep hn hk⟩
end
end Go.Proofs.YtdagfcflbphoiaaDoor
/- The statements TablesOf and TablesSame. -/
namespace Go.Proofs.YtdagfcflbphoiaaDoor
set_option linter.unusedVariables false
set_option linter.unusedSimpArgs false
open Go.RowKit Ev Tb

theorem the_law' {f : FuncId} {ts : List TypeId} {vs : List Value} {w : World} {lf d : Nat} (hw : Ev.GlobAt w) (ha : All2 (ArgR Tryd.prog w) ts vs) (r : ∀ n h vs0, Gd h n → All2 (ArgH Tryd.prog h n) ts vs0 → Run (fun _ => False) n (evCall2 Tryd.prog gt lf d f vs0.toArray) h n fun v _ _ => v = .bool true) :
    Calls Tryd.prog f vs.toArray w fun e w' => e = .returned (.bool true) ∧ Below w.heap.size w w' := by
  obtain ⟨m, x⟩ := laid_hG hw
  exact Ev.law_of ev_names ev_progK ev_mix known okd ha x fun n h vs0 hn hg q => r n h vs0 (Gd.of hn (by rw [hg _ (by decide +kernel)]; exact get_eq _ _ _)) q
theorem ct_ints : cellTs Tryd.prog 8 22 = some [22] := by kernel_rfl
theorem ct_int : cellTs Tryd.prog 8 3 = some [3] := by kernel_rfl
theorem ct_cho : cellTs Tryd.prog 8 25 = some [23, 22] := by kernel_rfl
theorem ag_ints : isAggT Tryd.prog 22 = false := by kernel_rfl
theorem ag_cho : isAggT Tryd.prog 25 = true := by kernel_rfl
theorem a_row {h : H} {n : Nat} {v : Value} (x : ArgH Tryd.prog h n 22 v) : ∃ xs, Row h n 3 .i64 v xs ∧ xs.length ≤ 9223372036854775807 ∧ ∀ y ∈ xs, -9223372036854775808 ≤ y ∧ y ≤ 9223372036854775807 := by
  obtain ⟨xs, h1, h2, h3⟩ := rep_row (f := 6) Tryd.underlying22 ct_int Tryd.underlying3 (argH_cell ct_ints ag_ints x)
  exact ⟨xs, h1, h2, fun y hy => wf64 (h3 y hy)⟩
theorem a_cho {h : H} {n : Nat} {v : Value} (x : ArgH Tryd.prog h n 25 v) : ∃ L K, Choi h n v L K ∧ L.length ≤ 9223372036854775807 ∧ K.length ≤ 9223372036854775807 ∧ (∀ y ∈ K, -9223372036854775808 ≤ y ∧ y ≤ 9223372036854775807) ∧ ∀ l ∈ L, l.length ≤ 9223372036854775807 ∧ ∀ y ∈ l, -9223372036854775808 ≤ y ∧ y ≤ 9223372036854775807 := by
  obtain ⟨cs, rfl, q⟩ := argH_agg ct_cho ag_cho x
  obtain ⟨a, b, rfl, q1, q2⟩ := all2_2 q
  obtain ⟨L, h1, h2, h3⟩ := rep_rr (f := 5) Tryd.underlying23 ct_ints Tryd.underlying22 ct_int Tryd.underlying3 q1
  obtain ⟨K, k1, k2, k3⟩ := rep_row (f := 6) Tryd.underlying22 ct_int Tryd.underlying3 q2
  exact ⟨L, K, ⟨a, b, rfl, h1, k1⟩, h2, k2, fun y hy => wf64 (k3 y hy), fun l hl => ⟨(h3 l hl).1, fun y hy => wf64 ((h3 l hl).2 y hy)⟩⟩
theorem Choi.agg {h : H} {n : Nat} {v : Value} {L : List (List Int)} {K : List Int} (x : Choi h n v L K) : ∃ a c a2 c2, v = .agg #[.slice a L.length c, .slice a2 K.length c2] ∧ RR h n 22 3 (.slice a L.length c) L ∧ Row h n 3 .i64 (.slice a2 K.length c2) K := by
  obtain ⟨x, y, rfl, h1, h2⟩ := x.ex
  have h10 := h1
  have h20 := h2
  obtain ⟨a, c, rfl⟩ := h1.len
  obtain ⟨a2, c2, rfl⟩ := h2.len
  exact ⟨a, c, a2, c2, rfl, h10, h20⟩
section
variable (lf d n : Nat) (h : H)
variable (hlf : 3000000 ≤ lf) (hd : 700 ≤ d)
include hlf hd
end
end Go.Proofs.YtdagfcflbphoiaaDoor
/- The statement TablesCosts. -/
namespace Go.Proofs.YtdagfcflbphoiaaDoor
set_option linter.unusedVariables false
set_option linter.unusedSimpArgs false
open Go.RowKit Ev Tb

def lenAt (L : List (List Int)) (K : List Int) (i : Nat) : List Int := L.getD (K.getD i 0).toNat []
def okAt (xs : List Int) (L : List (List Int)) (K : List Int) (i : Nat) : Bool := decide (0 ≤ K.getD i 0) && (decide (K.getD i 0 < (L.length : Int)) && (inB ((lenAt L K i).length : Int) (grp xs i) && allIn 0 1099511627776 (lenAt L K i)))
def costAt (xs : List Int) (L : List (List Int)) (K : List Int) (i : Nat) : Int := costL (grp xs i) (lenAt L K i)
def costTo (xs : List Int) (L : List (List Int)) (K : List Int) (i : Nat) : Int := sumI ((List.range i).map (costAt xs L K))
def okTo (xs : List Int) (L : List (List Int)) (K : List Int) (i : Nat) : Bool := (List.range i).all (okAt xs L K)
theorem okTo_next (xs : List Int) (L : List (List Int)) (K : List Int) (i : Nat) : okTo xs L K (i + 1) = (okTo xs L K i && okAt xs L K i) := by
  unfold okTo
  rw [List.range_succ, List.all_append]
  simp
theorem okTo_bad {xs : List Int} {L : List (List Int)} {K : List Int} {i m : Nat} (h : i < m) (hb : okAt xs L K i = false) : okTo xs L K m = false := List.all_eq_false.2 ⟨i, List.mem_range.2 h, by rw [hb]; exact Bool.false_ne_true⟩
theorem costTo_next (xs : List Int) (L : List (List Int)) (K : List Int) (i : Nat) : costTo xs L K (i + 1) = costTo xs L K i + costAt xs L K i := by
  unfold costTo
  rw [List.range_succ, List.map_append, sumI_app]
  simp [sumI]
theorem okTo_cost {xs : List Int} {L : List (List Int)} {K : List Int} : ∀ {i : Nat}, okTo xs L K i = true → 0 ≤ costTo xs L K i ∧ costTo xs L K i ≤ i * 1099511627776
  | 0, _ => by simp [costTo, sumI]
  | i + 1, h => by
    rw [okTo_next, Bool.and_eq_true] at h
    have ih := okTo_cost h.1
    have hc := h.2
    unfold okAt at hc
    simp only [Bool.and_eq_true] at hc
    have h1 := costL_ge (l := grp xs i) (ls := lenAt L K i) fun y hy => (allIn_iff.1 hc.2.2.2 y hy).1
    have h2 := costL_le (grp xs i) (lenAt L K i)
    rw [costTo_next]
    unfold costAt
    simp only [Int.natCast_add, Int.add_mul, Int.natCast_one, Int.one_mul]
    omega
def okAll (xs : List Int) (L : List (List Int)) (K : List Int) : Bool := decide (K.length = grpN xs.length) && okTo xs L K K.length
section
variable (lf d n : Nat) (h : H) (hlf : 3000000 ≤ lf)
include hlf
set_option maxHeartbeats 1000000 in
theorem s_TCost (v u : Value) (xs : List Int) (L : List (List Int)) (K : List Int) (hR : Row h n 3 .i64 v xs) (hu : Choi h n u L K) (hl : xs.length ≤ 100000) (hL : L.length ≤ 100000 ∧ ∀ l ∈ L, l.length ≤ 100000) (hK : K.length ≤ 100000) :
    Run (fun _ => False) n (evCall2 Tryd.prog gt lf (d + 9) 9 #[v, u]) h n fun v' h' n' => v' = if okAll xs L K = true then .tuple #[.int .i64 (capI (costTo xs L K K.length)), .int .i64 0] else .tuple #[.int .i64 0, .int .i64 1] := by
  obtain ⟨r, hr⟩ : ∃ r : Value, (if okAll xs L K = true then Value.tuple #[.int .i64 (capI (costTo xs L K K.length)), .int .i64 0] else .tuple #[.int .i64 0, .int .i64 1]) = r := ⟨_, rfl⟩
  rw [hr]
  rw [sh_tables_Cost]
  refine Run.inside_ ?_
  unfold b_tables_Cost
  have hR0 := hR
  obtain ⟨a, c, rfl⟩ := hR.len
  obtain ⟨a2, c2, a3, c3, rfl, hx, hy⟩ := hu.agg
  refine run_box sz25 _ _ ?_
  obtain ⟨h2, hh2⟩ : ∃ h2, h.set n (some ⟨25, true, (Value.agg #[.slice a2 L.length c2, .slice a3 K.length c3]).cells.toList⟩) = h2 := ⟨_, rfl⟩
  have g1 : h2.get n = some ⟨25, true, [.slice a2 L.length c2, .slice a3 K.length c3]⟩ := by rw [← hh2, get_eq]; rfl
  have hk : ∀ b, b < n → h2.get b = h.get b := fun b hb => by rw [← hh2, get_ne _ _ (by omega)]
  rw [hh2]
  have hR2 := hR0.keep (Nat.le_succ n) hk
  have hx2 := hx.keep (Nat.le_succ n) hk
  have hy2 := hy.keep (Nat.le_succ n) hk
  have lt1 : n < n + 1 := Nat.lt_succ_self n
  have c1 : ∀ p q : Value, [p, q][1]? = some q := fun _ _ => rfl
  try simp (disch := first | omega | assumption | exact one_int _ _ | exact one_slice _ _ _ | exact one_ptr _ | exact one_bool _ | exact one_string _) only [RXA, RXB, Nat.reduceAdd, Nat.reduceLT, wrap_id, wrap_succ, wrap_pred, FX1]
  refine timed_ldB ag22 _ _ _ g1 lt1 (Nat.le_refl _) (c1 _ _) fun T1 t1 => ?_
  try simp (disch := first | omega | assumption | exact one_int _ _ | exact one_slice _ _ _ | exact one_ptr _ | exact one_bool _ | exact one_string _) only [RXA, RXB, Nat.reduceAdd, Nat.reduceLT, wrap_id, wrap_succ, wrap_pred, FX1]
  refine timed_callB okd (s_fGroups lf (d + 7) _ h2 xs.length (by omega)) (by omega) fun v3 h3 n3 T3 hn3 fr3 hq3 t3 => ?_
  obtain ⟨hv3, hh3, hn3'⟩ := hq3
  have hv3 : v3 = .int .i64 (grpN xs.length : Int) := hv3
  have hh3 : h3 = h2 := hh3
  subst hv3 hh3 hn3'
  have x13 := t1.clash t3
  by_cases eq : K.length = grpN xs.length
  rotate_left
  · have nn : (((K.length : Nat) : Int) != ((grpN xs.length : Nat) : Int)) = true := bne_iff_ne.2 (by omega)
    try simp (disch := first | omega | assumption | exact one_int _ _ | exact one_slice _ _ _ | exact one_ptr _ | exact one_bool _ | exact one_string _) only [RXA, RXB, Nat.reduceAdd, Nat.reduceLT, wrap_id, wrap_succ, wrap_pred, FX1, nn, x13, Bool.not_false, chk_true, Bool.and_self]
    rw [← hr, if_neg]
    unfold okAll
    rw [decide_eq_false eq]
    simp
  have nn : (((K.length : Nat) : Int) != ((grpN xs.length : Nat) : Int)) = false := by rw [eq]; simp
  have okA : okAll xs L K = okTo xs L K K.length := by unfold okAll; rw [decide_eq_true eq, Bool.true_and]
  try simp (disch := first | omega | assumption | exact one_int _ _ | exact one_slice _ _ _ | exact one_ptr _ | exact one_bool _ | exact one_string _) only [RXA, RXB, Nat.reduceAdd, Nat.reduceLT, wrap_id, wrap_succ, wrap_pred, FX1, nn, x13, Bool.not_false, chk_true, Bool.and_self, g1]
  refine run_for K.length (fun fu i (q : Int) => lpA_tables_Cost lf (d + 8) fu (kcA_tables_Cost lf (d + 8)) (.slice a xs.length c) (.agg #[.slice a2 L.length c2, .slice a3 K.length c3]) (.pointer (some ⟨n, 0, none⟩)) (.int .i64 0) (.int .i64 0) (.int .i64 q) (.bool false) (.slice a3 K.length c3) (.int .i64 (K.length : Nat)) (.int .i64 (i : Nat)))
    (fun i q h' n' => n + 1 ≤ n' ∧ (∀ b, b < n + 1 → h'.get b = h3.get b) ∧ q = capI (costTo xs L K i) ∧ okTo xs L K i = true) ?_ ?_ lf 0 0 _ _ (Nat.zero_le _) (by omega) ⟨Nat.le_refl _, fun _ _ => rfl, rfl, rfl⟩
  · rintro fu q h' n' ⟨hn, hk', rfl, ha⟩
    rw [succA_tables_Cost]
    try simp (disch := first | omega | assumption | exact one_int _ _ | exact one_slice _ _ _ | exact one_ptr _ | exact one_bool _ | exact one_string _) only [RXA, RXB, Nat.reduceAdd, Nat.reduceLT, wrap_id, wrap_succ, wrap_pred, FX1, Int.lt_irrefl]
    rw [kcAc_tables_Cost]
    try simp (disch := first | omega | assumption | exact one_int _ _ | exact one_slice _ _ _ | exact one_ptr _ | exact one_bool _ | exact one_string _) only [RXA, RXB, Nat.reduceAdd, Nat.reduceLT, wrap_id, wrap_succ, wrap_pred, FX1]
    rw [← hr, okA, if_pos ha]
  · rintro fu i q h' n' hi ⟨hn, hk', rfl, ha⟩ next
    obtain ⟨b, off, cap, o, cs, hv, hg, hb, _, _, _, hat⟩ := (hy2.keep hn hk').some (by omega)
    cases hv
    have e1 : ((i : Nat) : Int) < ((K.length : Nat) : Int) := by omega
    have cx := hat i hi
    have g1' := (hk' n lt1).trans g1
    have lt2 : n < n' := by omega
    have bad : okAt xs L K i = false → (Value.tuple #[.int .i64 0, .int .i64 1]) = r := fun hb => by rw [← hr, okA, if_neg (by rw [okTo_bad hi hb]; exact Bool.false_ne_true)]
    rw [succA_tables_Cost]
    by_cases p1 : K.getD i 0 < 0
    · try simp (disch := first | omega | assumption | exact one_int _ _ | exact one_slice _ _ _ | exact one_ptr _ | exact one_bool _ | exact one_string _) only [RXA, RXB, Nat.reduceAdd, Nat.reduceLT, wrap_id, wrap_succ, wrap_pred, FX1, e1, hg, cx, p1]
      rw [kcAa_tables_Cost]
      try simp (disch := first | omega | assumption | exact one_int _ _ | exact one_slice _ _ _ | exact one_ptr _ | exact one_bool _ | exact one_string _) only [RXA, RXB, Nat.reduceAdd, Nat.reduceLT, wrap_id, wrap_succ, wrap_pred, FX1]
      exact bad (by unfold okAt; rw [decide_eq_false (Int.not_le.2 p1)]; rfl)
    by_cases p2 : ((L.length : Nat) : Int) ≤ K.getD i 0
    · try simp (disch := first | omega | assumption | exact one_int _ _ | exact one_slice _ _ _ | exact one_ptr _ | exact one_bool _ | exact one_string _) only [RXA, RXB, Nat.reduceAdd, Nat.reduceLT, wrap_id, wrap_succ, wrap_pred, FX1, e1, hg, cx, p1, g1', p2]
      rw [kcAa_tables_Cost]
      try simp (disch := first | omega | assumption | exact one_int _ _ | exact one_slice _ _ _ | exact one_ptr _ | exact one_bool _ | exact one_string _) only [RXA, RXB, Nat.reduceAdd, Nat.reduceLT, wrap_id, wrap_succ, wrap_pred, FX1]
      exact bad (by unfold okAt; rw [decide_eq_false (Int.not_lt.2 p2), Bool.false_and, Bool.and_false])
    obtain ⟨k, hkk⟩ : ∃ k : Nat, K.getD i 0 = (k : Int) := ⟨(K.getD i 0).toNat, by omega⟩
    have e3 : (k : Int) < ((L.length : Nat) : Int) := by omega
    have e4 : ¬ ((L.length : Nat) : Int) ≤ (k : Int) := by omega
    have e5 : ¬ ((k : Int) < 0) := by omega
    have la : lenAt L K i = L.getD k [] := by unfold lenAt; rw [hkk, Int.toNat_natCast]
    have lm : L.getD k [] ∈ L := by rw [List.getD_eq_getElem?_getD, List.getElem?_eq_getElem (by omega)]; exact List.getElem_mem (by omega)
    rw [hkk] at cx
    try simp (disch := first | omega | assumption | exact one_int _ _ | exact one_slice _ _ _ | exact one_ptr _ | exact one_bool _ | exact one_string _) only [RXA, RXB, Nat.reduceAdd, Nat.reduceLT, wrap_id, wrap_succ, wrap_pred, FX1, e1, hg, cx, e5, g1', e4]
    refine run_call okd (s_fGroup lf (d + 5) n' h' _ xs (hR2.keep hn hk') (by omega) i (by omega)) (by omega) (fun _ _ h => h.elim) fun v4 h4 n4 hn4 fr4 hq4 => ?_
    obtain ⟨w, rfl, hw⟩ := hq4
    have k4 : ∀ b, b < n + 1 → h4.get b = h3.get b := fun b hb => (fr4 b (by omega) id).trans (hk' b hb)
    have g14 := (k4 n lt1).trans g1
    obtain ⟨b2, off2, cap2, o2, cs2, hv2, hg2, hb2, hat2⟩ := (hx2.keep (show n + 1 ≤ n4 by omega) k4).at (by omega)
    cases hv2
    obtain ⟨q, hq, hrq⟩ := hat2 k (by omega)
    have lt4 : n < n4 := by omega
    try simp (disch := first | omega | assumption | exact one_int _ _ | exact one_slice _ _ _ | exact one_ptr _ | exact one_bool _ | exact one_string _) only [RXA, RXB, Nat.reduceAdd, Nat.reduceLT, wrap_id, wrap_succ, wrap_pred, FX1, ext0, ext1, g14, e3, hg2, hq]
    refine run_same (s_fCost lf (d + 2) n4 h4 hlf w q _ _ hw hrq (by rw [grp_len]; omega) (by have := hL.2 _ lm; omega)) (by omega) (fun _ _ h => h.elim) ?_
    have z0 : ((0 : Int) != 0) = false := rfl
    have z1 : ((1 : Int) != 0) = true := rfl
    by_cases ok : allIn 0 1099511627776 (L.getD k []) = true ∧ inB ((L.getD k []).length : Int) (grp xs i) = true
    · rw [if_pos ok]
      have oka : okAt xs L K i = true := by unfold okAt; rw [la, ok.1, ok.2, hkk, decide_eq_true (show (0 : Int) ≤ (k : Int) by omega), decide_eq_true e3]; rfl
      have ca : costAt xs L K i = costL (grp xs i) (L.getD k []) := by unfold costAt; rw [la]
      have b1 := costL_ge (l := grp xs i) (ls := L.getD k []) fun y hy => (allIn_iff.1 ok.1 y hy).1
      have b2 := costL_le (grp xs i) (L.getD k [])
      have b3 := capI_le (costTo xs L K i)
      have b4 := capI_ge (okTo_cost ha).1
      try simp (disch := first | omega | assumption | exact one_int _ _ | exact one_slice _ _ _ | exact one_ptr _ | exact one_bool _ | exact one_string _) only [RXA, RXB, Nat.reduceAdd, Nat.reduceLT, wrap_id, wrap_succ, wrap_pred, FX1, ext0, ext1, z0]
      refine next _ h4 n4 ⟨by omega, k4, ?_, by rw [okTo_next, ha, oka]; rfl⟩
      rw [costTo_next, ca, ← capI_cap b1]
      rfl
    · rw [if_neg ok]
      have oka : okAt xs L K i = false := by
        unfold okAt
        rw [la]
        cases q1 : allIn 0 1099511627776 (L.getD k []) with
        | false => simp
        | true =>
          cases q2 : inB ((L.getD k []).length : Int) (grp xs i) with
          | false => simp
          | true => exact absurd ⟨q1, q2⟩ ok
      try simp (disch := first | omega | assumption | exact one_int _ _ | exact one_slice _ _ _ | exact one_ptr _ | exact one_bool _ | exact one_string _) only [RXA, RXB, Nat.reduceAdd, Nat.reduceLT, wrap_id, wrap_succ, wrap_pred, FX1, ext0, ext1, z1]
      rw [kcAb_tables_Cost]
      try simp (disch := first | omega | assumption | exact one_int _ _ | exact one_slice _ _ _ | exact one_ptr _ | exact one_bool _ | exact one_string _) only [RXA, RXB, Nat.reduceAdd, Nat.reduceLT, wrap_id, wrap_succ, wrap_pred, FX1]
      exact bad oka
set_option maxHeartbeats 2000000 in
theorem law_TCosts (v u : Value) (xs : List Int) (L : List (List Int)) (K : List Int) (g : Gd h n) (hR : Row h n 3 .i64 v xs) (hu : Choi h n u L K) (hK0 : ∀ y ∈ K, -9223372036854775808 ≤ y ∧ y ≤ 9223372036854775807) (hd : 700 ≤ d) :
    Run (fun _ => False) n (evCall2 Tryd.prog gt lf d 3 #[v, u]) h n fun v' _ _ => v' = .bool true := by
  obtain ⟨d, rfl⟩ : ∃ e, d = e + 10 := ⟨d - 10, by omega⟩
  rw [sh_balerlaw12_TablesCosts]
  refine Run.inside_ ?_
  unfold b_balerlaw12_TablesCosts
  have hR0 := hR
  have hu0 := hu
  obtain ⟨a, c, rfl⟩ := hR.len
  obtain ⟨a2, c2, a3, c3, rfl, hx, hy⟩ := hu.agg
  refine run_box sz25 _ _ ?_
  obtain ⟨h2, hh2⟩ : ∃ h2, h.set n (some ⟨25, true, (Value.agg #[.slice a2 L.length c2, .slice a3 K.length c3]).cells.toList⟩) = h2 := ⟨_, rfl⟩
  have g1 : h2.get n = some ⟨25, true, [.slice a2 L.length c2, .slice a3 K.length c3]⟩ := by rw [← hh2, get_eq]; rfl
  have hk : ∀ b, b < n → h2.get b = h.get b := fun b hb => by rw [← hh2, get_ne _ _ (by omega)]
  rw [hh2]
  have hR2 := hR0.keep (Nat.le_succ n) hk
  have hx2 := hx.keep (Nat.le_succ n) hk
  have hy2 := hy.keep (Nat.le_succ n) hk
  have hu2 := hu0.keep (Nat.le_succ n) hk
  have gd2 := g.keep (Nat.le_succ n) hk
  have lt1 : n < n + 1 := Nat.lt_succ_self n
  have three := run_three (lf := lf) (d := d + 8) (W := fun _ => False) (Nat.le_succ n) gd2
  by_cases c1 : 160 < xs.length
  · have e1 : (160 : Int) < ((xs.length : Nat) : Int) := by omega
    try simp (disch := first | omega | assumption | exact one_int _ _ | exact one_slice _ _ _ | exact one_ptr _ | exact one_bool _ | exact one_string _) only [RXA, RXB, Nat.reduceAdd, Nat.reduceLT, wrap_id, wrap_succ, wrap_pred, FX1, e1]
    exact three
  have e1 : ¬ (160 : Int) < ((xs.length : Nat) : Int) := by omega
  by_cases c2' : 8 < L.length
  · have e2 : (8 : Int) < ((L.length : Nat) : Int) := by omega
    try simp (disch := first | omega | assumption | exact one_int _ _ | exact one_slice _ _ _ | exact one_ptr _ | exact one_bool _ | exact one_string _) only [RXA, RXB, Nat.reduceAdd, Nat.reduceLT, wrap_id, wrap_succ, wrap_pred, FX1, e1, g1, e2]
    exact three
  have e2 : ¬ (8 : Int) < ((L.length : Nat) : Int) := by omega
  by_cases c3' : 20 < K.length
  · have e3 : (20 : Int) < ((K.length : Nat) : Int) := by omega
    try simp (disch := first | omega | assumption | exact one_int _ _ | exact one_slice _ _ _ | exact one_ptr _ | exact one_bool _ | exact one_string _) only [RXA, RXB, Nat.reduceAdd, Nat.reduceLT, wrap_id, wrap_succ, wrap_pred, FX1, e1, g1, e2, e3]
    exact three
  have e3 : ¬ (20 : Int) < ((K.length : Nat) : Int) := by omega
  try simp (disch := first | omega | assumption | exact one_int _ _ | exact one_slice _ _ _ | exact one_ptr _ | exact one_bool _ | exact one_string _) only [RXA, RXB, Nat.reduceAdd, Nat.reduceLT, wrap_id, wrap_succ, wrap_pred, FX1, e1, g1, e2, e3]
  refine run_for L.length (fun fu i (_ : Unit) => lpA_balerlaw12_TablesCosts lf (d + 9) fu (kcA_balerlaw12_TablesCosts lf (d + 9)) (.slice a xs.length c) (.agg #[.slice a2 L.length c2, .slice a3 K.length c3]) (.pointer (some ⟨n, 0, none⟩)) (.bool false) (.bool false) (.slice a2 L.length c2) (.int .i64 (L.length : Nat)) (.int .i64 (i : Nat)))
    (fun i _ h' n' => (h' = h2 ∧ n' = n + 1) ∧ ∀ j, j < i → (L.getD j []).length ≤ 40) ?_ ?_ lf 0 () _ _ (Nat.zero_le _) (by omega) ⟨⟨rfl, rfl⟩, fun j hj => absurd hj (Nat.not_lt_zero j)⟩
  rotate_left
  · rintro fu i _ h' n' hi ⟨⟨rfl, rfl⟩, hl⟩ next
    obtain ⟨b2, off2, cap2, o2, cs2, hv2, hg2, hb2, hat2⟩ := hx2.at (by omega)
    cases hv2
    obtain ⟨q, hq, hrq⟩ := hat2 i hi
    obtain ⟨aq, cq, hql⟩ := hrq.len
    rw [hql] at hq
    have e5 : ((i : Nat) : Int) < ((L.length : Nat) : Int) := by omega
    rw [succA_balerlaw12_TablesCosts]
    by_cases big : 40 < (L.getD i []).length
    · have e6 : (40 : Int) < (((L.getD i []).length : Nat) : Int) := by omega
      try simp (disch := first | omega | assumption | exact one_int _ _ | exact one_slice _ _ _ | exact one_ptr _ | exact one_bool _ | exact one_string _) only [RXA, RXB, Nat.reduceAdd, Nat.reduceLT, wrap_id, wrap_succ, wrap_pred, FX1, e5, hg2, hq, e6]
      refine run_same (k_three lf (d + 8) _ h' gd2) (by omega) (fun _ _ h => h.elim) ?_
      rw [kcAa_balerlaw12_TablesCosts]
      try simp (disch := first | omega | assumption | exact one_int _ _ | exact one_slice _ _ _ | exact one_ptr _ | exact one_bool _ | exact one_string _) only [RXA, RXB, Nat.reduceAdd, Nat.reduceLT, wrap_id, wrap_succ, wrap_pred, FX1]
    · have e6 : ¬ (40 : Int) < (((L.getD i []).length : Nat) : Int) := by omega
      try simp (disch := first | omega | assumption | exact one_int _ _ | exact one_slice _ _ _ | exact one_ptr _ | exact one_bool _ | exact one_string _) only [RXA, RXB, Nat.reduceAdd, Nat.reduceLT, wrap_id, wrap_succ, wrap_pred, FX1, e5, hg2, hq, e6]
      refine next () _ _ ⟨⟨rfl, rfl⟩, fun j hj => ?_⟩
      by_cases e : j = i
      · subst e; omega
      · exact hl j (by omega)
  rintro fu _ h' n' ⟨⟨rfl, rfl⟩, hl⟩
  have hLm : ∀ l ∈ L, l.length ≤ 40 := fun l hm => by
    obtain ⟨j, hj, rfl⟩ := List.mem_iff_getElem.1 hm
    have := hl j hj
    rw [List.getD_eq_getElem?_getD, List.getElem?_eq_getElem hj] at this
    exact this
  rw [succA_balerlaw12_TablesCosts]
  try simp (disch := first | omega | assumption | exact one_int _ _ | exact one_slice _ _ _ | exact one_ptr _ | exact one_bool _ | exact one_string _) only [RXA, RXB, Nat.reduceAdd, Nat.reduceLT, wrap_id, wrap_succ, wrap_pred, FX1, Int.lt_irrefl]
  rw [kcAb_balerlaw12_TablesCosts]
  refine run_lda aga25 sz25 _ _ _ g1 lt1 (by simp) ?_
  refine run_call okd (s_TCost lf d (n + 1) h' hlf _ _ xs L K hR2 hu2 (by omega) ⟨by omega, fun l hl' => by have := hLm l hl'; omega⟩ (by omega)) (by omega) (fun _ _ h => h.elim) fun v4 h4 n4 hn4 fr4 hq4 => ?_
  have hR4 := hR2.keep hn4 fun b hb => fr4 b hb id
  obtain ⟨cst, err, hv4, hce⟩ : ∃ cst err : Int, v4 = .tuple #[.int .i64 cst, .int .i64 err] ∧ ((okAll xs L K = true ∧ cst = capI (costTo xs L K K.length) ∧ err = 0) ∨ (okAll xs L K = false ∧ cst = 0 ∧ err = 1)) := by
    cases hok : okAll xs L K with
    | true => rw [if_pos hok] at hq4; exact ⟨_, _, hq4, .inl ⟨rfl, rfl, rfl⟩⟩
    | false => rw [if_neg (by rw [hok]; exact Bool.false_ne_true)] at hq4; exact ⟨_, _, hq4, .inr ⟨rfl, rfl, rfl⟩⟩
  subst hv4
  try simp (disch := first | omega | assumption | exact one_int _ _ | exact one_slice _ _ _ | exact one_ptr _ | exact one_bool _ | exact one_string _) only [RXA, RXB, Nat.reduceAdd, Nat.reduceLT, wrap_id, wrap_succ, wrap_pred, FX1, ext0, ext1]
  refine run_call okd (r_Groups lf (d + 8) n4 h4 hlf _ xs hR4 (by omega)) (by omega) (fun _ _ h => h.elim) fun vg h5 n5 hn5 fr5 hgr => ?_
  have k5 : ∀ b, b < n + 1 → h5.get b = h'.get b := fun b hb => (fr5 b (by omega) id).trans (fr4 b hb id)
  have g15 := (k5 n lt1).trans g1
  have hx5 := hx2.keep (show n + 1 ≤ n5 by omega) k5
  have hy5 := hy2.keep (show n + 1 ≤ n5 by omega) k5
  have gd5 := gd2.keep (show n + 1 ≤ n5 by omega) k5
  have hgr0 := hgr
  obtain ⟨ag, cg, rfl⟩ := hgr.len
  rw [groupsL_len] at hgr0 ⊢
  have lt5 : n < n5 := by omega
  have gN : grpN xs.length ≤ 4 := by unfold grpN; omega
  have okb : ((((grpN xs.length : Nat) : Int)) == ((K.length : Nat) : Int)) = decide (K.length = grpN xs.length) := by
    by_cases e : K.length = grpN xs.length
    · rw [decide_eq_true e, e]; simp
    · rw [decide_eq_false e]; exact beq_eq_false_iff_ne.2 fun q => e (by omega)
  try simp (disch := first | omega | assumption | exact one_int _ _ | exact one_slice _ _ _ | exact one_ptr _ | exact one_bool _ | exact one_string _) only [RXA, RXB, Nat.reduceAdd, Nat.reduceLT, wrap_id, wrap_succ, wrap_pred, FX1, g15, okb]
  refine run_for K.length (fun fu i (q : Bool × Int) => lpB_balerlaw12_TablesCosts lf (d + 9) fu (kcB_balerlaw12_TablesCosts lf (d + 9)) (.slice a xs.length c) (.agg #[.slice a2 L.length c2, .slice a3 K.length c3]) (.pointer (some ⟨n, 0, none⟩)) (.bool false) (.int .i64 cst) (.int .i64 err) (.slice ag (grpN xs.length) cg) (.bool q.1) (.int .i64 q.2) (.bool false) (.slice a2 L.length c2) _ _ _ (.slice a3 K.length c3) (.int .i64 (K.length : Nat)) (.int .i64 (i : Nat)))
    (fun i q h6 n6 => (h6 = h5 ∧ n6 = n5) ∧ q.1 = (decide (K.length = grpN xs.length) && okTo xs L K i) ∧ (q.1 = true → q.2 = costTo xs L K i)) ?_ ?_ lf 0 (decide (K.length = grpN xs.length), 0) _ _ (Nat.zero_le _) (by omega) ⟨⟨rfl, rfl⟩, by simp [okTo], fun _ => rfl⟩
  · rintro fu ⟨ok, q⟩ h6 n6 ⟨⟨rfl, rfl⟩, hok, hq⟩
    simp only at hok hq
    have z1 : ((1 : Int) == 1) = true := rfl
    have z0 : ((0 : Int) == 0) = true := rfl
    rw [succB_balerlaw12_TablesCosts]
    try simp (disch := first | omega | assumption | exact one_int _ _ | exact one_slice _ _ _ | exact one_ptr _ | exact one_bool _ | exact one_string _) only [RXA, RXB, Nat.reduceAdd, Nat.reduceLT, wrap_id, wrap_succ, wrap_pred, FX1, Int.lt_irrefl]
    rw [kcBa_balerlaw12_TablesCosts]
    rcases hce with ⟨oa, rfl, rfl⟩ | ⟨oa, rfl, rfl⟩
    · have : ok = true := by rw [hok]; exact oa
      subst this
      have hq' := hq rfl
      subst hq'
      by_cases big : 1099511627776 < costTo xs L K K.length
      · have ce : capI (costTo xs L K K.length) = 1099511627776 := by unfold capI; rw [if_pos big]
        have z3 : ((1099511627776 : Int) == 1099511627776) = true := rfl
        rw [ce]
        try simp (disch := first | omega | assumption | exact one_int _ _ | exact one_slice _ _ _ | exact one_ptr _ | exact one_bool _ | exact one_string _) only [RXA, RXB, Nat.reduceAdd, Nat.reduceLT, wrap_id, wrap_succ, wrap_pred, FX1, Bool.not_true, big, z0, z3]
        exact run_three (by omega) gd5
      · have ce : capI (costTo xs L K K.length) = costTo xs L K K.length := by unfold capI; rw [if_neg big]
        have z3 : (costTo xs L K K.length == costTo xs L K K.length) = true := by simp
        rw [ce]
        try simp (disch := first | omega | assumption | exact one_int _ _ | exact one_slice _ _ _ | exact one_ptr _ | exact one_bool _ | exact one_string _) only [RXA, RXB, Nat.reduceAdd, Nat.reduceLT, wrap_id, wrap_succ, wrap_pred, FX1, Bool.not_true, big, z0, z3]
        exact run_three (by omega) gd5
    · have : ok = false := by rw [hok]; exact oa
      subst this
      try simp (disch := first | omega | assumption | exact one_int _ _ | exact one_slice _ _ _ | exact one_ptr _ | exact one_bool _ | exact one_string _) only [RXA, RXB, Nat.reduceAdd, Nat.reduceLT, wrap_id, wrap_succ, wrap_pred, FX1, Bool.not_false, z1, z0]
      exact run_three (by omega) gd5
  · rintro fu i ⟨ok, q⟩ h6 n6 hi ⟨⟨rfl, rfl⟩, hok, hq⟩ next
    simp only at hok hq
    obtain ⟨b, off, cap, o, cs, hv, hg, hb, _, _, _, hat⟩ := hy5.some (by omega)
    cases hv
    have e5 : ((i : Nat) : Int) < ((K.length : Nat) : Int) := by omega
    have cx := hat i hi
    have kb := hK0 _ (gd_mem hi)
    rw [succB_balerlaw12_TablesCosts]
    cases ok with
    | false =>
      try simp (disch := first | omega | assumption | exact one_int _ _ | exact one_slice _ _ _ | exact one_ptr _ | exact one_bool _ | exact one_string _) only [RXA, RXB, Nat.reduceAdd, Nat.reduceLT, wrap_id, wrap_succ, wrap_pred, FX1, e5, hg, cx]
      refine next (false, q) _ _ ⟨⟨rfl, rfl⟩, ?_, fun q => by cases q⟩
      rw [okTo_next, ← Bool.and_assoc, ← hok]
      rfl
    | true =>
      have hq := hq rfl
      subst hq
      have oi : okTo xs L K i = true ∧ K.length = grpN xs.length := by
        have := hok.symm
        rw [Bool.and_eq_true, decide_eq_true_eq] at this
        exact ⟨this.2, this.1⟩
      have stop : okAt xs L K i = false → ((false : Bool) = (decide (K.length = grpN xs.length) && okTo xs L K (i + 1))) := fun hb => by rw [okTo_next, hb, Bool.and_false, Bool.and_false]
      by_cases p1 : 0 ≤ K.getD i 0
      rotate_left
      · try simp (disch := first | omega | assumption | exact one_int _ _ | exact one_slice _ _ _ | exact one_ptr _ | exact one_bool _ | exact one_string _) only [RXA, RXB, Nat.reduceAdd, Nat.reduceLT, wrap_id, wrap_succ, wrap_pred, FX1, e5, hg, cx, p1]
        exact next (false, costTo xs L K i) _ _ ⟨⟨rfl, rfl⟩, stop (by unfold okAt; rw [decide_eq_false p1]; rfl), fun q => by cases q⟩
      by_cases p2 : K.getD i 0 < ((L.length : Nat) : Int)
      rotate_left
      · try simp (disch := first | omega | assumption | exact one_int _ _ | exact one_slice _ _ _ | exact one_ptr _ | exact one_bool _ | exact one_string _) only [RXA, RXB, Nat.reduceAdd, Nat.reduceLT, wrap_id, wrap_succ, wrap_pred, FX1, e5, hg, cx, p1, g15, p2]
        exact next (false, costTo xs L K i) _ _ ⟨⟨rfl, rfl⟩, stop (by unfold okAt; rw [decide_eq_false p2, Bool.false_and, Bool.and_false]), fun q => by cases q⟩
      obtain ⟨k, hkk⟩ : ∃ k : Nat, K.getD i 0 = (k : Int) := ⟨(K.getD i 0).toNat, by omega⟩
      have e6 : (k : Int) < ((L.length : Nat) : Int) := by omega
      have e7 : (0 : Int) ≤ (k : Int) := by omega
      have la : lenAt L K i = L.getD k [] := by unfold lenAt; rw [hkk, Int.toNat_natCast]
      have lm : L.getD k [] ∈ L := by rw [List.getD_eq_getElem?_getD, List.getElem?_eq_getElem (by omega)]; exact List.getElem_mem (by omega)
      have ll := hLm _ lm
      rw [hkk] at cx
      have hig : i < (groupsL xs).length := by rw [groupsL_len]; omega
      have hgr1 : RR h6 n6 22 3 (.slice ag (groupsL xs).length cg) (groupsL xs) := by rw [groupsL_len]; exact hgr0
      obtain ⟨b3, off3, cap3, o3, cs3, hv3, hg3, hb3, hat3⟩ := hgr1.at (by omega)
      rw [groupsL_len] at hv3
      cases hv3
      obtain ⟨w, hw, hrw⟩ := hat3 i hig
      rw [groupsL_at (by omega)] at hrw
      have e8 : ((i : Nat) : Int) < ((grpN xs.length : Nat) : Int) := by omega
      obtain ⟨b2, off2, cap2, o2, cs2, hv2, hg2, hb2, hat2⟩ := hx5.at (by omega)
      cases hv2
      obtain ⟨p, hp, hrp⟩ := hat2 k (by omega)
      obtain ⟨ap, cp, hpl⟩ := hrp.len
      rw [hpl] at hp hrp
      have gll : (grp xs i).length ≤ 50 := by rw [grp_len]; omega
      try simp (disch := first | omega | assumption | exact one_int _ _ | exact one_slice _ _ _ | exact one_ptr _ | exact one_bool _ | exact one_string _) only [RXA, RXB, Nat.reduceAdd, Nat.reduceLT, wrap_id, wrap_succ, wrap_pred, FX1, e5, hg, cx, e7, g15, e6, e8, hg3, hw, hg2, hp]
      refine run_same (r_Of lf (d + 8) _ h6 hlf w _ hrw (by omega) _) (by omega) (fun _ _ h => h.elim) ?_
      cases q2 : inB ((L.getD k []).length : Int) (grp xs i) with
      | false =>
        try simp (disch := first | omega | assumption | exact one_int _ _ | exact one_slice _ _ _ | exact one_ptr _ | exact one_bool _ | exact one_string _) only [RXA, RXB, Nat.reduceAdd, Nat.reduceLT, wrap_id, wrap_succ, wrap_pred, FX1]
        exact next (false, costTo xs L K i) _ _ ⟨⟨rfl, rfl⟩, stop (by unfold okAt; rw [la, q2, Bool.false_and, Bool.and_false, Bool.and_false]), fun q => by cases q⟩
      | true =>
        try simp (disch := first | omega | assumption | exact one_int _ _ | exact one_slice _ _ _ | exact one_ptr _ | exact one_bool _ | exact one_string _) only [RXA, RXB, Nat.reduceAdd, Nat.reduceLT, wrap_id, wrap_succ, wrap_pred, FX1, g15, e6, hg2, hp]
        refine run_same (r_May lf (d + 8) _ h6 hlf _ _ hrp (by omega)) (by omega) (fun _ _ h => h.elim) ?_
        cases q1 : allIn 0 1099511627776 (L.getD k []) with
        | false =>
          try simp (disch := first | omega | assumption | exact one_int _ _ | exact one_slice _ _ _ | exact one_ptr _ | exact one_bool _ | exact one_string _) only [RXA, RXB, Nat.reduceAdd, Nat.reduceLT, wrap_id, wrap_succ, wrap_pred, FX1]
          exact next (false, costTo xs L K i) _ _ ⟨⟨rfl, rfl⟩, stop (by unfold okAt; rw [la, q1, Bool.and_false, Bool.and_false, Bool.and_false]), fun q => by cases q⟩
        | true =>
          have oka : okAt xs L K i = true := by unfold okAt; rw [la, q1, q2, hkk, decide_eq_true e7, decide_eq_true e6]; rfl
          have ca : costAt xs L K i = costL (grp xs i) (L.getD k []) := by unfold costAt; rw [la]
          have b1 := costL_ge (l := grp xs i) (ls := L.getD k []) fun y hy => (allIn_iff.1 q1 y hy).1
          have b2' := costL_le (grp xs i) (L.getD k [])
          have b3' := okTo_cost oi.1
          try simp (disch := first | omega | assumption | exact one_int _ _ | exact one_slice _ _ _ | exact one_ptr _ | exact one_bool _ | exact one_string _) only [RXA, RXB, Nat.reduceAdd, Nat.reduceLT, wrap_id, wrap_succ, wrap_pred, FX1, e8, hg3, hw, g15, e6, hg2, hp]
          refine run_same (r_Cost lf (d + 7) _ h6 hlf w _ _ _ hrw hrp (by omega) (by omega) (allIn_iff.1 q1) q2) (by omega) (fun _ _ h => h.elim) ?_
          try simp (disch := first | omega | assumption | exact one_int _ _ | exact one_slice _ _ _ | exact one_ptr _ | exact one_bool _ | exact one_string _) only [RXA, RXB, Nat.reduceAdd, Nat.reduceLT, wrap_id, wrap_succ, wrap_pred, FX1]
          refine next (true, costTo xs L K i + costL (grp xs i) (L.getD k [])) _ _ ⟨⟨rfl, rfl⟩, ?_, fun _ => ?_⟩
          · rw [okTo_next, oi.1, oka, decide_eq_true oi.2]; rfl
          · rw [costTo_next, ca]
end
theorem call_TCosts {w : World} (hw : Ev.GlobAt w) {vs : List Value} (ha : All2 (ArgR Tryd.prog w) [22, 25] vs) : Calls Tryd.prog 3 vs.toArray w fun e w' => e = .returned (.bool true) ∧ Below w.heap.size w w' :=
  the_law' (lf := 3000000) (d := 700) hw ha fun n h vs0 g q => by
    obtain ⟨a, b, rfl, h1, h2⟩ := Ev.all2_2 q
    obtain ⟨xs, hR, hl, _⟩ := a_row h1
    obtain ⟨L, K, hu, _, _, hK, _⟩ := a_cho h2
    exact law_TCosts 3000000 700 n h (by decide) a b xs L K g hR hu hK (by decide)
end Go.Proofs.YtdagfcflbphoiaaDoor

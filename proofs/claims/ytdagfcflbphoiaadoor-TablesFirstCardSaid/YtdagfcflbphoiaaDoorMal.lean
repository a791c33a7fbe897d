/- The merging of weights as a plain thing: which two are taken at each step, and what is left. No program in sight. -/
import Derived.Test.YtdagfcflbphoiaaDoorMak
import Derived.Test.YtdagfcflbphoiaaDoorRows
import Derived.Test.YtdagfcflbphoiaaDoorMag
import Derived.Test.YtdagfcflbphoiaaDoorMah
import Derived.Test.YtdagfcflbphoiaaDoorMac
import Derived.MakeChecks
import Derived.OpenShut
import Derived.ChangeArms
import Derived.Test.YtdagfcflbphoiaaDoorMae
namespace Go.Proofs.YtdagfcflbphoiaaDoor
set_option linter.unusedVariables false
set_option linter.unusedSimpArgs false
open Hu

/-- what waits behind k joins -/
def wt (n k : Nat) (t : HT) : List Nat := t.leaves ++ List.range' t.joined (n + k - t.joined)
structure Srt (n k : Nat) (last : Int) (t : HT) : Prop where
  ls : t.leaves.Pairwise (RI (wAt t))
  js : ∀ i j, n ≤ i → i ≤ j → j < n + k → wAt t i ≤ wAt t j
  mx : ∀ i, n ≤ i → i < n + k → wAt t i ≤ 2 * last
  lo : ∀ x ∈ wt n k t, last ≤ wAt t x
  l0 : 0 ≤ last

theorem take_w (t : HT) : wAt (taken t) = wAt t := by
  unfold taken
  split <;> rfl
theorem take_min {n k : Nat} {P : List Nat} {S last : Int} {t : HT} (h : OkH n k P S t) (s : Srt n k last t) (h1 : 1 ≤ t.leaves.length + (n + k - t.joined)) :
    (wt n k t).Perm (Hu.leastOf t :: wt n k (taken t)) ∧ (∀ x ∈ wt n k (taken t), RI (wAt t) (Hu.leastOf t) x) ∧ Srt n k (wAt t (Hu.leastOf t)) (taken t) ∧ last ≤ wAt t (Hu.leastOf t) := by
  have key : (wt n k t).Perm (Hu.leastOf t :: wt n k (taken t)) ∧ (∀ x ∈ wt n k (taken t), RI (wAt t) (Hu.leastOf t) x) ∧ (taken t).leaves.Pairwise (RI (wAt t)) := by
    cases hl : isLeaf t with
    | true =>
      obtain ⟨r, e1, e2, e3⟩ := isLeaf_true h h1 hl
      have hls := s.ls
      generalize Hu.leastOf t = a at *
      rw [e1, List.pairwise_cons] at hls
      rw [e2]
      refine ⟨by unfold wt; rw [e1]; exact .refl _, fun x hx => ?_, hls.2⟩
      unfold wt at hx
      rcases List.mem_append.1 hx with h2 | h2
      · exact hls.1 x h2
      · have h2 := List.mem_range'_1.1 h2
        have h2 : t.joined ≤ x ∧ x < t.joined + (n + k - t.joined) := h2
        have hjl := h.jl
        unfold isLeaf at hl
        rw [Bool.or_eq_true, beq_iff_eq, Bool.and_eq_true, decide_eq_true_iff, decide_eq_true_iff] at hl
        rcases hl with hl | ⟨_, hl⟩
        · have := h.wl; omega
        · have e4 : t.leaves.getD 0 0 = a := by rw [e1]; rfl
          rw [e4] at hl
          have := s.js t.joined x hjl h2.1 (by omega)
          unfold RI
          omega
    | false =>
      obtain ⟨e1, e2, e3⟩ := isLeaf_false h hl
      rw [e3, e1]
      have hjl := h.jl
      refine ⟨?_, fun x hx => ?_, s.ls⟩
      · unfold wt
        obtain ⟨d, hd⟩ : ∃ d, n + k - t.joined = d + 1 := ⟨n + k - t.joined - 1, by omega⟩
        rw [hd, List.range'_succ]
        show (t.leaves ++ t.joined :: List.range' (t.joined + 1) d).Perm (t.joined :: (t.leaves ++ List.range' (t.joined + 1) (n + k - (t.joined + 1))))
        rw [show n + k - (t.joined + 1) = d by omega]
        exact List.perm_middle
      · unfold wt at hx
        rcases List.mem_append.1 hx with h2 | h2
        · have h2 : x ∈ t.leaves := h2
          have h0 : 0 < t.leaves.length := List.length_pos_of_mem h2
          unfold isLeaf at hl
          rw [Bool.or_eq_false_iff, Bool.and_eq_false_iff] at hl
          have hlt : ¬ wAt t (t.leaves.getD 0 0) ≤ wAt t t.joined := by
            rcases hl.2 with q | q
            · simp only [h0, decide_true] at q; cases q
            · exact of_decide_eq_false q
          obtain ⟨y, r, e⟩ := List.exists_cons_of_length_pos h0
          have hls := s.ls
          rw [e] at h2 hls hlt
          rw [List.pairwise_cons] at hls
          have hlt : ¬ wAt t y ≤ wAt t t.joined := hlt
          rcases List.mem_cons.1 h2 with q | q
          · subst q; unfold RI; omega
          · have := hls.1 x q
            unfold RI at this ⊢
            omega
        · have h2 := List.mem_range'_1.1 h2
          have h2 : t.joined + 1 ≤ x ∧ x < t.joined + 1 + (n + k - (t.joined + 1)) := h2
          have := s.js t.joined x hjl (by omega) (by omega)
          unfold RI
          omega
  obtain ⟨k1, k2, k3⟩ := key
  have hlo : last ≤ wAt t (Hu.leastOf t) := s.lo _ (k1.mem_iff.2 (by simp))
  refine ⟨k1, k2, ⟨by rw [take_w]; exact k3, by rw [take_w]; exact s.js, fun i h2 h3 => by rw [take_w]; have := s.mx i h2 h3; omega, fun x hx => ?_, by have := s.l0; omega⟩, hlo⟩
  rw [take_w]
  have := k2 x hx
  unfold RI at this
  omega

theorem join_w {n k : Nat} {P : List Nat} {S : Int} {t : HT} (h : OkH n k P S t) (a b : Nat) : (∀ i, i < n + k → wAt (joinH t a b) i = wAt t i) ∧ wAt (joinH t a b) (n + k) = wAt t a + wAt t b := by
  refine ⟨fun i hi => getD_app_left _ _ _ (by rw [h.wl]; exact hi), ?_⟩
  unfold wAt joinH
  rw [List.getD_eq_getElem?_getD, List.getElem?_append_right (by rw [h.wl]; exact Nat.le_refl _), h.wl, Nat.sub_self]
  rfl
theorem wt_lt {n k : Nat} {P : List Nat} {S : Int} {t : HT} (h : OkH n k P S t) : ∀ x ∈ wt n k t, x < n + k := fun x hx => by
  unfold wt at hx
  rcases List.mem_append.1 hx with h2 | h2
  · have := h.leaf x h2; omega
  · have := List.mem_range'_1.1 h2; have := h.jh; omega

/-- a step: what is taken, what is left -/
structure Step (n k : Nat) (a b : Nat) (r : List Nat) (t t' : HT) : Prop where
  perm : (wt n k t).Perm (a :: b :: r)
  next : (wt n (k + 1) t').Perm ((n + k) :: r)
  old : ∀ i, i < n + k → wAt t' i = wAt t i
  new : wAt t' (n + k) = wAt t a + wAt t b
  mA : ∀ x ∈ b :: r, RI (wAt t) a x
  mB : ∀ x ∈ r, RI (wAt t) b x
  ia : t'.into.getD a 0 = ((n + k : Nat) : Int)
  ib : t'.into.getD b 0 = ((n + k : Nat) : Int)
  io : ∀ i, i < n + k → i ∉ wt n k t → t'.into.getD i 0 = t.into.getD i 0
theorem step_all {n k : Nat} {S last : Int} {t : HT} (h : OkH n k [] S t) (s : Srt n k last t) (hk : k + 2 ≤ n) : ∃ last', Srt n (k + 1) last' (stepH t) ∧ Step n k (Hu.leastOf t) (Hu.leastOf (taken t)) (wt n k (taken (taken t))) t (stepH t) := by
  obtain ⟨h1, a1, h2, a2, h3, _⟩ := step_ok h hk
  have hl := h.left
  have hl1 := h1.left
  simp only [List.length_cons, List.length_nil] at hl hl1
  obtain ⟨p1, m1, s1, q1⟩ := take_min h s (by omega)
  obtain ⟨p2, m2, s2, q2⟩ := take_min h1 s1 (by omega)
  rw [take_w] at m2 s2 q2
  have w2 : wAt (taken (taken t)) = wAt t := by rw [take_w, take_w]
  unfold stepH at h3 ⊢
  generalize Hu.leastOf t = a at *
  generalize Hu.leastOf (taken t) = b at *
  obtain ⟨jo, jn⟩ := join_w h2 a b
  rw [w2] at jo jn
  have hjh := h2.jh
  have hjl := h2.jl
  have nx : wt n (k + 1) (joinH (taken (taken t)) a b) = wt n k (taken (taken t)) ++ [n + k] := by
    unfold wt
    show (taken (taken t)).leaves ++ List.range' (taken (taken t)).joined (n + (k + 1) - (taken (taken t)).joined) = _
    rw [show n + (k + 1) - (taken (taken t)).joined = (n + k - (taken (taken t)).joined) + 1 by omega, List.range'_concat, ← List.append_assoc]
    rw [show (taken (taken t)).joined + 1 * (n + k - (taken (taken t)).joined) = n + k by omega]
  have hb1 : b ∈ wt n k (taken t) := p2.mem_iff.2 (by simp)
  have hpos := fun i hi => (h.pos i hi).1
  have pa := hpos a a1
  have hl0 := s.l0
  refine ⟨wAt t b, ⟨?_, fun i j hi hij hj => ?_, fun i hi hj => ?_, fun x hx => ?_, by omega⟩, ⟨p1.trans (p2.cons a), by rw [nx]; exact List.perm_append_singleton _ _, jo, jn, fun x hx => m1 x (p2.mem_iff.2 hx), m2, ?_, ?_, fun i hi hn => ?_⟩⟩
  · have hp := s2.ls
    rw [w2] at hp
    refine hp.imp_of_mem (S := RI (wAt (joinH (taken (taken t)) a b))) fun {x y} hx hy hr => ?_
    have := h2.leaf x hx
    have := h2.leaf y hy
    unfold RI at hr ⊢
    rw [jo x (by omega), jo y (by omega)]
    exact hr
  · by_cases e : j < n + k
    · rw [jo i (by omega), jo j e]
      exact s.js i j hi hij e
    · obtain rfl : j = n + k := by omega
      by_cases e2 : i < n + k
      · rw [jo i e2, jn]
        have := s.mx i hi e2
        omega
      · obtain rfl : i = n + k := by omega
        omega
  · by_cases e : i < n + k
    · rw [jo i e]
      have := s.mx i hi e
      omega
    · obtain rfl : i = n + k := by omega
      rw [jn]
      omega
  · rw [nx] at hx
    rcases List.mem_append.1 hx with q | q
    · rw [jo x (wt_lt h2 x q)]
      have := m2 x q
      unfold RI at this
      omega
    · obtain rfl : x = n + k := by simpa using q
      rw [jn]
      omega
  all_goals
    have e1 : ∀ i, i < n + k → (joinH (taken (taken t)) a b).into.getD i 0 = if i = b then ((n + k : Nat) : Int) else if i = a then ((n + k : Nat) : Int) else t.into.getD i 0 := fun i hi => by
      have il : (taken (taken t)).into.length = n + k := h2.il
      have ti : (taken (taken t)).into = t.into := by unfold taken; split <;> split <;> rfl
      unfold joinH
      simp only
      rw [getD_app_left _ _ _ (by simp [il]; exact hi), getD_setI, getD_setI, h2.wl, ti]
      rw [ti] at il
      simp only [List.length_set, il]
      by_cases eb : i = b
      · subst eb; simp [hi]
      · by_cases ea : i = a
        · subst ea; simp [hi, eb, Ne.symm eb]
        · simp [ea, eb, Ne.symm ea, Ne.symm eb]
  · rw [e1 a a1]; split <;> simp
  · rw [e1 b a2, if_pos rfl]
  · have hb : b ∈ wt n k t := p1.mem_iff.2 (by simp [hb1])
    have ha : a ∈ wt n k t := p1.mem_iff.2 (by simp)
    rw [e1 i hi, if_neg (fun e => hn (by rw [e]; exact hb)), if_neg (fun e => hn (by rw [e]; exact ha))]

theorem run_all {ws : List Int} {D : List Nat} (hN : 2 ≤ ws.length) (hp : D.Perm (List.range ws.length)) (hs : D.Pairwise (RI (keyW ws))) (hw : ∀ x ∈ ws, 0 ≤ x) : ∀ k, k + 1 ≤ ws.length → OkH ws.length k [] (sumI ws) (runH k (Start ws D)) ∧ ∃ last, Srt ws.length k last (runH k (Start ws D)) := by
  intro k
  induction k with
  | zero =>
    intro _
    have h0 := start_ok hp hw rfl
    refine ⟨h0, 0, hs, fun i j h1 h2 h3 => by omega, fun i h1 h2 => by omega, fun x hx => (h0.pos x (wt_lt h0 x hx)).1, Int.le_refl _⟩
  | succ k ih =>
    intro hk
    obtain ⟨h, last, s⟩ := ih (by omega)
    rw [run_succ]
    obtain ⟨last', s', _⟩ := step_all h s hk
    exact ⟨(step_ok h hk).2.2.2.2.1, last', s'⟩
theorem run_step {ws : List Int} {D : List Nat} (hN : 2 ≤ ws.length) (hp : D.Perm (List.range ws.length)) (hs : D.Pairwise (RI (keyW ws))) (hw : ∀ x ∈ ws, 0 ≤ x) (k : Nat) (hk : k + 2 ≤ ws.length) :
    Step ws.length k (Hu.leastOf (runH k (Start ws D))) (Hu.leastOf (taken (runH k (Start ws D)))) (wt ws.length k (taken (taken (runH k (Start ws D))))) (runH k (Start ws D)) (runH (k + 1) (Start ws D)) := by
  obtain ⟨h, last, s⟩ := run_all hN hp hs hw k (by omega)
  obtain ⟨last', _, r⟩ := step_all h s hk
  rw [run_succ]
  exact r

/-- the merging of N weights: w: the weights of all trees; I: into which one each is joined; A, B: the two that are taken at each step; X: what waits; R: what is left -/
structure Merge (N : Nat) (w : Nat → Int) (I : Nat → Nat) (A B : Nat → Nat) (X R : Nat → List Nat) : Prop where
  two : 2 ≤ N
  x0 : (X 0).Perm (List.range N)
  st : ∀ k, k + 2 ≤ N → (X k).Perm (A k :: B k :: R k)
  nx : ∀ k, k + 2 ≤ N → (X (k + 1)).Perm ((N + k) :: R k)
  wn : ∀ k, k + 2 ≤ N → w (N + k) = w (A k) + w (B k)
  ia : ∀ k, k + 2 ≤ N → I (A k) = N + k
  ib : ∀ k, k + 2 ≤ N → I (B k) = N + k
  mA : ∀ k, k + 2 ≤ N → ∀ x ∈ B k :: R k, RI w (A k) x
  mB : ∀ k, k + 2 ≤ N → ∀ x ∈ R k, RI w (B k) x
  mono : ∀ i j, N ≤ i → i ≤ j → j ≤ 2 * N - 2 → w i ≤ w j
  pos : ∀ i, i ≤ 2 * N - 2 → 0 ≤ w i
section
variable {N : Nat} {X R : Nat → List Nat} {A B : Nat → Nat}
theorem x_lt (x0 : (X 0).Perm (List.range N)) (st : ∀ k, k + 2 ≤ N → (X k).Perm (A k :: B k :: R k)) (nx : ∀ k, k + 2 ≤ N → (X (k + 1)).Perm ((N + k) :: R k)) : ∀ k, k + 1 ≤ N → (∀ x ∈ X k, x < N + k) ∧ (X k).Nodup ∧ (X k).length = N - k := by
  intro k
  induction k with
  | zero =>
    intro _
    exact ⟨fun x hx => by have := List.mem_range.1 (x0.mem_iff.1 hx); omega, x0.nodup_iff.2 List.nodup_range, by rw [x0.length_eq, List.length_range]; omega⟩
  | succ k ih =>
    intro hk
    obtain ⟨h1, h2, h3⟩ := ih (by omega)
    have p := st k hk
    have q := nx k hk
    have hr : ∀ x ∈ R k, x ∈ X k := fun x hx => p.mem_iff.2 (by simp [hx])
    have hnd := p.nodup_iff.1 h2
    refine ⟨fun x hx => ?_, q.nodup_iff.2 (List.nodup_cons.2 ⟨fun hm => ?_, (List.nodup_cons.1 (List.nodup_cons.1 hnd).2).2⟩), ?_⟩
    · rcases List.mem_cons.1 (q.mem_iff.1 hx) with e | e
      · omega
      · have := h1 x (hr x e); omega
    · have := h1 _ (hr _ hm); omega
    · have l1 := p.length_eq
      have l2 := q.length_eq
      simp only [List.length_cons] at l1 l2
      omega
end
theorem merge_of {ws : List Int} {D : List Nat} (hN : 2 ≤ ws.length) (hp : D.Perm (List.range ws.length)) (hs : D.Pairwise (RI (keyW ws))) (hw : ∀ x ∈ ws, 0 ≤ x) : ∃ A B X R, Merge ws.length (wAt (treeOf ws D)) (fun i => ((treeOf ws D).into.getD i 0).toNat) A B X R ∧ ∀ i, i < ws.length → wAt (treeOf ws D) i = ws.getD i 0 := by
  have all := run_all hN hp hs hw
  have stp := run_step hN hp hs hw
  have wfin : ∀ d k, k + d + 1 = ws.length → ∀ i, i < ws.length + k → wAt (treeOf ws D) i = wAt (runH k (Start ws D)) i := by
    intro d
    induction d with
    | zero =>
      intro k hk i hi
      unfold treeOf
      rw [show ws.length - 1 = k by omega]
    | succ d ih =>
      intro k hk i hi
      rw [ih (k + 1) (by omega) i (by omega)]
      exact (stp k (by omega)).old i hi
  have x0 : (wt ws.length 0 (runH 0 (Start ws D))).Perm (List.range ws.length) := by
    show (D ++ List.range' ws.length (ws.length + 0 - ws.length)).Perm _
    rw [Nat.add_zero, Nat.sub_self, List.range'_zero, List.append_nil]
    exact hp
  have xl := x_lt (X := fun k => wt ws.length k (runH k (Start ws D))) (R := fun k => wt ws.length k (taken (taken (runH k (Start ws D))))) (A := fun k => Hu.leastOf (runH k (Start ws D))) (B := fun k => Hu.leastOf (taken (runH k (Start ws D)))) x0 (fun k hk => (stp k hk).perm) (fun k hk => (stp k hk).next)
  have ifin : ∀ d k, k + d + 1 = ws.length → ∀ i, i < ws.length + k → i ∉ wt ws.length k (runH k (Start ws D)) → (treeOf ws D).into.getD i 0 = (runH k (Start ws D)).into.getD i 0 := by
    intro d
    induction d with
    | zero =>
      intro k hk i hi _
      unfold treeOf
      rw [show ws.length - 1 = k by omega]
    | succ d ih =>
      intro k hk i hi hn
      have s := stp k (by omega)
      rw [ih (k + 1) (by omega) i (by omega) (fun hm => ?_)]
      · exact s.io i hi hn
      · rcases List.mem_cons.1 (s.next.mem_iff.1 hm) with e | e
        · omega
        · exact hn (s.perm.mem_iff.2 (by simp [e]))
  have taken_ab : ∀ k, k + 2 ≤ ws.length → Hu.leastOf (runH k (Start ws D)) < ws.length + k ∧ Hu.leastOf (taken (runH k (Start ws D))) < ws.length + k ∧ Hu.leastOf (runH k (Start ws D)) ∉ wt ws.length (k + 1) (runH (k + 1) (Start ws D)) ∧ Hu.leastOf (taken (runH k (Start ws D))) ∉ wt ws.length (k + 1) (runH (k + 1) (Start ws D)) := by
    intro k hk
    have s := stp k hk
    obtain ⟨l1, l2, _⟩ := xl k (by omega)
    have la := l1 (Hu.leastOf (runH k (Start ws D))) (s.perm.mem_iff.2 (by simp))
    have lb := l1 (Hu.leastOf (taken (runH k (Start ws D)))) (s.perm.mem_iff.2 (by simp))
    have hnd := s.perm.nodup_iff.1 l2
    rw [List.nodup_cons, List.nodup_cons] at hnd
    refine ⟨la, lb, fun hm => ?_, fun hm => ?_⟩
    · rcases List.mem_cons.1 (s.next.mem_iff.1 hm) with e | e
      · omega
      · exact hnd.1 (by simp [e])
    · rcases List.mem_cons.1 (s.next.mem_iff.1 hm) with e | e
      · omega
      · exact hnd.2.1 e
  have wk : ∀ k, k + 2 ≤ ws.length → ∀ i, i < ws.length + k → wAt (treeOf ws D) i = wAt (runH k (Start ws D)) i := fun k hk => wfin (ws.length - 1 - k) k (by omega)
  refine ⟨fun k => Hu.leastOf (runH k (Start ws D)), fun k => Hu.leastOf (taken (runH k (Start ws D))), fun k => wt ws.length k (runH k (Start ws D)), fun k => wt ws.length k (taken (taken (runH k (Start ws D)))), ⟨hN, x0, fun k hk => (stp k hk).perm, fun k hk => (stp k hk).next, fun k hk => ?_, fun k hk => ?_, fun k hk => ?_, fun k hk x hx => ?_, fun k hk x hx => ?_, fun i j h1 h2 h3 => ?_, fun i hi => ?_⟩, fun i hi => ?_⟩
  · obtain ⟨la, lb, _⟩ := taken_ab k hk
    rw [wfin (ws.length - 1 - (k + 1)) (k + 1) (by omega) _ (by omega), (stp k hk).new, wk k hk _ la, wk k hk _ lb]
  · obtain ⟨la, lb, na, nb⟩ := taken_ab k hk
    show ((treeOf ws D).into.getD _ 0).toNat = _
    rw [ifin (ws.length - 1 - (k + 1)) (k + 1) (by omega) _ (by omega) na, (stp k hk).ia]
    omega
  · obtain ⟨la, lb, na, nb⟩ := taken_ab k hk
    show ((treeOf ws D).into.getD _ 0).toNat = _
    rw [ifin (ws.length - 1 - (k + 1)) (k + 1) (by omega) _ (by omega) nb, (stp k hk).ib]
    omega
  · obtain ⟨la, lb, na, nb⟩ := taken_ab k hk
    have := (stp k hk).mA x hx
    have hx2 := (xl k (by omega)).1 x ((stp k hk).perm.mem_iff.2 (List.mem_cons_of_mem _ hx))
    unfold RI at this ⊢
    rw [wk k hk _ la, wk k hk _ hx2]
    exact this
  · obtain ⟨la, lb, na, nb⟩ := taken_ab k hk
    have := (stp k hk).mB x hx
    have hx2 := (xl k (by omega)).1 x ((stp k hk).perm.mem_iff.2 (List.mem_cons_of_mem _ (List.mem_cons_of_mem _ hx)))
    unfold RI at this ⊢
    rw [wk k hk _ lb, wk k hk _ hx2]
    exact this
  · obtain ⟨h, last, s⟩ := all (ws.length - 1) (by omega)
    exact s.js i j h1 h2 (by omega)
  · obtain ⟨h, last, s⟩ := all (ws.length - 1) (by omega)
    exact (h.pos i (by omega)).1
  · rw [wk 0 (by omega) i (by omega)]
    rfl

end Go.Proofs.YtdagfcflbphoiaaDoor
/- The merging of weights: what depths come to. No program in sight. -/
namespace Go.Proofs.YtdagfcflbphoiaaDoor
set_option linter.unusedVariables false
set_option linter.unusedSimpArgs false
open Hu

theorem sumI_perm {a b : List Int} (h : a.Perm b) : sumI a = sumI b := by
  induction h with
  | nil => rfl
  | cons x _ ih => simp only [sumI, ih]
  | swap x y l => simp only [sumI]; omega
  | trans _ _ ih1 ih2 => exact ih1.trans ih2

section
variable {N : Nat} {w : Nat → Int} {I A B : Nat → Nat} {X R : Nat → List Nat}
theorem Merge.lt (m : Merge N w I A B X R) {k : Nat} (hk : k + 1 ≤ N) {x : Nat} (hx : x ∈ X k) : x < N + k := (x_lt m.x0 m.st m.nx k hk).1 x hx
theorem Merge.len (m : Merge N w I A B X R) {k : Nat} (hk : k + 1 ≤ N) : (X k).length = N - k := (x_lt m.x0 m.st m.nx k hk).2.2
theorem Merge.last (m : Merge N w I A B X R) : X (N - 1) = [2 * N - 2] := by
  have hN := m.two
  have hl := m.len (k := N - 1) (by omega)
  have hx : 2 * N - 2 ∈ X (N - 1) := by
    have := m.nx (N - 2) (by omega)
    rw [show N - 2 + 1 = N - 1 by omega] at this
    exact this.mem_iff.2 (by rw [show N + (N - 2) = 2 * N - 2 by omega]; simp)
  obtain ⟨y, hy⟩ := List.length_eq_one_iff.1 (show (X (N - 1)).length = 1 by omega)
  rw [hy] at hx ⊢
  rw [List.mem_singleton.1 hx]
theorem Merge.aX (m : Merge N w I A B X R) {k : Nat} (hk : k + 2 ≤ N) : A k ∈ X k ∧ B k ∈ X k ∧ (∀ x ∈ R k, x ∈ X k) ∧ (∀ x ∈ R k, x ∈ X (k + 1)) ∧ N + k ∈ X (k + 1) := by
  have p := m.st k hk
  have q := m.nx k hk
  exact ⟨p.mem_iff.2 (by simp), p.mem_iff.2 (by simp), fun x hx => p.mem_iff.2 (by simp [hx]), fun x hx => q.mem_iff.2 (by simp [hx]), q.mem_iff.2 (by simp)⟩
theorem Merge.in_or (m : Merge N w I A B X R) : ∀ k, k + 1 ≤ N → ∀ p, p < N + k → p ∈ X k ∨ I p < N + k := by
  intro k
  induction k with
  | zero => intro _ p hp; exact .inl (m.x0.mem_iff.2 (List.mem_range.2 (by omega)))
  | succ k ih =>
    intro hk p hp
    obtain ⟨h1, h2, h3, h4, h5⟩ := m.aX hk
    by_cases e : p = N + k
    · exact .inl (by rw [e]; exact h5)
    · rcases ih (by omega) p (by omega) with q | q
      · rcases List.mem_cons.1 ((m.st k hk).mem_iff.1 q) with r | r
        · right; rw [r, m.ia k hk]; omega
        · rcases List.mem_cons.1 r with r | r
          · right; rw [r, m.ib k hk]; omega
          · exact .inl (h4 p r)
      · right; omega
theorem Merge.ge (m : Merge N w I A B X R) : ∀ d k, k + d + 1 = N → ∀ x ∈ X k, x = 2 * N - 2 ∨ N + k ≤ I x := by
  intro d
  induction d with
  | zero =>
    intro k hk x hx
    have := m.last
    rw [show N - 1 = k by omega] at this
    rw [this] at hx
    exact .inl (List.mem_singleton.1 hx)
  | succ d ih =>
    intro k hk x hx
    have hk2 : k + 2 ≤ N := by omega
    rcases List.mem_cons.1 ((m.st k hk2).mem_iff.1 hx) with r | r
    · right; rw [r, m.ia k hk2]; exact Nat.le_refl _
    · rcases List.mem_cons.1 r with r | r
      · right; rw [r, m.ib k hk2]; exact Nat.le_refl _
      · rcases ih (k + 1) (by omega) x ((m.aX hk2).2.2.2.1 x r) with q | q
        · exact .inl q
        · right; omega
theorem Merge.ge' (m : Merge N w I A B X R) {k : Nat} (hk : k + 1 ≤ N) {x : Nat} (hx : x ∈ X k) (hr : x ≠ 2 * N - 2) : N + k ≤ I x := (m.ge (N - 1 - k) k (by omega) x hx).resolve_left hr
theorem Merge.up (m : Merge N w I A B X R) {i : Nat} (hi : i < 2 * N - 2) : i < I i ∧ I i ≤ 2 * N - 2 ∧ N ≤ I i := by
  have hN := m.two
  have h1 : I i ≤ 2 * N - 2 := by
    rcases m.in_or (N - 1) (by omega) i (by omega) with q | q
    · rw [m.last] at q
      have := List.mem_singleton.1 q
      omega
    · omega
  by_cases hl : i < N
  · have := m.ge' (k := 0) (by omega) (m.x0.mem_iff.2 (List.mem_range.2 hl)) (by omega)
    omega
  · have := m.ge' (k := i - N + 1) (by omega) (x := i) (by have := (m.aX (k := i - N) (by omega)).2.2.2.2; rwa [show N + (i - N) = i by omega] at this) (by omega)
    omega
theorem Merge.inv (m : Merge N w I A B X R) {q k : Nat} (hk : k + 2 ≤ N) (hq : q < 2 * N - 2) (h : I q = N + k) : q ∈ X k ∧ (q = A k ∨ q = B k) := by
  have hu := (m.up hq).1
  have h1 : q ∈ X k := by
    rcases m.in_or k (by omega) q (by omega) with r | r
    · exact r
    · omega
  refine ⟨h1, ?_⟩
  rcases List.mem_cons.1 ((m.st k hk).mem_iff.1 h1) with r | r
  · exact .inl r
  · rcases List.mem_cons.1 r with r | r
    · exact .inr r
    · have := m.ge' (k := k + 1) (by omega) ((m.aX hk).2.2.2.1 q r) (by omega)
      omega
/-- what was made later is no deeper -/
theorem Merge.mid (m : Merge N w I A B X R) {dep : Nat → Nat} (d0 : dep (2 * N - 2) = 0) (d1 : ∀ i, i < 2 * N - 2 → dep i = dep (I i) + 1) : ∀ f p q, 2 * N - 2 - p ≤ f → N ≤ p → p ≤ q → q ≤ 2 * N - 2 → dep q ≤ dep p := by
  intro f
  induction f with
  | zero =>
    intro p q hf h1 h2 h3
    obtain rfl : p = q := by omega
    exact Nat.le_refl _
  | succ f ih =>
    intro p q hf h1 h2 h3
    by_cases e : q = 2 * N - 2
    · rw [e, d0]; omega
    by_cases e2 : p = q
    · rw [e2]; exact Nat.le_refl _
    rw [d1 p (by omega), d1 q (by omega)]
    have up := m.up (show p < 2 * N - 2 by omega)
    have uq := m.up (show q < 2 * N - 2 by omega)
    have hle : I p ≤ I q := by
      obtain ⟨k, hk⟩ : ∃ k, I q = N + k := ⟨I q - N, by omega⟩
      have hk2 : k + 2 ≤ N := by omega
      obtain ⟨hx, hab⟩ := m.inv hk2 (by omega) hk
      have hlt := m.lt (by omega) hx
      rw [hk]
      rcases m.in_or k (by omega) p (by omega) with r | r
      · rcases List.mem_cons.1 ((m.st k hk2).mem_iff.1 r) with s | s
        · rw [s, m.ia k hk2]; exact Nat.le_refl _
        · rcases List.mem_cons.1 s with s | s
          · rw [s, m.ib k hk2]; exact Nat.le_refl _
          · have hRI : RI w q p := by
              rcases hab with t | t
              · rw [t]; exact m.mA k hk2 p (List.mem_cons_of_mem _ s)
              · rw [t]; exact m.mB k hk2 p s
            have := m.mono p q h1 h2 h3
            unfold RI at hRI
            omega
      · omega
    have := ih (I p) (I q) (by omega) (by omega) hle (by omega)
    omega
/-- of two symbols the one with the greater weight has no greater depth -/
theorem Merge.order (m : Merge N w I A B X R) {dep : Nat → Nat} (d0 : dep (2 * N - 2) = 0) (d1 : ∀ i, i < 2 * N - 2 → dep i = dep (I i) + 1) {x y : Nat} (hx : x < N) (hy : y < N) (hw : w y < w x) : dep x ≤ dep y := by
  have hN := m.two
  have ux := m.up (show x < 2 * N - 2 by omega)
  have uy := m.up (show y < 2 * N - 2 by omega)
  obtain ⟨k, hk⟩ : ∃ k, I y = N + k := ⟨I y - N, by omega⟩
  have hk2 : k + 2 ≤ N := by omega
  have hge : N + k ≤ I x := by
    rcases m.in_or k (by omega) x (by omega) with r | r
    · exact m.ge' (by omega) r (by omega)
    · exfalso
      obtain ⟨j, hj⟩ : ∃ j, I x = N + j := ⟨I x - N, by omega⟩
      obtain ⟨hxj, hab⟩ := m.inv (by omega) (by omega) hj
      have hyj : y ∈ X j := by
        rcases m.in_or j (by omega) y (by omega) with s | s
        · exact s
        · omega
      have hj2 : j + 2 ≤ N := by omega
      have hRI : RI w x y := by
        rcases List.mem_cons.1 ((m.st j hj2).mem_iff.1 hyj) with s | s
        · have := m.ia j hj2; rw [← s] at this; omega
        · rcases List.mem_cons.1 s with t | t
          · have := m.ib j hj2; rw [← t] at this; omega
          · rcases hab with u | u
            · rw [u]; exact m.mA j hj2 y s
            · rw [u]; exact m.mB j hj2 y t
      unfold RI at hRI
      omega
  rw [d1 x (by omega), d1 y (by omega), hk]
  have := m.mid d0 d1 (2 * N) (N + k) (I x) (by omega) (by omega) hge (by omega)
  omega
/-- depths are bounded by how many trees there are -/
theorem Merge.dep_le (m : Merge N w I A B X R) {dep : Nat → Nat} (d0 : dep (2 * N - 2) = 0) (d1 : ∀ i, i < 2 * N - 2 → dep i = dep (I i) + 1) : ∀ f i, 2 * N - 2 - i ≤ f → i ≤ 2 * N - 2 → dep i ≤ 2 * N - 2 - i := by
  intro f
  induction f with
  | zero => intro i h1 h2; obtain rfl : i = 2 * N - 2 := by omega
            rw [d0]; omega
  | succ f ih =>
    intro i h1 h2
    by_cases e : i = 2 * N - 2
    · rw [e, d0]; omega
    · have u := m.up (show i < 2 * N - 2 by omega)
      have := ih (I i) (by omega) (by omega)
      rw [d1 i (by omega)]
      omega
/-- a sum over what waits that no join changes -/
theorem Merge.keeps (m : Merge N w I A B X R) (f : Nat → Int) (hf : ∀ k, k + 2 ≤ N → f (A k) + f (B k) = f (N + k)) : ∀ k, k + 1 ≤ N → sumI ((X k).map f) = f (2 * N - 2) := by
  have hN := m.two
  have : ∀ d k, k + d + 1 = N → sumI ((X k).map f) = f (2 * N - 2) := by
    intro d
    induction d with
    | zero =>
      intro k hk
      have := m.last
      rw [show N - 1 = k by omega] at this
      rw [this]
      simp [sumI]
    | succ d ih =>
      intro k hk
      have hk2 : k + 2 ≤ N := by omega
      have h1 := ih (k + 1) (by omega)
      rw [sumI_perm ((m.nx k hk2).map f)] at h1
      rw [sumI_perm ((m.st k hk2).map f)]
      simp only [List.map_cons, sumI] at h1 ⊢
      have := hf k hk2
      omega
  exact fun k hk => this (N - 1 - k) k (by omega)
theorem Merge.ab_lt (m : Merge N w I A B X R) {k : Nat} (hk : k + 2 ≤ N) : A k < 2 * N - 2 ∧ B k < 2 * N - 2 := by
  have h := m.aX hk
  have := m.lt (by omega) h.1
  have := m.lt (by omega) h.2.1
  omega
theorem Merge.dep_ab (m : Merge N w I A B X R) {dep : Nat → Nat} (d1 : ∀ i, i < 2 * N - 2 → dep i = dep (I i) + 1) {k : Nat} (hk : k + 2 ≤ N) : dep (A k) = dep (N + k) + 1 ∧ dep (B k) = dep (N + k) + 1 := by
  have h := m.ab_lt hk
  rw [d1 _ h.1, d1 _ h.2, m.ia k hk, m.ib k hk]
  exact ⟨rfl, rfl⟩
/-- the share of all depths -/
theorem Merge.kraft (m : Merge N w I A B X R) {dep : Nat → Nat} (d0 : dep (2 * N - 2) = 0) (d1 : ∀ i, i < 2 * N - 2 → dep i = dep (I i) + 1) (M : Nat) (hM : 2 * N ≤ M) : sumI ((List.range N).map fun i => (2 : Int) ^ (M - dep i)) = 2 ^ M := by
  have hN := m.two
  have h := m.keeps (fun i => (2 : Int) ^ (M - dep i)) (fun k hk => by
    obtain ⟨e1, e2⟩ := m.dep_ab d1 hk
    have hb := m.dep_le d0 d1 (2 * N) (N + k) (by omega) (by omega)
    show (2 : Int) ^ (M - dep (A k)) + 2 ^ (M - dep (B k)) = 2 ^ (M - dep (N + k))
    rw [e1, e2, show M - dep (N + k) = (M - (dep (N + k) + 1)) + 1 by omega, Int.pow_succ]
    omega) 0 (by omega)
  rw [sumI_perm (m.x0.map _), d0] at h
  exact h
/-- the weight of all -/
theorem Merge.root (m : Merge N w I A B X R) : sumI ((List.range N).map w) = w (2 * N - 2) := by
  have hN := m.two
  have h := m.keeps w (fun k hk => (m.wn k hk).symm) 0 (by omega)
  rw [sumI_perm (m.x0.map _)] at h
  exact h
/-- no tree that waits is lighter than one that was taken -/
theorem Merge.above (m : Merge N w I A B X R) {c : Int} (h0 : 0 ≤ c) : ∀ d k, (∀ x ∈ X k, c ≤ w x) → k + d + 1 ≤ N → ∀ x ∈ X (k + d), c ≤ w x := by
  intro d
  induction d with
  | zero => intro k h _; exact h
  | succ d ih =>
    intro k h hk x hx
    have p := ih k h (by omega)
    have hk2 : (k + d) + 2 ≤ N := by omega
    have a := m.aX hk2
    rcases List.mem_cons.1 ((m.nx (k + d) hk2).mem_iff.1 hx) with e | e
    · rw [e, m.wn _ hk2]
      have := p _ a.1
      have := p _ a.2.1
      omega
    · exact p x (a.2.2.1 x e)
theorem Merge.twice (m : Merge N w I A B X R) {x : Nat} (hx : x < 2 * N - 2) (hx2 : I x < 2 * N - 2) : w x ≤ w (I x) ∧ 2 * w x ≤ w (I (I x)) := by
  have u := m.up hx
  have u2 := m.up hx2
  obtain ⟨k, hk⟩ : ∃ k, I x = N + k := ⟨I x - N, by omega⟩
  obtain ⟨j, hj⟩ : ∃ j, I (I x) = N + j := ⟨I (I x) - N, by omega⟩
  have hk2 : k + 2 ≤ N := by omega
  have hj2 : j + 2 ≤ N := by omega
  have a := m.aX hk2
  have hB : w x ≤ w (B k) ∧ w x ≤ w (N + k) := by
    have := (m.inv hk2 hx hk).2
    have hAB := m.mA k hk2 (B k) (by simp)
    have := m.wn k hk2
    have := m.pos (A k) (by have := m.ab_lt hk2; omega)
    have := m.pos (B k) (by have := m.ab_lt hk2; omega)
    unfold RI at hAB
    rcases (m.inv hk2 hx hk).2 with e | e <;> rw [e] <;> omega
  refine ⟨by rw [hk]; exact hB.2, ?_⟩
  have ab := m.above (m.pos x (by omega)) (j - (k + 1)) (k + 1) (fun y hy => by
    rcases List.mem_cons.1 ((m.nx k hk2).mem_iff.1 hy) with e | e
    · rw [e]; exact hB.2
    · have := m.mB k hk2 y e
      unfold RI at this
      omega) (by omega)
  rw [show k + 1 + (j - (k + 1)) = j by omega] at ab
  have b := m.aX hj2
  rw [hj, m.wn j hj2]
  have := ab _ b.1
  have := ab _ b.2.1
  omega
theorem Merge.deep (m : Merge N w I A B X R) {dep : Nat → Nat} (d0 : dep (2 * N - 2) = 0) (d1 : ∀ i, i < 2 * N - 2 → dep i = dep (I i) + 1) : ∀ f x, 2 * N - 2 - x ≤ f → x ≤ 2 * N - 2 → w x * 2 ^ (dep x / 2) ≤ w (2 * N - 2) := by
  intro f
  induction f with
  | zero =>
    intro x h1 h2
    obtain rfl : x = 2 * N - 2 := by omega
    rw [d0]
    simp
  | succ f ih =>
    intro x h1 h2
    by_cases e : x = 2 * N - 2
    · rw [e, d0]; simp
    have u := m.up (show x < 2 * N - 2 by omega)
    by_cases e2 : I x = 2 * N - 2
    · rw [d1 x (by omega), e2, d0]
      obtain ⟨k, hk⟩ : ∃ k, I x = N + k := ⟨I x - N, by omega⟩
      have hk2 : k + 2 ≤ N := by omega
      have h3 := (m.inv hk2 (by omega) hk).2
      have h4 := m.wn k hk2
      rw [← hk, e2] at h4
      have := m.pos (A k) (by have := m.ab_lt hk2; omega)
      have := m.pos (B k) (by have := m.ab_lt hk2; omega)
      simp
      rcases h3 with r | r <;> rw [r] <;> omega
    · have u2 := m.up (show I x < 2 * N - 2 by omega)
      have t := (m.twice (show x < 2 * N - 2 by omega) (by omega)).2
      rw [d1 x (by omega), d1 (I x) (by omega)]
      have := ih (I (I x)) (by omega) (by omega)
      rw [show (dep (I (I x)) + 1 + 1) / 2 = dep (I (I x)) / 2 + 1 by omega, Int.pow_succ, ← Int.mul_assoc, Int.mul_comm (w x) _, Int.mul_assoc]
      refine Int.le_trans ?_ this
      rw [Int.mul_comm]
      exact Int.mul_le_mul_of_nonneg_right (by omega) (Int.pow_nonneg (by omega))
end
/-- depths of N weights, each at least one, that come to less than 2 ^ 10 -/
theorem Merge.short {N : Nat} {w : Nat → Int} {I A B : Nat → Nat} {X R : Nat → List Nat} (m : Merge N w I A B X R) {dep : Nat → Nat} (d0 : dep (2 * N - 2) = 0) (d1 : ∀ i, i < 2 * N - 2 → dep i = dep (I i) + 1) {x : Nat} (hx : x < N) (h1 : 1 ≤ w x) (hs : w (2 * N - 2) < 1024) : dep x ≤ 19 := by
  have hN := m.two
  have h := m.deep d0 d1 (2 * N) x (by omega) (by omega)
  apply Decidable.byContradiction
  intro hc
  have h2 : (2 : Int) ^ 10 ≤ 2 ^ (dep x / 2) := by
    have : (2 : Nat) ^ 10 ≤ 2 ^ (dep x / 2) := Nat.pow_le_pow_right (by omega) (by omega)
    exact_mod_cast this
  have h3 : (2 : Int) ^ (dep x / 2) ≤ w x * 2 ^ (dep x / 2) := by
    have : (1 : Int) * 2 ^ (dep x / 2) ≤ w x * 2 ^ (dep x / 2) := Int.mul_le_mul_of_nonneg_right h1 (Int.pow_nonneg (by omega))
    omega
  omega

end Go.Proofs.YtdagfcflbphoiaaDoor
/- Depths as a plain function of weights, and what they obey. No program in sight. -/
namespace Go.Proofs.YtdagfcflbphoiaaDoor
set_option linter.unusedVariables false
set_option linter.unusedSimpArgs false
open Hu

theorem fill_keep (into : List Int) : ∀ (i : Nat) (out : List Int) (j : Nat), i ≤ j → (fillD into i out).getD j 0 = out.getD j 0
  | 0, out, j, _ => rfl
  | i + 1, out, j, h => by
    unfold fillD
    rw [fill_keep into i _ j (by omega), getD_setI, if_neg (by omega)]
theorem fill_rec (into : List Int) (T : Nat) : ∀ (i : Nat) (out : List Int), out.length = T → i ≤ T → (∀ j, j < i → j < (into.getD j 0).toNat ∧ (into.getD j 0).toNat < T) → ∀ j, j < i → (fillD into i out).getD j 0 = (fillD into i out).getD (into.getD j 0).toNat 0 + 1
  | 0, out, _, _, _, j, hj => by omega
  | i + 1, out, hl, hi, hin, j, hj => by
    have h0 := hin i (by omega)
    unfold fillD
    by_cases e : j = i
    · subst e
      rw [fill_keep into j _ j (by omega), fill_keep into j _ _ (by omega), getD_setI, getD_setI, if_pos ⟨rfl, by omega⟩, if_neg (by omega)]
    · exact fill_rec into T i _ (by rw [List.length_set]; exact hl) (by omega) (fun j hj => hin j (by omega)) j (by omega)
theorem fill_pos (into : List Int) : ∀ (i : Nat) (out : List Int), (∀ j, 0 ≤ out.getD j 0) → ∀ j, 0 ≤ (fillD into i out).getD j 0
  | 0, out, h, j => h j
  | i + 1, out, h, j => by
    unfold fillD
    refine fill_pos into i _ (fun j => ?_) j
    rw [getD_setI]
    have := h j
    have := h (into.getD i 0).toNat
    split <;> omega

/-- the merging of weights and the depths that come of it -/
structure Deps (ws : List Int) (D : List Nat) (w : Nat → Int) (I A B : Nat → Nat) (X R : Nat → List Nat) (dep : Nat → Nat) : Prop where
  m : Merge ws.length w I A B X R
  d0 : dep (2 * ws.length - 2) = 0
  d1 : ∀ i, i < 2 * ws.length - 2 → dep i = dep (I i) + 1
  ww : ∀ i, i < ws.length → w i = ws.getD i 0
  eq : depthsP ws D = (List.range ws.length).map fun i => (dep i : Int)
theorem deps_of {ws : List Int} {D : List Nat} (hN : 2 ≤ ws.length) (hp : D.Perm (List.range ws.length)) (hs : D.Pairwise (RI (keyW ws))) (hw : ∀ x ∈ ws, 0 ≤ x) : ∃ w I A B X R dep, Deps ws D w I A B X R dep := by
  obtain ⟨A, B, X, R, m, ww⟩ := merge_of hN hp hs hw
  obtain ⟨out, hout⟩ : ∃ out, fillD (treeOf ws D).into (2 * ws.length - 2) (List.replicate (2 * ws.length - 1) 0) = out := ⟨_, rfl⟩
  have hpos : ∀ j, 0 ≤ out.getD j 0 := by
    rw [← hout]
    refine fill_pos _ _ _ fun j => ?_
    rw [List.getD_eq_getElem?_getD, List.getElem?_replicate]
    split <;> simp
  have hlen : out.length = 2 * ws.length - 1 := by rw [← hout, fillD_len, List.length_replicate]
  refine ⟨_, _, A, B, X, R, fun i => (out.getD i 0).toNat, m, ?_, fun i hi => ?_, ww, ?_⟩
  · rw [← hout, fill_keep _ _ _ _ (Nat.le_refl _), List.getD_eq_getElem?_getD, List.getElem?_replicate]
    split <;> rfl
  · have h1 := fill_rec (treeOf ws D).into (2 * ws.length - 1) (2 * ws.length - 2) (List.replicate (2 * ws.length - 1) 0) (by rw [List.length_replicate]) (by omega) (fun j hj => by
      have := m.up hj
      omega) i hi
    rw [hout] at h1
    have := hpos ((treeOf ws D).into.getD i 0).toNat
    show (out.getD i 0).toNat = (out.getD ((treeOf ws D).into.getD i 0).toNat 0).toNat + 1
    rw [h1]
    omega
  · unfold depthsP
    rw [hout]
    apply List.ext_getElem
    · simp [hlen]; omega
    · intro i h1 h2
      have h3 : i < ws.length := by simpa using h2
      have := hpos i
      rw [List.getD_eq_getElem?_getD, List.getElem?_eq_getElem (by omega)] at this
      simp only [List.getElem_take, List.getElem_map, List.getElem_range]
      rw [List.getD_eq_getElem?_getD, List.getElem?_eq_getElem (by omega)]
      simp only [Option.getD_some] at this ⊢
      omega

theorem sorted_one {k : Nat → Int} : ∀ {a b : List Nat}, a.Perm b → a.Pairwise (RI k) → b.Pairwise (RI k) → a = b
  | [], b, h, _, _ => (List.nil_perm.1 h).symm
  | x :: a, [], h, _, _ => by simp at h
  | x :: a, y :: b, h, h1, h2 => by
    have h1' := List.pairwise_cons.1 h1
    have h2' := List.pairwise_cons.1 h2
    have e : x = y := by
      have m1 : x ∈ y :: b := h.mem_iff.1 (by simp)
      have m2 : y ∈ x :: a := h.mem_iff.2 (by simp)
      rcases List.mem_cons.1 m1 with e | e
      · exact e
      · rcases List.mem_cons.1 m2 with e2 | e2
        · exact e2.symm
        · have r1 := h2'.1 x e
          have r2 := h1'.1 y e2
          unfold RI at r1 r2
          omega
    subst e
    rw [sorted_one h.cons_inv h1'.2 h2'.2]
def Sorts (ws : List Int) (D : List Nat) : Prop := D.Perm (List.range ws.length) ∧ D.Pairwise (RI (keyW ws))
theorem Sorts.one {ws : List Int} {D E : List Nat} (h : Sorts ws D) (k : Sorts ws E) : D = E := sorted_one (h.1.trans k.1.symm) h.2 k.2
open Classical in
noncomputable def sortD (ws : List Int) : List Nat := if h : ∃ D, Sorts ws D then h.choose else []
theorem Sorts.eq {ws : List Int} {D : List Nat} (h : Sorts ws D) : sortD ws = D := by
  unfold sortD
  have hx : ∃ D, Sorts ws D := ⟨D, h⟩
  rw [dif_pos hx]
  exact hx.choose_spec.one h
/-- the depths of weights -/
noncomputable def depF (ws : List Int) : List Int := depthsP ws (sortD ws)
theorem Sorts.dep {ws : List Int} {D : List Nat} (h : Sorts ws D) : depthsP ws D = depF ws := by unfold depF; rw [h.eq]

theorem getD_map_range {f : Nat → Int} {n i : Nat} (h : i < n) : ((List.range n).map f).getD i 0 = f i := by
  rw [List.getD_eq_getElem?_getD, List.getElem?_map, List.getElem?_range h]
  rfl
section
variable {ws : List Int} {D : List Nat} {w : Nat → Int} {I A B : Nat → Nat} {X R : Nat → List Nat} {dep : Nat → Nat}
theorem Deps.at_ (d : Deps ws D w I A B X R dep) {i : Nat} (h : i < ws.length) : (depthsP ws D).getD i 0 = dep i := by
  rw [d.eq, getD_map_range h]
theorem Deps.ge1 (d : Deps ws D w I A B X R dep) {i : Nat} (h : i < ws.length) : 1 ≤ dep i := by
  have := d.m.two
  rw [d.d1 i (by omega)]
  omega
theorem Deps.le (d : Deps ws D w I A B X R dep) {i : Nat} (h : i < ws.length) : dep i < ws.length := by
  have hN := d.m.two
  have u := d.m.up (show i < 2 * ws.length - 2 by omega)
  have := d.m.dep_le d.d0 d.d1 (2 * ws.length) (I i) (by omega) (by omega)
  rw [d.d1 i (by omega)]
  omega
theorem Deps.mem (d : Deps ws D w I A B X R dep) {P : Int → Prop} : (∀ x ∈ depthsP ws D, P x) ↔ ∀ i, i < ws.length → P (dep i) := by
  rw [d.eq]
  simp
end

/-- shares -/
def shr1 (x : Int) : Int := 2 ^ (20 - x).toNat
def shrL (xs : List Int) : Int := sumI (xs.map shr1)
theorem Deps.share {ws : List Int} {D : List Nat} {w : Nat → Int} {I A B : Nat → Nat} {X R : Nat → List Nat} {dep : Nat → Nat} (d : Deps ws D w I A B X R dep) (h : ∀ x ∈ depthsP ws D, x ≤ 20) : shrL (depthsP ws D) = 1048576 := by
  have h := d.mem.1 h
  have hN := d.m.two
  obtain ⟨M, hM⟩ : ∃ M, M = 2 * ws.length + 20 := ⟨_, rfl⟩
  have hk := d.m.kraft d.d0 d.d1 M (by omega)
  have e : ∀ l : List Nat, (∀ i ∈ l, i < ws.length) → sumI (l.map fun i => (2 : Int) ^ (M - dep i)) = 2 ^ (M - 20) * sumI (l.map fun i => shr1 (dep i)) := by
    intro l
    induction l with
    | nil => intro _; simp [sumI]
    | cons x l ih =>
      intro hl
      have hx := h x (hl x (by simp))
      simp only [List.map_cons, sumI]
      rw [ih (fun i hi => hl i (by simp [hi])), Int.mul_add]
      congr 1
      unfold shr1
      rw [← Int.pow_add]
      congr 1
      omega
  rw [e _ (fun i hi => List.mem_range.1 hi)] at hk
  unfold shrL
  rw [d.eq, List.map_map]
  have hk2 : (2 : Int) ^ M = 2 ^ (M - 20) * 1048576 := by
    rw [show (1048576 : Int) = 2 ^ 20 by rfl, ← Int.pow_add]
    congr 1
    omega
  rw [hk2] at hk
  exact Int.eq_of_mul_eq_mul_left (Int.ne_of_gt (Int.pow_pos (by omega))) hk

end Go.Proofs.YtdagfcflbphoiaaDoor
/- Depths, halved weights, shares, lengths: the program's own functions, by the second form. -/
namespace Go.Proofs.YtdagfcflbphoiaaDoor
set_option linter.unusedVariables false
set_option linter.unusedSimpArgs false
open Go.RowKit Ev Hu

theorem sumI_bound (c : Int) : ∀ l : List Int, (∀ x ∈ l, x ≤ c) → sumI l ≤ l.length * c
  | [], _ => by simp [sumI]
  | x :: l, h => by
    have ih := sumI_bound c l (fun y hy => h y (by simp [hy]))
    have := h x (by simp)
    simp only [sumI, List.length_cons]
    rw [show ((l.length + 1 : Nat) : Int) * c = l.length * c + c by rw [show ((l.length + 1 : Nat) : Int) = (l.length : Int) + 1 by omega, Int.add_mul, Int.one_mul]]
    omega
theorem sum_fits {ws : List Int} (hl : ws.length ≤ 258) (hw : ∀ x ∈ ws, x ≤ 2199023255552) : sumI ws ≤ 1152921504606846976 := by
  have h := sumI_bound 2199023255552 ws hw
  have : (ws.length : Int) * 2199023255552 ≤ 258 * 2199023255552 := Int.mul_le_mul_of_nonneg_right (by omega) (by omega)
  omega

/-- weights that may be -/
structure Ws (ws : List Int) : Prop where
  l2 : 2 ≤ ws.length
  l3 : ws.length ≤ 258
  lo : ∀ x ∈ ws, 0 ≤ x
  hi : ∀ x ∈ ws, x ≤ 2199023255552
theorem depF_len {ws : List Int} (h : 1 ≤ ws.length) : (depF ws).length = ws.length := depthsP_len _ _ h
theorem s_depF (lf d n : Nat) (h : H) (v : Value) (ws : List Int) (hR : Row h n 3 .i64 v ws) (hW : Ws ws) (hlf : 3000000 ≤ lf) (hd : 300 ≤ d) :
    Run (fun _ => False) n (evCall2 Tryd.prog gt lf d 53 #[v]) h n fun v' h' n' => Sorts ws (sortD ws) ∧ Row h' n' 3 .i64 v' (depF ws) ∧ ∀ b, InBlk v' b → n ≤ b := by
  obtain ⟨e, rfl⟩ : ∃ e, d = e + ws.length + 8 := ⟨d - ws.length - 8, by have := hW.l3; omega⟩
  have hl3 := hW.l3
  refine (s_depths lf e n h v ws hR hW.l2 (by omega) hlf hW.lo (sum_fits hW.l3 hW.hi)).mono ?_
  rintro v' h' n' _ ⟨D, hp, hs, hr, hb⟩
  have so : Sorts ws D := ⟨hp, hs⟩
  rw [so.dep] at hr
  exact ⟨by rw [so.eq]; exact so, hr, hb⟩
theorem Ws.deps {ws : List Int} (hW : Ws ws) (so : Sorts ws (sortD ws)) : ∃ w I A B X R dep, Deps ws (sortD ws) w I A B X R dep := deps_of hW.l2 so.1 so.2 hW.lo

def halv1 (x : Int) : Int := (if x < 0 then 0 else x).tdiv 2 + 1
def halvL (xs : List Int) : List Int := xs.map halv1
theorem halv_bound (x : Int) (h : x ≤ 9223372036854775807) : 1 ≤ halv1 x ∧ halv1 x ≤ 4611686018427387904 ∧ (0 ≤ x → halv1 x = x / 2 + 1) := by
  unfold halv1
  have : (if x < 0 then 0 else x).tdiv 2 = (if x < 0 then 0 else x) / 2 := Int.tdiv_eq_ediv_of_nonneg (by split <;> omega)
  rw [this]
  split <;> omega
theorem halv_wrap (x : Int) (h : x ≤ 9223372036854775807) : IntKind.i64.wrap ((if x < 0 then 0 else x).tdiv 2) = (if x < 0 then 0 else x).tdiv 2 ∧ IntKind.i64.wrap ((if x < 0 then 0 else x).tdiv 2 + 1) = halv1 x := by
  have := halv_bound x h
  unfold halv1 at this ⊢
  exact ⟨wrap_id (by omega) (by omega), wrap_id (by omega) (by omega)⟩
theorem halvL_len (xs : List Int) : (halvL xs).length = xs.length := by unfold halvL; simp
theorem halvL_at {xs : List Int} {i : Nat} (h : i < xs.length) : (halvL xs).getD i 0 = halv1 (xs.getD i 0) := by
  unfold halvL
  rw [List.getD_eq_getElem?_getD, List.getElem?_map, List.getElem?_eq_getElem h, List.getD_eq_getElem?_getD, List.getElem?_eq_getElem h]
  rfl
/-- a row that is written from the front -/
def part (L : List Int) (i : Nat) : List Int := L.take i ++ List.replicate (L.length - i) 0
theorem part_len (L : List Int) {i : Nat} (h : i ≤ L.length) : (part L i).length = L.length := by unfold part; simp; omega
theorem part_set {L : List Int} {i : Nat} (h : i < L.length) : (part L i).set i (L.getD i 0) = part L (i + 1) := by
  unfold part
  rw [List.set_append_right _ _ (by simp; omega), List.length_take, Nat.min_eq_left (by omega), Nat.sub_self]
  obtain ⟨e, he⟩ : ∃ e, L.length - i = e + 1 := ⟨L.length - i - 1, by omega⟩
  rw [he, List.replicate_succ, List.set_cons_zero, show L.length - (i + 1) = e by omega, List.take_succ_eq_append_getElem h, List.append_assoc]
  rw [List.getD_eq_getElem?_getD, List.getElem?_eq_getElem h]
  rfl
theorem part_all (L : List Int) : part L L.length = L := by unfold part; simp
theorem part_0 (L : List Int) : part L 0 = List.replicate L.length 0 := by unfold part; simp
theorem hvL (lf d n : Nat) (h : H) (v : Value) (xs : List Int) (hR : Row h n 3 .i64 v xs) (hl : xs.length ≤ 1000000) (hx : ∀ x ∈ xs, x ≤ 9223372036854775807) (x2 : Value) (c : Nat) (hc : xs.length ≤ c) {W : Nat → Prop} {n0 : Nat} (hn0 : n0 ≤ n) :
    ∀ (m i fu : Nat) (h1 : H), xs.length - i = m → m < fu → i ≤ xs.length → (∀ b, b < n → h1.get b = h.get b) → h1.get n = some ⟨3, true, ints (part (halvL xs) i)⟩ →
      Run W n0 (lpA_lens_Halved lf d fu (kcA_lens_Halved lf d) v x2 (.slice (some ⟨n, 0, none⟩) xs.length c) v (.int .i64 (xs.length : Nat)) (.int .i64 (i : Nat))) h1 (n + 1) (fun v' h' n' => Row h' n' 3 .i64 v' (halvL xs) ∧ ∀ b, InBlk v' b → n ≤ b) := by
  intro m
  induction m with
  | zero =>
    intro i fu h1 hm hfu hi hk hg1
    obtain ⟨fu, rfl⟩ : ∃ f, fu = f + 1 := ⟨fu - 1, by omega⟩
    obtain rfl : i = xs.length := by omega
    rw [succA_lens_Halved]
    try simp (disch := first | omega | assumption | exact one_int _ _ | exact one_slice _ _ _ | exact one_ptr _ | exact one_bool _ | exact one_string _) only [RXA, RXB, Nat.reduceAdd, Nat.reduceLT, wrap_id, wrap_succ, wrap_pred, FX1, Int.lt_irrefl]
    rw [kcAa_lens_Halved]
    try simp (disch := first | omega | assumption | exact one_int _ _ | exact one_slice _ _ _ | exact one_ptr _ | exact one_bool _ | exact one_string _) only [RXA, RXB, Nat.reduceAdd, Nat.reduceLT, wrap_id, wrap_succ, wrap_pred, FX1]
    rw [← halvL_len xs, part_all] at hg1
    refine ⟨.inr ⟨n, 0, c, true, _, by rw [halvL_len], hg1, Nat.lt_succ_self n, by rw [ints_len]; omega, ?_, by rw [halvL_len]; exact hc⟩, fun b hb => by rw [hb.inj]; exact Nat.le_refl n⟩
    rw [List.drop_zero, List.take_of_length_le (by rw [ints_len]; exact Nat.le_refl _)]
    rfl
  | succ m ih =>
    intro i fu h1 hm hfu hi hk hg1
    obtain ⟨fu, rfl⟩ : ∃ f, fu = f + 1 := ⟨fu - 1, by omega⟩
    have hR1 : Row h1 (n + 1) 3 .i64 v xs := hR.keep (Nat.le_succ n) hk
    have hlt := fun b hb => hR.lt (b := b) hb
    obtain ⟨b, off, cap, o, cs, rfl, hg, hb, _, _, _, hat⟩ := hR1.some (by omega)
    have hbn : b < n := hlt b ⟨_, _, _, rfl⟩
    have e1 : ((i : Nat) : Int) < ((xs.length : Nat) : Int) := by omega
    have c1 := hat i (by omega)
    have w1 : ((i : Nat) : Int) + 1 = ((i + 1 : Nat) : Int) := by omega
    have hxi := hx (xs.getD i 0) (by rw [List.getD_eq_getElem?_getD, List.getElem?_eq_getElem (by omega)]; exact List.getElem_mem _)
    obtain ⟨wa, wb⟩ := halv_wrap _ hxi
    have pl : (part (halvL xs) i).length = xs.length := by rw [part_len _ (by rw [halvL_len]; omega), halvL_len]
    have ps : (part (halvL xs) i).set i (halv1 (xs.getD i 0)) = part (halvL xs) (i + 1) := by rw [← halvL_at (by omega), part_set (by rw [halvL_len]; omega)]
    rw [succA_lens_Halved]
    try simp (disch := first | omega | assumption | exact one_int _ _ | exact one_slice _ _ _ | exact one_ptr _ | exact one_bool _ | exact one_string _) only [RXA, RXB, Nat.reduceAdd, Nat.reduceLT, wrap_id, wrap_succ, wrap_pred, FX1, e1, hg, c1, wa, wb, hg1, ints_set, ints_len, pl, ps]
    refine ⟨by omega, .inl hn0, ?_⟩
    rw [w1]
    exact ih (i + 1) fu _ (by omega) (by omega) (by omega) (fun b hb => by rw [get_ne _ _ (by omega)]; exact hk b hb) (get_eq _ _ _)
theorem s_Halved (lf d n : Nat) (h : H) (v : Value) (xs : List Int) (hR : Row h n 3 .i64 v xs) (hl : xs.length ≤ 1000000) (hx : ∀ x ∈ xs, x ≤ 9223372036854775807) (hlf : 3000000 ≤ lf) :
    Run (fun _ => False) n (evCall2 Tryd.prog gt lf (d + 1) 56 #[v]) h n fun v' h' n' => Row h' n' 3 .i64 v' (halvL xs) ∧ ∀ b, InBlk v' b → n ≤ b := by
  rw [sh_lens_Halved]
  refine Run.inside_ ?_
  unfold b_lens_Halved
  have hR0 := hR
  obtain ⟨a, c, rfl⟩ := hR.len
  try simp (disch := first | omega | assumption | exact one_int _ _ | exact one_slice _ _ _ | exact one_ptr _ | exact one_bool _ | exact one_string _) only [RXA, RXB, Nat.reduceAdd, Nat.reduceLT, wrap_id, wrap_succ, wrap_pred, FX1]
  refine Ev.run_make c1x22 xs.length xs.length _ (Nat.le_refl _) (by omega) ?_
  try simp (disch := first | omega | assumption | exact one_int _ _ | exact one_slice _ _ _ | exact one_ptr _ | exact one_bool _ | exact one_string _) only [RXA, RXB, Nat.reduceAdd, Nat.reduceLT, wrap_id, wrap_succ, wrap_pred, FX1]
  refine hvL lf d n h _ xs hR0 hl hx _ xs.length (Nat.le_refl _) (Nat.le_refl n) xs.length 0 lf _ (by omega) (by omega) (by omega) (fun b hb => get_ne _ _ (by omega)) ?_
  rw [get_eq, part_0, halvL_len]
  unfold ints
  rw [List.map_replicate]

end Go.Proofs.YtdagfcflbphoiaaDoor
/- Layer 8 by the second form: counts, groups, sums; the program's. -/
namespace Go.Proofs.YtdagfcflbphoiaaDoor
set_option linter.unusedVariables false
set_option linter.unusedSimpArgs false
open Go.RowKit Ev Tb

theorem intsV_set (k : IntKind) (l : List Int) (i : Nat) (x : Int) : (intsV k l).set i (.int k x) = intsV k (l.set i x) := by unfold intsV; rw [List.map_set]
theorem intsV_rep (k : IntKind) (n : Nat) (x : Int) : List.replicate n (Value.int k x) = intsV k (List.replicate n x) := by unfold intsV; rw [List.map_replicate]
theorem Row.ofBlk {h : H} {n b : Nat} {e : TypeId} {o : Bool} {xs : List Int} {m : Nat} (hg : h.get b = some ⟨e, o, intsV .i64 xs⟩) (hb : b < n) (hm : xs.length = m) : Row h n e .i64 (.slice (some ⟨b, 0, none⟩) m m) xs := by
  subst hm
  exact .inr ⟨b, 0, xs.length, o, _, rfl, hg, hb, by rw [intsV_len]; omega, by rw [List.drop_zero, List.take_of_length_le (by rw [intsV_len]; omega)], Nat.le_refl _⟩
section
variable (lf d n : Nat) (h : H) (hlf : 3000000 ≤ lf)
include hlf
end
end Go.Proofs.YtdagfcflbphoiaaDoor
/- Layer 8 by the second form: the reference's counts, groups, costs. -/
namespace Go.Proofs.YtdagfcflbphoiaaDoor
set_option linter.unusedVariables false
set_option linter.unusedSimpArgs false
open Go.RowKit Ev Tb

section
variable (lf d n : Nat) (h : H) (hlf : 3000000 ≤ lf)
theorem r_most (z : Int) : Run (fun _ => False) n (evCall2 Tryd.prog gt lf (d + 1) 33 #[.int .i64 z]) h n fun v' h' n' => v' = .int .i64 (capI z) ∧ h' = h ∧ n' = n := by
  rw [sh_balerref08_most]
  refine Run.inside_ ?_
  unfold b_balerref08_most capI
  by_cases c : 1099511627776 < z
  · try simp (disch := first | omega | assumption | exact one_int _ _ | exact one_slice _ _ _ | exact one_ptr _ | exact one_bool _ | exact one_string _) only [RXA, RXB, Nat.reduceAdd, Nat.reduceLT, wrap_id, wrap_succ, wrap_pred, FX1, c]
  · try simp (disch := first | omega | assumption | exact one_int _ _ | exact one_slice _ _ _ | exact one_ptr _ | exact one_bool _ | exact one_string _) only [RXA, RXB, Nat.reduceAdd, Nat.reduceLT, wrap_id, wrap_succ, wrap_pred, FX1, c]
include hlf
end
end Go.Proofs.YtdagfcflbphoiaaDoor
/- None is cheaper: depths that merging gives cost no more than any lengths whose share is no more than one. No program in sight. -/
namespace Go.Proofs.YtdagfcflbphoiaaDoor
set_option linter.unusedVariables false
set_option linter.unusedSimpArgs false
open Hu

end Go.Proofs.YtdagfcflbphoiaaDoor
/- The statements LensOrder and LensCheap, walked by the second form. -/
namespace Go.Proofs.YtdagfcflbphoiaaDoor
set_option linter.unusedVariables false
set_option linter.unusedSimpArgs false
open Go.RowKit Ev Hu

theorem ext0 (a b : Value) : evExtract (.tuple #[a, b]) 0 = some a := rfl
theorem ext1 (a b : Value) : evExtract (.tuple #[a, b]) 1 = some b := rfl
theorem mem_getD {xs : List Int} {i : Nat} (h : i < xs.length) : xs.getD i 0 ∈ xs := by
  rw [List.getD_eq_getElem?_getD, List.getElem?_eq_getElem h]
  exact List.getElem_mem _
end Go.Proofs.YtdagfcflbphoiaaDoor
/- The closed test of layer 12, run quickly. -/
namespace Go.Proofs.YtdagfcflbphoiaaDoor
set_option linter.unusedVariables false
set_option linter.unusedSimpArgs false
open Go.RowKit Ev

theorem ev_names : Ev.okNames Tryd.prog = true := by kernel_rfl
theorem ev_prog0 : Ev.okProg Tryd.prog Fa.kn0 = true := by kernel_rfl
theorem ev_progK : Ev.okProg Tryd.prog Ev.KN = true := by kernel_rfl
theorem ev_mix : Tryd.prog.follows .mixedOrders = true := by kernel_rfl
theorem okd0 : okDsts Tryd.prog = true := by kernel_rfl
theorem nat_known : Ev.NatKnown Tryd.prog := by
  intro f k hf
  simp [natOf, NV, natIn] at hf
theorem bad_known : Ev.Known Tryd.prog Fa.kn0 := ⟨fun f hf => by simp [Fa.kn0] at hf, nat_known⟩
/-- what the laid variable holds -/
def gV : List Value := [.int .i64 200, .int .i64 600, .int .i64 1200, .int .i64 2400]
def hG : H := H.set .nil 0 (some ⟨3, false, gV⟩)
theorem laid_hG {w : World} (x : Ev.GlobAt w) : ∃ m, Laid Tryd.prog w m hG Tryd.prog.globals.size := by
  refine laid_KG x (by decide +kernel) (sz := 1) (by kernel_rfl) (by decide) (fun k v hk => ?_) (by decide)
  match k, hk with
  | 0, hk => cases hk; simp [KG]
  | 1, hk => cases hk; simp [KG]
  | 2, hk => cases hk; simp [KG]
  | 3, hk => cases hk; simp [KG]
set_option maxRecDepth 100000 in
theorem q_three : Ev.yieldsTrue ((inside (Fa.F_balerlaw12_three 100000 1000 (Fa.fast 100000 1000))) hG Tryd.prog.globals.size) = true := by kernel_rfl
theorem l_three (w : World) (x : Ev.GlobAt w) : Calls Tryd.prog 8 #[] w fun e w' => e = .returned (.bool true) ∧ Below w.heap.size w w' := by
  obtain ⟨m, x⟩ := laid_hG x
  refine Ev.closedN (kn := Fa.kn0) ev_names ev_prog0 ev_mix bad_known okd0 x (gt := Fa.gtA) (lf := 100000) (d := 1001) ?_
  have := q_three
  rw [Fa.fast_eq, Fa.fsh_balerlaw12_three] at this
  exact this
theorem known : Ev.Known Tryd.prog Ev.KN := ⟨fun f hf hn hp w x => by
  have : f = 8 := by simpa [Ev.KN] using hf
  subst this
  exact l_three w x, nat_known⟩

end Go.Proofs.YtdagfcflbphoiaaDoor
/- The laid variable of a door seat: what it holds. -/
namespace Go.Proofs.YtdagfcflbphoiaaDoor
set_option linter.unusedVariables false
set_option linter.unusedSimpArgs false
open Go Go.RowKit Go.WideShapes Go.ChangeShapes Go.MakeChecks

theorem gn_b : Tryd.prog.globalNamed "baler/tables.bounds" = some 0 := by kernel_rfl
theorem gt_b : (Tryd.prog.globals[0]?).map (·.type) = some 58 := by kernel_rfl
theorem co_i : Tryd.prog.cellsOf 3 = 1 := by kernel_rfl
theorem co_b : Tryd.prog.cellsOf 58 = 4 := by kernel_rfl
set_option maxRecDepth 10000 in
theorem glob_of_laid {w : World} (hL : laidMetH Tryd.prog [("baler/tables.bounds", Rows.laid_baler_tables_bounds)] w) : Ev.GlobAt w := by
  rw [laidMetH_plain _ _ _ rfl] at hL
  obtain ⟨ps, ⟨g, t, cs, fuel, p, q, hg, ht, hv, hx, _⟩, _⟩ := hL
  rw [gn_b] at hg
  cases hg
  rw [gt_b] at ht
  cases ht
  unfold World.var? at hv
  rw [gn_b] at hv
  simp only [Option.bind_some] at hv
  split at hv
  · rename_i cs' e' fr' hw
    cases hv
    obtain ⟨xs, m, rfl, hx1, hlen, hxn, hall⟩ := DataW.trod_array Tryd.underlying58 hx
    rw [co_b] at hlen
    rw [co_i] at hall
    have hc : ∀ (i : Nat) (z : Int), i < 4 → (xs.map (·.1))[i]? = some (.lit (.int .i64 z)) → w.cell? ⟨0, i, none⟩ = some (.int .i64 z) := by
      intro i z hi hz
      rw [List.getElem?_map] at hz
      cases hxi : xs[i]? with
      | none => rw [hxi] at hz; cases hz
      | some y =>
        rw [hxi] at hz
        have ha := hall i hi
        rw [hxi] at ha
        obtain ⟨k, h1, h2, _⟩ := DataW.trod_int Tryd.underlying3 ha
        rw [h2] at hz
        cases hz
        have h3 : cs.toList[i]? = some (.int .i64 z) := by
          rw [Nat.mul_one, List.drop_eq_getElem_cons (by omega), List.take_succ_cons, List.take_zero] at h1
          rw [List.getElem?_eq_getElem (by omega)]
          exact congrArg some (List.cons.inj h1).1
        unfold World.cell?
        simp only [hw]
        simpa using h3
    have hm : xs.map (·.1) = [.lit (.int .i64 200), .lit (.int .i64 600), .lit (.int .i64 1200), .lit (.int .i64 2400)] := by
      have := congrArg Prod.fst hx1
      simp only [Rows.laid_baler_tables_bounds] at this
      injection this with this
      exact this.symm
    rw [hm] at hc
    intro g hg
    have : g = (0, 0, .int .i64 200) ∨ g = (0, 1, .int .i64 600) ∨ g = (0, 2, .int .i64 1200) ∨ g = (0, 3, .int .i64 2400) := by simpa [Ev.KG] using hg
    rcases this with rfl | rfl | rfl | rfl
    · exact hc 0 200 (by decide) rfl
    · exact hc 1 600 (by decide) rfl
    · exact hc 2 1200 (by decide) rfl
    · exact hc 3 2400 (by decide) rfl
  · cases hv

end Go.Proofs.YtdagfcflbphoiaaDoor
/- From the second form to calls, in a seat whose tables are laid. -/
namespace Go.Proofs.YtdagfcflbphoiaaDoor
set_option linter.unusedVariables false
set_option linter.unusedSimpArgs false
open Go.RowKit Ev

/-- the laid variable is there -/
def Gd (h : H) (n : Nat) : Prop := h.get 0 = some ⟨3, false, gV⟩ ∧ 0 < n
theorem Gd.keep {h h' : H} {n n' : Nat} (x : Gd h n) (hn : n ≤ n') (hk : ∀ b, b < n → h'.get b = h.get b) : Gd h' n' := ⟨(hk _ x.2).trans x.1, Nat.lt_of_lt_of_le x.2 hn⟩
theorem Gd.of {h : H} {n : Nat} (hn : Tryd.prog.globals.size ≤ n) (hg : h.get 0 = some ⟨3, false, gV⟩) : Gd h n := ⟨hg, Nat.lt_of_lt_of_le (by decide +kernel) hn⟩
theorem k_three (lf d n : Nat) (h : H) (x : Gd h n) : Run (fun _ => False) n (evCall2 Tryd.prog gt lf (d + 1) 8 #[]) h n fun v' h' n' => v' = .bool true ∧ h' = h ∧ n' = n := by
  obtain ⟨hg, hn⟩ := x
  have e : evCall2 Tryd.prog gt lf (d + 1) 8 #[] = (chkG Tryd.prog KG).bind fun _ => M.ret (.bool true) := by kernel_rfl
  rw [e]
  have rdg : ∀ (k : Nat) (v : Value), gV[k]? = some v → rd 0 k h n = some ⟨v, h, n, [⟨false, 0, some k⟩]⟩ := fun k v hk => by
    unfold rd
    simp only [hn, hg, hk, if_true]
  have hsz : decide (0 < Tryd.prog.globals.size) = true := by decide +kernel
  have stp : ∀ (k : Nat) (x : Int) (l : List (Nat × Nat × Value)) (L : List En), gV[k]? = some (.int .i64 x) → chkG Tryd.prog l h n = some ⟨(), h, n, L⟩ → chkG Tryd.prog ((0, k, .int .i64 x) :: l) h n = some ⟨(), h, n, [⟨false, 0, some k⟩] ++ L⟩ := fun k x l L hk hl => by
    unfold chkG
    refine bind_run (rdg k _ hk) ?_
    simp only [hsz, sameI, decide_true, Bool.and_self, if_true]
    exact hl
  have c := stp 0 200 _ _ rfl (stp 1 600 _ _ rfl (stp 2 1200 _ _ rfl (stp 3 2400 [] [] rfl rfl)))
  refine Run.step c (Nat.le_refl _) (by simp) ?_
  rw [run_ret]
  exact ⟨rfl, rfl, rfl⟩
theorem run_three {lf d n n0 : Nat} {h : H} {W : Nat → Prop} (hn : n0 ≤ n) (x : Gd h n) : Run W n0 ((inside (evCall2 Tryd.prog gt lf (d + 1) 8 #[])).bind fun v => outK [v]) h n fun v _ _ => v = .bool true := by
  refine run_same (k_three lf d n h x) hn (fun _ _ h => h.elim) ?_
  rw [run_out1]

end Go.Proofs.YtdagfcflbphoiaaDoor
/- Layer 12 by the second form: how many tables, groups, picks. -/
namespace Go.Proofs.YtdagfcflbphoiaaDoor
set_option linter.unusedVariables false
set_option linter.unusedSimpArgs false
open Go.RowKit Ev Tb

section
variable (lf d n : Nat) (h : H) (hlf : 3000000 ≤ lf)
theorem r_Number (z : Int) : Run (fun _ => False) n (evCall2 Tryd.prog gt lf (d + 1) 16 #[.int .i64 z]) h n fun v' h' n' => v' = .int .i64 (numL z : Int) ∧ h' = h ∧ n' = n := by
  rw [sh_balerref12_Number]
  refine Run.inside_ ?_
  unfold b_balerref12_Number numL
  by_cases c1 : z < 200
  · try simp (disch := first | omega | assumption | exact one_int _ _ | exact one_slice _ _ _ | exact one_ptr _ | exact one_bool _ | exact one_string _) only [RXA, RXB, Nat.reduceAdd, Nat.reduceLT, wrap_id, wrap_succ, wrap_pred, FX1, c1]
    all_goals (first | rfl | exact ⟨rfl, rfl, rfl⟩ | exact ⟨rfl, rfl⟩)
  · by_cases c2 : z < 600
    · try simp (disch := first | omega | assumption | exact one_int _ _ | exact one_slice _ _ _ | exact one_ptr _ | exact one_bool _ | exact one_string _) only [RXA, RXB, Nat.reduceAdd, Nat.reduceLT, wrap_id, wrap_succ, wrap_pred, FX1, c1, c2]
      all_goals (first | rfl | exact ⟨rfl, rfl, rfl⟩ | exact ⟨rfl, rfl⟩)
    · by_cases c3 : z < 1200
      · try simp (disch := first | omega | assumption | exact one_int _ _ | exact one_slice _ _ _ | exact one_ptr _ | exact one_bool _ | exact one_string _) only [RXA, RXB, Nat.reduceAdd, Nat.reduceLT, wrap_id, wrap_succ, wrap_pred, FX1, c1, c2, c3]
        all_goals (first | rfl | exact ⟨rfl, rfl, rfl⟩ | exact ⟨rfl, rfl⟩)
      · by_cases c4 : z < 2400
        · try simp (disch := first | omega | assumption | exact one_int _ _ | exact one_slice _ _ _ | exact one_ptr _ | exact one_bool _ | exact one_string _) only [RXA, RXB, Nat.reduceAdd, Nat.reduceLT, wrap_id, wrap_succ, wrap_pred, FX1, c1, c2, c3, c4]
          all_goals (first | rfl | exact ⟨rfl, rfl, rfl⟩ | exact ⟨rfl, rfl⟩)
        · try simp (disch := first | omega | assumption | exact one_int _ _ | exact one_slice _ _ _ | exact one_ptr _ | exact one_bool _ | exact one_string _) only [RXA, RXB, Nat.reduceAdd, Nat.reduceLT, wrap_id, wrap_succ, wrap_pred, FX1, c1, c2, c3, c4]
          all_goals (first | rfl | exact ⟨rfl, rfl, rfl⟩ | exact ⟨rfl, rfl⟩)
theorem bix0 : index2 Tryd.prog 58 (.agg #[.int .i64 200, .int .i64 600, .int .i64 1200, .int .i64 2400]) (.int .i64 0) = some (.int .i64 200) := by kernel_rfl
theorem bix1 : index2 Tryd.prog 58 (.agg #[.int .i64 200, .int .i64 600, .int .i64 1200, .int .i64 2400]) (.int .i64 1) = some (.int .i64 600) := by kernel_rfl
theorem bix2 : index2 Tryd.prog 58 (.agg #[.int .i64 200, .int .i64 600, .int .i64 1200, .int .i64 2400]) (.int .i64 2) = some (.int .i64 1200) := by kernel_rfl
theorem bix3 : index2 Tryd.prog 58 (.agg #[.int .i64 200, .int .i64 600, .int .i64 1200, .int .i64 2400]) (.int .i64 3) = some (.int .i64 2400) := by kernel_rfl
theorem s_Number (z : Int) (g : Gd h n) (hf : 5 ≤ lf) : Run (fun _ => False) n (evCall2 Tryd.prog gt lf (d + 1) 19 #[.int .i64 z]) h n fun v' h' n' => v' = .int .i64 (numL z : Int) ∧ h' = h ∧ n' = n := by
  rw [sh_tables_Number]
  refine Run.inside_ ?_
  unfold b_tables_Number
  refine run_lda aga58 sz58 0 0 _ g.1 g.2 (by decide) ?_
  have go : ∀ F, 5 ≤ F → Run (fun _ => False) n (lpA_tables_Number lf d F (kcA_tables_Number lf d) (.int .i64 z) (.int .i64 0) (.int .i64 2) (.agg #[.int .i64 200, .int .i64 600, .int .i64 1200, .int .i64 2400]) (.int .i64 0)) h n fun v' h' n' => v' = .int .i64 (numL z : Int) ∧ h' = h ∧ n' = n := by
    intro F hF
    obtain ⟨F, rfl⟩ : ∃ f, F = f + 1 + 1 + 1 + 1 + 1 := ⟨F - 5, by omega⟩
    have w : ∀ x : Int, 0 ≤ x → x < 100 → IntKind.i64.wrap (x + 1) = x + 1 := fun x h0 h1 => wrap_id (by omega) (by omega)
    unfold numL
    by_cases c1 : z < 200
    · have d1 : ¬ (200 ≤ z) := by omega
      have d2 : ¬ (600 ≤ z) := by omega
      have d3 : ¬ (1200 ≤ z) := by omega
      have d4 : ¬ (2400 ≤ z) := by omega
      rw [succA_tables_Number]
      try simp (disch := first | omega | assumption | exact one_int _ _ | exact one_slice _ _ _ | exact one_ptr _ | exact one_bool _ | exact one_string _) only [RXA, RXB, Nat.reduceAdd, Nat.reduceLT, wrap_id, wrap_succ, wrap_pred, FX1, Int.reduceBEq, Int.reduceBNe, Int.reduceLT, Int.reduceLE, Int.reduceEq, Int.reduceNe, Int.reduceAdd, Int.reduceSub, Int.reduceMul, Int.reduceNeg, bix0, d1]
      rw [succA_tables_Number]
      try simp (disch := first | omega | assumption | exact one_int _ _ | exact one_slice _ _ _ | exact one_ptr _ | exact one_bool _ | exact one_string _) only [RXA, RXB, Nat.reduceAdd, Nat.reduceLT, wrap_id, wrap_succ, wrap_pred, FX1, Int.reduceBEq, Int.reduceBNe, Int.reduceLT, Int.reduceLE, Int.reduceEq, Int.reduceNe, Int.reduceAdd, Int.reduceSub, Int.reduceMul, Int.reduceNeg, bix1, d2]
      rw [succA_tables_Number]
      try simp (disch := first | omega | assumption | exact one_int _ _ | exact one_slice _ _ _ | exact one_ptr _ | exact one_bool _ | exact one_string _) only [RXA, RXB, Nat.reduceAdd, Nat.reduceLT, wrap_id, wrap_succ, wrap_pred, FX1, Int.reduceBEq, Int.reduceBNe, Int.reduceLT, Int.reduceLE, Int.reduceEq, Int.reduceNe, Int.reduceAdd, Int.reduceSub, Int.reduceMul, Int.reduceNeg, bix2, d3]
      rw [succA_tables_Number]
      try simp (disch := first | omega | assumption | exact one_int _ _ | exact one_slice _ _ _ | exact one_ptr _ | exact one_bool _ | exact one_string _) only [RXA, RXB, Nat.reduceAdd, Nat.reduceLT, wrap_id, wrap_succ, wrap_pred, FX1, Int.reduceBEq, Int.reduceBNe, Int.reduceLT, Int.reduceLE, Int.reduceEq, Int.reduceNe, Int.reduceAdd, Int.reduceSub, Int.reduceMul, Int.reduceNeg, bix3, d4]
      rw [succA_tables_Number]
      try simp (disch := first | omega | assumption | exact one_int _ _ | exact one_slice _ _ _ | exact one_ptr _ | exact one_bool _ | exact one_string _) only [RXA, RXB, Nat.reduceAdd, Nat.reduceLT, wrap_id, wrap_succ, wrap_pred, FX1, Int.reduceBEq, Int.reduceBNe, Int.reduceLT, Int.reduceLE, Int.reduceEq, Int.reduceNe, Int.reduceAdd, Int.reduceSub, Int.reduceMul, Int.reduceNeg]
      rw [kcAa_tables_Number]
      try simp (disch := first | omega | assumption | exact one_int _ _ | exact one_slice _ _ _ | exact one_ptr _ | exact one_bool _ | exact one_string _) only [RXA, RXB, Nat.reduceAdd, Nat.reduceLT, wrap_id, wrap_succ, wrap_pred, FX1, Int.reduceBEq, Int.reduceBNe, Int.reduceLT, Int.reduceLE, Int.reduceEq, Int.reduceNe, Int.reduceAdd, Int.reduceSub, Int.reduceMul, Int.reduceNeg, c1]
      all_goals (first | rfl | exact ⟨rfl, rfl, rfl⟩ | exact ⟨rfl, rfl⟩)
    · have d1 : 200 ≤ z := by omega
      by_cases c2 : z < 600
      · have d2 : ¬ (600 ≤ z) := by omega
        have d3 : ¬ (1200 ≤ z) := by omega
        have d4 : ¬ (2400 ≤ z) := by omega
        rw [succA_tables_Number]
        try simp (disch := first | omega | assumption | exact one_int _ _ | exact one_slice _ _ _ | exact one_ptr _ | exact one_bool _ | exact one_string _) only [RXA, RXB, Nat.reduceAdd, Nat.reduceLT, wrap_id, wrap_succ, wrap_pred, FX1, Int.reduceBEq, Int.reduceBNe, Int.reduceLT, Int.reduceLE, Int.reduceEq, Int.reduceNe, Int.reduceAdd, Int.reduceSub, Int.reduceMul, Int.reduceNeg, bix0, d1]
        rw [succA_tables_Number]
        try simp (disch := first | omega | assumption | exact one_int _ _ | exact one_slice _ _ _ | exact one_ptr _ | exact one_bool _ | exact one_string _) only [RXA, RXB, Nat.reduceAdd, Nat.reduceLT, wrap_id, wrap_succ, wrap_pred, FX1, Int.reduceBEq, Int.reduceBNe, Int.reduceLT, Int.reduceLE, Int.reduceEq, Int.reduceNe, Int.reduceAdd, Int.reduceSub, Int.reduceMul, Int.reduceNeg, bix1, d2]
        rw [succA_tables_Number]
        try simp (disch := first | omega | assumption | exact one_int _ _ | exact one_slice _ _ _ | exact one_ptr _ | exact one_bool _ | exact one_string _) only [RXA, RXB, Nat.reduceAdd, Nat.reduceLT, wrap_id, wrap_succ, wrap_pred, FX1, Int.reduceBEq, Int.reduceBNe, Int.reduceLT, Int.reduceLE, Int.reduceEq, Int.reduceNe, Int.reduceAdd, Int.reduceSub, Int.reduceMul, Int.reduceNeg, bix2, d3]
        rw [succA_tables_Number]
        try simp (disch := first | omega | assumption | exact one_int _ _ | exact one_slice _ _ _ | exact one_ptr _ | exact one_bool _ | exact one_string _) only [RXA, RXB, Nat.reduceAdd, Nat.reduceLT, wrap_id, wrap_succ, wrap_pred, FX1, Int.reduceBEq, Int.reduceBNe, Int.reduceLT, Int.reduceLE, Int.reduceEq, Int.reduceNe, Int.reduceAdd, Int.reduceSub, Int.reduceMul, Int.reduceNeg, bix3, d4]
        rw [succA_tables_Number]
        try simp (disch := first | omega | assumption | exact one_int _ _ | exact one_slice _ _ _ | exact one_ptr _ | exact one_bool _ | exact one_string _) only [RXA, RXB, Nat.reduceAdd, Nat.reduceLT, wrap_id, wrap_succ, wrap_pred, FX1, Int.reduceBEq, Int.reduceBNe, Int.reduceLT, Int.reduceLE, Int.reduceEq, Int.reduceNe, Int.reduceAdd, Int.reduceSub, Int.reduceMul, Int.reduceNeg]
        rw [kcAa_tables_Number]
        try simp (disch := first | omega | assumption | exact one_int _ _ | exact one_slice _ _ _ | exact one_ptr _ | exact one_bool _ | exact one_string _) only [RXA, RXB, Nat.reduceAdd, Nat.reduceLT, wrap_id, wrap_succ, wrap_pred, FX1, Int.reduceBEq, Int.reduceBNe, Int.reduceLT, Int.reduceLE, Int.reduceEq, Int.reduceNe, Int.reduceAdd, Int.reduceSub, Int.reduceMul, Int.reduceNeg, c1, c2]
        all_goals (first | rfl | exact ⟨rfl, rfl, rfl⟩ | exact ⟨rfl, rfl⟩)
      · have d2 : 600 ≤ z := by omega
        by_cases c3 : z < 1200
        · have d3 : ¬ (1200 ≤ z) := by omega
          have d4 : ¬ (2400 ≤ z) := by omega
          rw [succA_tables_Number]
          try simp (disch := first | omega | assumption | exact one_int _ _ | exact one_slice _ _ _ | exact one_ptr _ | exact one_bool _ | exact one_string _) only [RXA, RXB, Nat.reduceAdd, Nat.reduceLT, wrap_id, wrap_succ, wrap_pred, FX1, Int.reduceBEq, Int.reduceBNe, Int.reduceLT, Int.reduceLE, Int.reduceEq, Int.reduceNe, Int.reduceAdd, Int.reduceSub, Int.reduceMul, Int.reduceNeg, bix0, d1]
          rw [succA_tables_Number]
          try simp (disch := first | omega | assumption | exact one_int _ _ | exact one_slice _ _ _ | exact one_ptr _ | exact one_bool _ | exact one_string _) only [RXA, RXB, Nat.reduceAdd, Nat.reduceLT, wrap_id, wrap_succ, wrap_pred, FX1, Int.reduceBEq, Int.reduceBNe, Int.reduceLT, Int.reduceLE, Int.reduceEq, Int.reduceNe, Int.reduceAdd, Int.reduceSub, Int.reduceMul, Int.reduceNeg, bix1, d2]
          rw [succA_tables_Number]
          try simp (disch := first | omega | assumption | exact one_int _ _ | exact one_slice _ _ _ | exact one_ptr _ | exact one_bool _ | exact one_string _) only [RXA, RXB, Nat.reduceAdd, Nat.reduceLT, wrap_id, wrap_succ, wrap_pred, FX1, Int.reduceBEq, Int.reduceBNe, Int.reduceLT, Int.reduceLE, Int.reduceEq, Int.reduceNe, Int.reduceAdd, Int.reduceSub, Int.reduceMul, Int.reduceNeg, bix2, d3]
          rw [succA_tables_Number]
          try simp (disch := first | omega | assumption | exact one_int _ _ | exact one_slice _ _ _ | exact one_ptr _ | exact one_bool _ | exact one_string _) only [RXA, RXB, Nat.reduceAdd, Nat.reduceLT, wrap_id, wrap_succ, wrap_pred, FX1, Int.reduceBEq, Int.reduceBNe, Int.reduceLT, Int.reduceLE, Int.reduceEq, Int.reduceNe, Int.reduceAdd, Int.reduceSub, Int.reduceMul, Int.reduceNeg, bix3, d4]
          rw [succA_tables_Number]
          try simp (disch := first | omega | assumption | exact one_int _ _ | exact one_slice _ _ _ | exact one_ptr _ | exact one_bool _ | exact one_string _) only [RXA, RXB, Nat.reduceAdd, Nat.reduceLT, wrap_id, wrap_succ, wrap_pred, FX1, Int.reduceBEq, Int.reduceBNe, Int.reduceLT, Int.reduceLE, Int.reduceEq, Int.reduceNe, Int.reduceAdd, Int.reduceSub, Int.reduceMul, Int.reduceNeg]
          rw [kcAa_tables_Number]
          try simp (disch := first | omega | assumption | exact one_int _ _ | exact one_slice _ _ _ | exact one_ptr _ | exact one_bool _ | exact one_string _) only [RXA, RXB, Nat.reduceAdd, Nat.reduceLT, wrap_id, wrap_succ, wrap_pred, FX1, Int.reduceBEq, Int.reduceBNe, Int.reduceLT, Int.reduceLE, Int.reduceEq, Int.reduceNe, Int.reduceAdd, Int.reduceSub, Int.reduceMul, Int.reduceNeg, c1, c2, c3]
          all_goals (first | rfl | exact ⟨rfl, rfl, rfl⟩ | exact ⟨rfl, rfl⟩)
        · have d3 : 1200 ≤ z := by omega
          by_cases c4 : z < 2400
          · have d4 : ¬ (2400 ≤ z) := by omega
            rw [succA_tables_Number]
            try simp (disch := first | omega | assumption | exact one_int _ _ | exact one_slice _ _ _ | exact one_ptr _ | exact one_bool _ | exact one_string _) only [RXA, RXB, Nat.reduceAdd, Nat.reduceLT, wrap_id, wrap_succ, wrap_pred, FX1, Int.reduceBEq, Int.reduceBNe, Int.reduceLT, Int.reduceLE, Int.reduceEq, Int.reduceNe, Int.reduceAdd, Int.reduceSub, Int.reduceMul, Int.reduceNeg, bix0, d1]
            rw [succA_tables_Number]
            try simp (disch := first | omega | assumption | exact one_int _ _ | exact one_slice _ _ _ | exact one_ptr _ | exact one_bool _ | exact one_string _) only [RXA, RXB, Nat.reduceAdd, Nat.reduceLT, wrap_id, wrap_succ, wrap_pred, FX1, Int.reduceBEq, Int.reduceBNe, Int.reduceLT, Int.reduceLE, Int.reduceEq, Int.reduceNe, Int.reduceAdd, Int.reduceSub, Int.reduceMul, Int.reduceNeg, bix1, d2]
            rw [succA_tables_Number]
            try simp (disch := first | omega | assumption | exact one_int _ _ | exact one_slice _ _ _ | exact one_ptr _ | exact one_bool _ | exact one_string _) only [RXA, RXB, Nat.reduceAdd, Nat.reduceLT, wrap_id, wrap_succ, wrap_pred, FX1, Int.reduceBEq, Int.reduceBNe, Int.reduceLT, Int.reduceLE, Int.reduceEq, Int.reduceNe, Int.reduceAdd, Int.reduceSub, Int.reduceMul, Int.reduceNeg, bix2, d3]
            rw [succA_tables_Number]
            try simp (disch := first | omega | assumption | exact one_int _ _ | exact one_slice _ _ _ | exact one_ptr _ | exact one_bool _ | exact one_string _) only [RXA, RXB, Nat.reduceAdd, Nat.reduceLT, wrap_id, wrap_succ, wrap_pred, FX1, Int.reduceBEq, Int.reduceBNe, Int.reduceLT, Int.reduceLE, Int.reduceEq, Int.reduceNe, Int.reduceAdd, Int.reduceSub, Int.reduceMul, Int.reduceNeg, bix3, d4]
            rw [succA_tables_Number]
            try simp (disch := first | omega | assumption | exact one_int _ _ | exact one_slice _ _ _ | exact one_ptr _ | exact one_bool _ | exact one_string _) only [RXA, RXB, Nat.reduceAdd, Nat.reduceLT, wrap_id, wrap_succ, wrap_pred, FX1, Int.reduceBEq, Int.reduceBNe, Int.reduceLT, Int.reduceLE, Int.reduceEq, Int.reduceNe, Int.reduceAdd, Int.reduceSub, Int.reduceMul, Int.reduceNeg]
            rw [kcAa_tables_Number]
            try simp (disch := first | omega | assumption | exact one_int _ _ | exact one_slice _ _ _ | exact one_ptr _ | exact one_bool _ | exact one_string _) only [RXA, RXB, Nat.reduceAdd, Nat.reduceLT, wrap_id, wrap_succ, wrap_pred, FX1, Int.reduceBEq, Int.reduceBNe, Int.reduceLT, Int.reduceLE, Int.reduceEq, Int.reduceNe, Int.reduceAdd, Int.reduceSub, Int.reduceMul, Int.reduceNeg, c1, c2, c3, c4]
            all_goals (first | rfl | exact ⟨rfl, rfl, rfl⟩ | exact ⟨rfl, rfl⟩)
          · have d4 : 2400 ≤ z := by omega
            rw [succA_tables_Number]
            try simp (disch := first | omega | assumption | exact one_int _ _ | exact one_slice _ _ _ | exact one_ptr _ | exact one_bool _ | exact one_string _) only [RXA, RXB, Nat.reduceAdd, Nat.reduceLT, wrap_id, wrap_succ, wrap_pred, FX1, Int.reduceBEq, Int.reduceBNe, Int.reduceLT, Int.reduceLE, Int.reduceEq, Int.reduceNe, Int.reduceAdd, Int.reduceSub, Int.reduceMul, Int.reduceNeg, bix0, d1]
            rw [succA_tables_Number]
            try simp (disch := first | omega | assumption | exact one_int _ _ | exact one_slice _ _ _ | exact one_ptr _ | exact one_bool _ | exact one_string _) only [RXA, RXB, Nat.reduceAdd, Nat.reduceLT, wrap_id, wrap_succ, wrap_pred, FX1, Int.reduceBEq, Int.reduceBNe, Int.reduceLT, Int.reduceLE, Int.reduceEq, Int.reduceNe, Int.reduceAdd, Int.reduceSub, Int.reduceMul, Int.reduceNeg, bix1, d2]
            rw [succA_tables_Number]
            try simp (disch := first | omega | assumption | exact one_int _ _ | exact one_slice _ _ _ | exact one_ptr _ | exact one_bool _ | exact one_string _) only [RXA, RXB, Nat.reduceAdd, Nat.reduceLT, wrap_id, wrap_succ, wrap_pred, FX1, Int.reduceBEq, Int.reduceBNe, Int.reduceLT, Int.reduceLE, Int.reduceEq, Int.reduceNe, Int.reduceAdd, Int.reduceSub, Int.reduceMul, Int.reduceNeg, bix2, d3]
            rw [succA_tables_Number]
            try simp (disch := first | omega | assumption | exact one_int _ _ | exact one_slice _ _ _ | exact one_ptr _ | exact one_bool _ | exact one_string _) only [RXA, RXB, Nat.reduceAdd, Nat.reduceLT, wrap_id, wrap_succ, wrap_pred, FX1, Int.reduceBEq, Int.reduceBNe, Int.reduceLT, Int.reduceLE, Int.reduceEq, Int.reduceNe, Int.reduceAdd, Int.reduceSub, Int.reduceMul, Int.reduceNeg, bix3, d4]
            rw [succA_tables_Number]
            try simp (disch := first | omega | assumption | exact one_int _ _ | exact one_slice _ _ _ | exact one_ptr _ | exact one_bool _ | exact one_string _) only [RXA, RXB, Nat.reduceAdd, Nat.reduceLT, wrap_id, wrap_succ, wrap_pred, FX1, Int.reduceBEq, Int.reduceBNe, Int.reduceLT, Int.reduceLE, Int.reduceEq, Int.reduceNe, Int.reduceAdd, Int.reduceSub, Int.reduceMul, Int.reduceNeg]
            rw [kcAa_tables_Number]
            try simp (disch := first | omega | assumption | exact one_int _ _ | exact one_slice _ _ _ | exact one_ptr _ | exact one_bool _ | exact one_string _) only [RXA, RXB, Nat.reduceAdd, Nat.reduceLT, wrap_id, wrap_succ, wrap_pred, FX1, Int.reduceBEq, Int.reduceBNe, Int.reduceLT, Int.reduceLE, Int.reduceEq, Int.reduceNe, Int.reduceAdd, Int.reduceSub, Int.reduceMul, Int.reduceNeg, c1, c2, c3, c4]
            all_goals (first | rfl | exact ⟨rfl, rfl, rfl⟩ | exact ⟨rfl, rfl⟩)
  exact go lf hf

include hlf
end
end Go.Proofs.YtdagfcflbphoiaaDoor
/- Layers 8 and 12 by the second form: the reference's groups; the tables at first. -/
namespace Go.Proofs.YtdagfcflbphoiaaDoor
set_option linter.unusedVariables false
set_option linter.unusedSimpArgs false
open Go.RowKit Ev Tb

section
variable (lf d n : Nat) (h : H) (hlf : 3000000 ≤ lf)
include hlf
end
end Go.Proofs.YtdagfcflbphoiaaDoor
/- Layer 12 by the second form: the tables at first. -/
namespace Go.Proofs.YtdagfcflbphoiaaDoor
set_option linter.unusedVariables false
set_option linter.unusedSimpArgs false
open Go.RowKit Ev Tb

theorem map_gd {α : Type} (d : α) (f : Nat → α) {N i : Nat} (h : i < N) : ((List.range N).map f).getD i d = f i := by
  rw [List.getD_eq_getElem?_getD, List.getElem?_map, List.getElem?_range h]
  rfl
/-- table p when the first v symbols are told -/
def fpart (counts : List Int) (z : Int) (p v : Nat) : List Int := (List.range counts.length).map fun u => if u < v then (if mineL counts z u = p then 0 else 15) else 0
theorem fpart_len (counts : List Int) (z : Int) (p v : Nat) : (fpart counts z p v).length = counts.length := by unfold fpart; simp
theorem fpart_0 (counts : List Int) (z : Int) (p : Nat) : fpart counts z p 0 = List.replicate counts.length 0 := by
  apply List.ext_getElem
  · simp [fpart_len]
  · intro i h1 h2; simp [fpart]
theorem fpart_all (counts : List Int) (z : Int) (p : Nat) : fpart counts z p counts.length = firstT counts z p := by
  unfold fpart firstT
  apply List.map_congr_left
  intro u hu
  rw [if_pos (List.mem_range.1 hu)]
theorem fpart_mine {counts : List Int} {z : Int} {p v : Nat} (hm : mineL counts z v = p) : fpart counts z p (v + 1) = fpart counts z p v := by
  unfold fpart
  apply List.map_congr_left
  intro u hu
  by_cases c : u < v
  · rw [if_pos c, if_pos (show u < v + 1 by omega)]
  · by_cases c2 : u = v
    · subst c2
      rw [if_pos (show u < u + 1 by omega), if_pos hm, if_neg (Nat.lt_irrefl u)]
    · rw [if_neg c, if_neg (show ¬ u < v + 1 by omega)]
theorem fpart_set {counts : List Int} {z : Int} {p v : Nat} (hv : v < counts.length) (hm : mineL counts z v ≠ p) : (fpart counts z p v).set v 15 = fpart counts z p (v + 1) := by
  apply List.ext_getElem
  · simp [fpart_len]
  · intro i h1 h2
    rw [List.getElem_set]
    simp only [fpart, List.getElem_map, List.getElem_range]
    by_cases c : v = i
    · subst c; rw [if_pos rfl, if_pos (show v < v + 1 by omega), if_neg hm]
    · rw [if_neg c]
      by_cases c2 : i < v
      · rw [if_pos c2, if_pos (show i < v + 1 by omega)]
      · rw [if_neg c2, if_neg (show ¬ i < v + 1 by omega)]
section
variable (lf d n : Nat) (h : H) (hlf : 3000000 ≤ lf)
include hlf
theorem s_first (v : Value) (xs : List Int) (z : Int) (g : Gd h n) (hR : Row h n 3 .i64 v xs) (hl : xs.length ≤ 258) (hx : ∀ x ∈ xs, 0 ≤ x ∧ x ≤ 1099511627776) (hz : 1 ≤ z) (hz2 : z ≤ 1099511627776) :
    Run (fun _ => False) n (evCall2 Tryd.prog gt lf (d + 2) 36 #[v, .int .i64 z]) h n fun v' h' n' => RR h' n' 22 3 v' (firstL xs z) := by
  rw [sh_tables_first]
  refine Run.inside_ ?_
  unfold b_tables_first
  have hR0 := hR
  obtain ⟨a, c, rfl⟩ := hR.len
  refine run_same (s_Number lf d n h z g (by omega)) (Nat.le_refl _) (fun _ _ h => h.elim) ?_
  have ht := numL_ge z
  obtain ⟨t, htt⟩ : ∃ t, numL z = t := ⟨_, rfl⟩
  rw [htt] at ht ⊢
  refine Ev.run_make c1x23 t t _ (Nat.le_refl _) (by omega) ?_
  try simp (disch := first | omega | assumption | exact one_int _ _ | exact one_slice _ _ _ | exact one_ptr _ | exact one_bool _ | exact one_string _) only [RXA, RXB, Nat.reduceAdd, Nat.reduceLT, wrap_id, wrap_succ, wrap_pred, FX1]
  let cel : Nat → Value := fun j => .slice (some ⟨n + 1 + j, 0, none⟩) xs.length xs.length
  refine run_for t (fun fu i (_ : Unit) => lpA_tables_first lf (d + 1) fu (kcA_tables_first lf (d + 1)) (.slice a xs.length c) (.int .i64 z) (.slice none 0 0) (.int .i64 (t : Nat)) (.slice (some ⟨n, 0, none⟩) t t) (.int .i64 (t : Nat)) (.int .i64 (i : Nat)))
    (fun i _ h' n' => n' = n + 1 + i ∧ (∀ b, b < n → h'.get b = h.get b) ∧ h'.get n = some ⟨22, true, rc cel (.slice none 0 0) t i⟩ ∧ ∀ j, j < i → h'.get (n + 1 + j) = some ⟨3, true, intsV .i64 (List.replicate xs.length 0)⟩) ?_ ?_ lf 0 () _ _ (Nat.zero_le _) (by omega) ⟨rfl, fun b hb => get_ne _ _ (by omega), by rw [get_eq, rc_zero], fun j hj => absurd hj (Nat.not_lt_zero j)⟩
  · rintro fu _ h' n' ⟨rfl, hk, hg, hj⟩
    rw [succA_tables_first]
    try simp (disch := first | omega | assumption | exact one_int _ _ | exact one_slice _ _ _ | exact one_ptr _ | exact one_bool _ | exact one_string _) only [RXA, RXB, Nat.reduceAdd, Nat.reduceLT, wrap_id, wrap_succ, wrap_pred, FX1, Int.lt_irrefl]
    rw [kcAa_tables_first]
    try simp (disch := first | omega | assumption | exact one_int _ _ | exact one_slice _ _ _ | exact one_ptr _ | exact one_bool _ | exact one_string _) only [RXA, RXB, Nat.reduceAdd, Nat.reduceLT, wrap_id, wrap_succ, wrap_pred, FX1]
    rw [rc_all] at hg
    refine run_for xs.length (fun fu i (q : Int) => lpB_tables_first lf (d + 1) fu (kcB_tables_first lf (d + 1)) (.slice a xs.length c) (.int .i64 z) (.slice none 0 0) (.int .i64 (t : Nat)) (.slice (some ⟨n, 0, none⟩) t t) (.int .i64 q) _ _ _ (.slice a xs.length c) (.int .i64 (xs.length : Nat)) (.int .i64 (i : Nat)))
      (fun i q h' n' => q = belowL xs z i ∧ n' = n + 1 + t ∧ (∀ b, b < n → h'.get b = h.get b) ∧ h'.get n = some ⟨22, true, (List.range t).map cel⟩ ∧ ∀ j, j < t → h'.get (n + 1 + j) = some ⟨3, true, intsV .i64 (fpart xs z j i)⟩) ?_ ?_ lf 0 0 _ _ (Nat.zero_le _) (by omega) ⟨by unfold belowL; simp only [List.take_zero, sumI]; rw [if_neg (by omega)], rfl, hk, hg, fun j hj2 => by rw [fpart_0]; exact hj j hj2⟩
    · rintro fu q h' n' ⟨rfl, rfl, hk, hg, hj⟩
      rw [succB_tables_first]
      try simp (disch := first | omega | assumption | exact one_int _ _ | exact one_slice _ _ _ | exact one_ptr _ | exact one_bool _ | exact one_string _) only [RXA, RXB, Nat.reduceAdd, Nat.reduceLT, wrap_id, wrap_succ, wrap_pred, FX1, Int.lt_irrefl]
      rw [kcBa_tables_first]
      try simp (disch := first | omega | assumption | exact one_int _ _ | exact one_slice _ _ _ | exact one_ptr _ | exact one_bool _ | exact one_string _) only [RXA, RXB, Nat.reduceAdd, Nat.reduceLT, wrap_id, wrap_succ, wrap_pred, FX1]
      have cl : ((List.range t).map cel).length = t := by simp
      refine ⟨(List.range t).map cel, .inr ⟨n, 0, t, true, _, by rw [cl], hg, by omega, by rw [cl]; omega, by rw [List.drop_zero, List.take_length], by rw [cl]; exact Nat.le_refl _⟩, by rw [cl, firstL_len, htt], fun j hjt => ?_⟩
      rw [firstL_len, htt] at hjt
      unfold firstL
      rw [htt, map_gd _ _ hjt, map_gd _ _ hjt, ← fpart_all]
      exact Row.ofBlk (hj j hjt) (by omega) (fpart_len _ _ _ _)
    · rintro fu i q h' n' hi ⟨rfl, rfl, hk, hg, hj⟩ next
      obtain ⟨b, off, cap, o, cs, hv, hgx, hb, _, _, _, hat⟩ := (hR0.keep (Nat.le_refl n) hk).some (by omega)
      cases hv
      have hb2 : b < n + 1 + t := by omega
      have e1 : ((i : Nat) : Int) < ((xs.length : Nat) : Int) := by omega
      have c1 := hat i hi
      obtain ⟨g0, g1⟩ := belowL_ge (fun x hx' => (hx x hx').1) hz (v := i)
      have g2 := mineL_eq (fun x hx' => (hx x hx').1) hz i
      rw [htt] at g2
      have g4 : 0 ≤ belowL xs z i * (t : Int) := Int.mul_nonneg g0 (by omega)
      have g5 : belowL xs z i * (t : Int) ≤ 1099511627776 * 6 := Int.mul_le_mul (by omega) (by omega) (by omega) (by omega)
      have w1 : IntKind.i64.wrap (belowL xs z i * (t : Int)) = belowL xs z i * (t : Int) := wrap_id (by omega) (by omega)
      have g6 : (mineL xs z i : Int) ≤ 1099511627776 * 6 := by
        have := Int.ediv_le_self z g4
        have h2 : (belowL xs z i * (t : Int)) / z = (mineL xs z i : Int) := by rw [← g2, Int.tdiv_eq_ediv_of_nonneg g4]
        omega
      have w2 : IntKind.i64.wrap (mineL xs z i : Int) = (mineL xs z i : Int) := wrap_id (by omega) (by omega)
      have z0 : z ≠ 0 := by omega
      have xb := hx _ (gd_mem hi)
      have w3 : IntKind.i64.wrap (belowL xs z i + xs.getD i 0) = belowL xs z i + xs.getD i 0 := wrap_id (by omega) (by omega)
      have w4 : IntKind.i64.wrap (z - 1) = z - 1 := wrap_id (by omega) (by omega)
      have bn := belowL_next (fun x hx' => (hx x hx').1) (n := z) hi
      rw [succB_tables_first]
      try simp (disch := first | omega | assumption | exact one_int _ _ | exact one_slice _ _ _ | exact one_ptr _ | exact one_bool _ | exact one_string _) only [RXA, RXB, Nat.reduceAdd, Nat.reduceLT, wrap_id, wrap_succ, wrap_pred, FX1, e1, hgx, c1, w1, z0, g2, w2]
      refine run_for t (fun f2 p (_ : Unit) => lpC_tables_first lf (d + 1) f2 (kcC_tables_first lf (d + 1) fu (kcB_tables_first lf (d + 1))) (.slice (some ⟨b, off, none⟩) xs.length c) (.int .i64 z) (.slice none 0 0) (.int .i64 (t : Nat)) (.slice (some ⟨n, 0, none⟩) t t) (.int .i64 (belowL xs z i)) (.int .i64 (i : Nat)) (.int .i64 (xs.getD i 0)) (.int .i64 (mineL xs z i : Nat)) _ _ _ _ _ (.int .i64 (i : Nat)) _ (.int .i64 (t : Nat)) (.int .i64 (p : Nat)))
        (fun p _ h' n' => n' = n + 1 + t ∧ (∀ b, b < n → h'.get b = h.get b) ∧ h'.get n = some ⟨22, true, (List.range t).map cel⟩ ∧ ∀ j, j < t → h'.get (n + 1 + j) = some ⟨3, true, intsV .i64 (fpart xs z j (if j < p then i + 1 else i))⟩) ?_ ?_ lf 0 () _ _ (Nat.zero_le _) (by omega) ⟨rfl, hk, hg, fun j hj2 => by rw [if_neg (Nat.not_lt_zero j)]; exact hj j hj2⟩
      · rintro f2 _ h2 n2 ⟨rfl, hk2, hg2, hj2⟩
        rw [succC_tables_first]
        try simp (disch := first | omega | assumption | exact one_int _ _ | exact one_slice _ _ _ | exact one_ptr _ | exact one_bool _ | exact one_string _) only [RXA, RXB, Nat.reduceAdd, Nat.reduceLT, wrap_id, wrap_succ, wrap_pred, FX1, Int.lt_irrefl]
        rw [kcCa_tables_first]
        try simp (disch := first | omega | assumption | exact one_int _ _ | exact one_slice _ _ _ | exact one_ptr _ | exact one_bool _ | exact one_string _) only [RXA, RXB, Nat.reduceAdd, Nat.reduceLT, wrap_id, wrap_succ, wrap_pred, FX1, w3, w4, bn]
        exact next _ _ _ ⟨rfl, rfl, hk2, hg2, fun j hj3 => by have := hj2 j hj3; rwa [if_pos hj3] at this⟩
      · rintro f2 p _ h2 n2 hp ⟨rfl, hk2, hg2, hj2⟩ next2
        have e2 : ((p : Nat) : Int) < ((t : Nat) : Int) := by omega
        have hpp := hj2 p hp
        rw [if_neg (Nat.lt_irrefl p)] at hpp
        rw [succC_tables_first]
        by_cases m : mineL xs z i = p
        · have n1 : ((p : Int) != (mineL xs z i : Int)) = false := by rw [m]; simp
          try simp (disch := first | omega | assumption | exact one_int _ _ | exact one_slice _ _ _ | exact one_ptr _ | exact one_bool _ | exact one_string _) only [RXA, RXB, Nat.reduceAdd, Nat.reduceLT, wrap_id, wrap_succ, wrap_pred, FX1, e2, n1]
          refine next2 () _ _ ⟨rfl, hk2, hg2, fun j hj3 => ?_⟩
          by_cases q : j = p
          · subst q
            rw [if_pos (by omega), fpart_mine m]
            exact hpp
          · have := hj2 j hj3
            by_cases q2 : j < p
            · rw [if_pos q2] at this; rw [if_pos (by omega)]; exact this
            · rw [if_neg q2] at this; rw [if_neg (by omega)]; exact this
        · have n1 : ((p : Int) != (mineL xs z i : Int)) = true := bne_iff_ne.2 fun e => m (by omega)
          have c2 : ((List.range t).map cel)[p]? = some (cel p) := by rw [List.getElem?_map, List.getElem?_range hp]; rfl
          have hcel : cel p = .slice (some ⟨n + 1 + p, 0, none⟩) xs.length xs.length := rfl
          have lt1 : n + 1 + p < n + 1 + t := by omega
          have lt2 : n < n + 1 + t := by omega
          try simp (disch := first | omega | assumption | exact one_int _ _ | exact one_slice _ _ _ | exact one_ptr _ | exact one_bool _ | exact one_string _) only [RXA, RXB, Nat.reduceAdd, Nat.reduceLT, wrap_id, wrap_succ, wrap_pred, FX1, e2, n1, hg2, c2, hcel, e1, hpp, intsV_set, fpart_set hi m, intsV_len, fpart_len]
          refine ⟨hi, .inl (by omega), ?_⟩
          refine next2 () _ _ ⟨rfl, fun b hb => by rw [get_ne _ _ (by omega)]; exact hk2 b hb, by rw [get_ne _ _ (by omega)]; exact hg2, fun j hj3 => ?_⟩
          by_cases q : j = p
          · subst q
            rw [if_pos (by omega), get_eq]
          · rw [get_ne _ _ (by omega)]
            have := hj2 j hj3
            by_cases q2 : j < p
            · rw [if_pos q2] at this; rw [if_pos (by omega)]; exact this
            · rw [if_neg q2] at this; rw [if_neg (by omega)]; exact this
  · rintro fu i _ h' n' hi ⟨rfl, hk, hg, hj⟩ next
    have e2 : ((i : Nat) : Int) < ((t : Nat) : Int) := by omega
    rw [succA_tables_first]
    try simp (disch := first | omega | assumption | exact one_int _ _ | exact one_slice _ _ _ | exact one_ptr _ | exact one_bool _ | exact one_string _) only [RXA, RXB, Nat.reduceAdd, Nat.reduceLT, wrap_id, wrap_succ, wrap_pred, FX1, e2]
    refine Ev.run_make c1x22 xs.length xs.length _ (Nat.le_refl _) (by omega) ?_
    have hg2 : (h'.set (n + 1 + i) (some ⟨3, true, List.replicate xs.length (.int .i64 0)⟩)).get n = some ⟨22, true, rc cel (.slice none 0 0) t i⟩ := by rw [get_ne _ _ (by omega)]; exact hg
    have lt2 : n < n + 1 + i + 1 := by omega
    have rs := rc_set (f := cel) (z := .slice none 0 0) hi
    have hcel : cel i = .slice (some ⟨n + 1 + i, 0, none⟩) xs.length xs.length := rfl
    rw [hcel] at rs
    try simp (disch := first | omega | assumption | exact one_int _ _ | exact one_slice _ _ _ | exact one_ptr _ | exact one_bool _ | exact one_string _) only [RXA, RXB, Nat.reduceAdd, Nat.reduceLT, wrap_id, wrap_succ, wrap_pred, FX1, e2, hg2, rs, rc_len]
    refine ⟨hi, .inl (by omega), ?_⟩
    refine next () _ _ ⟨by omega, fun b hb => by rw [get_ne _ _ (by omega), get_ne _ _ (by omega)]; exact hk b hb, get_eq _ _ _, fun j hj3 => ?_⟩
    rw [get_ne _ _ (by omega)]
    by_cases q : j = i
    · subst q
      rw [get_eq, intsV_rep]
    · rw [get_ne _ _ (by omega)]
      exact hj j (by omega)
end
end Go.Proofs.YtdagfcflbphoiaaDoor
/- Lengths of counts: rounds of halving, by the second form; the statement LensWhole. -/
namespace Go.Proofs.YtdagfcflbphoiaaDoor
set_option linter.unusedVariables false
set_option linter.unusedSimpArgs false
open Go.RowKit Ev Hu

/-- the lengths that rounds of halving come to -/
inductive Rounds : Nat → List Int → List Int → Prop
  | stop (w : List Int) (hW : Ws w) (so : Sorts w (sortD w)) (h : lngL (depF w) 0 ≤ 20) : Rounds 0 w (depF w)
  | next {k : Nat} {w l : List Int} (hW : Ws w) (so : Sorts w (sortD w)) (h : ¬ lngL (depF w) 0 ≤ 20) (r : Rounds k (halvL w) l) : Rounds (k + 1) w l
theorem Rounds.out {k : Nat} {w l : List Int} (r : Rounds k w l) : ∃ w', Ws w' ∧ Sorts w' (sortD w') ∧ lngL (depF w') 0 ≤ 20 ∧ l = depF w' ∧ w'.length = w.length := by
  induction r with
  | stop w hW so h => exact ⟨w, hW, so, h, rfl, rfl⟩
  | next hW so h r ih =>
    obtain ⟨w', h1, h2, h3, h4, h5⟩ := ih
    exact ⟨w', h1, h2, h3, h4, by rw [h5, halvL_len]⟩

/-- weights within a bound -/
structure Wb (ws : List Int) (c : Int) : Prop where
  l2 : 2 ≤ ws.length
  l3 : ws.length ≤ 258
  lo : ∀ x ∈ ws, 1 ≤ x
  hi : ∀ x ∈ ws, x ≤ c
theorem Wb.ws {ws : List Int} {c : Int} (h : Wb ws c) (hc : c ≤ 2199023255552) : Ws ws := ⟨h.l2, h.l3, fun x hx => by have := h.lo x hx; omega, fun x hx => by have := h.hi x hx; omega⟩
theorem Wb.halv {ws : List Int} {c : Int} (h : Wb ws c) (hc : c ≤ 2199023255552) : Wb (halvL ws) (c / 2 + 1) := by
  refine ⟨by rw [halvL_len]; exact h.l2, by rw [halvL_len]; exact h.l3, fun x hx => ?_, fun x hx => ?_⟩
  all_goals
    unfold halvL at hx
    rw [List.mem_map] at hx
    obtain ⟨y, hy, rfl⟩ := hx
    have h1 := h.lo y hy
    have h2 := h.hi y hy
    have hb := halv_bound y (by omega)
    have := hb.2.2 (by omega)
    omega
/-- behind k rounds -/
def cap (k : Nat) : Int := 2 ^ k + 2
theorem cap_next (k : Nat) : cap (k + 1) / 2 + 1 ≤ cap k := by
  unfold cap
  rw [Int.pow_succ]
  omega
theorem cap_le {k : Nat} (h : k ≤ 40) : cap k ≤ 2199023255552 := by
  unfold cap
  have h1 : (2 : Nat) ^ k ≤ 2 ^ 40 := Nat.pow_le_pow_right (by omega) h
  have e : ((2 : Int) ^ k) = (((2 : Nat) ^ k : Nat) : Int) := by simp
  rw [e]
  generalize (2 : Nat) ^ k = z at h1
  omega
theorem Wb.short {ws : List Int} (h : Wb ws 3) (so : Sorts ws (sortD ws)) : lngL (depF ws) 0 ≤ 20 := by
  obtain ⟨w, I, A, B, X, R, dep, D⟩ := (h.ws (by omega)).deps so
  have hN := h.l2
  have hN3 := h.l3
  have hroot := D.m.root
  have hsum : sumI ((List.range ws.length).map w) ≤ ((List.range ws.length).map w).length * 3 := sumI_bound 3 _ (fun x hx => by
    rw [List.mem_map] at hx
    obtain ⟨i, hi, rfl⟩ := hx
    have hi := List.mem_range.1 hi
    rw [D.ww i hi]
    exact h.hi _ (mem_getD hi))
  rw [List.length_map, List.length_range] at hsum
  rw [lngL_le]
  refine ⟨by omega, ?_⟩
  unfold depF
  rw [D.mem]
  intro i hi
  have := D.m.short D.d0 D.d1 hi (by rw [D.ww i hi]; exact h.lo _ (mem_getD hi)) (by omega)
  omega

theorem ofB (lf d : Nat) (hlf : 3000000 ≤ lf) (hd : 300 ≤ d) (x0 x2 x20 x24 x25 x26 x27 : Value) {W : Nat → Prop} {n0 : Nat} :
    ∀ (m fu : Nat) (w : List Int) (h : H) (n : Nat) (x4 : Value), m < fu → m ≤ 40 → Wb w (cap m) → n0 ≤ n → Row h n 3 .i64 x4 w →
      Run W n0 (lpB_lens_Of lf d fu (kcB_lens_Of lf d) x0 x2 (.int .i64 0) x4 x20 x24 x25 x26 x27) h n fun v' h' n' => ∃ v1 l r, v' = .tuple #[v1, .int .i64 0] ∧ Rounds r w l ∧ r ≤ m ∧ Row h' n' 3 .i64 v1 l := by
  intro m
  induction m with
  | zero =>
    intro fu w h n x4 hfu hm hw hn hR
    obtain ⟨fu, rfl⟩ : ∃ f, fu = f + 1 := ⟨fu - 1, by omega⟩
    obtain ⟨e, rfl⟩ : ∃ e, d = e + 1 := ⟨d - 1, by omega⟩
    rw [succB_lens_Of]
    have hW := hw.ws (cap_le hm)
    refine run_call okd (s_depF lf (e + 1) n h x4 w hR hW hlf hd) hn (fun _ _ h => h.elim) fun v1 h1 n1 hn1 fr1 hq => ?_
    obtain ⟨so, hr1, _⟩ := hq
    have hl2 := hW.l2
    have hl3 := hW.l3
    have dl := depF_len (ws := w) (by omega)
    refine run_same (s_Longest lf e n1 h1 v1 _ hr1 (by omega) hlf) (by omega) (fun _ _ h => h.elim) ?_
    have hs := Wb.short hw so
    try simp (disch := first | omega | assumption | exact one_int _ _ | exact one_slice _ _ _ | exact one_ptr _ | exact one_bool _ | exact one_string _) only [RXA, RXB, Nat.reduceAdd, Nat.reduceLT, wrap_id, wrap_succ, wrap_pred, FX1, hs]
    refine run_call okd (s_Clone lf e n1 h1 v1 _ hr1 (by omega) (by omega)) (by omega) (fun _ _ h => h.elim) fun v3 h3 n3 hn3 fr3 q3 => ?_
    rw [kcBa_lens_Of, run_out2]
    exact ⟨v3, _, 0, rfl, .stop w hW so hs, Nat.le_refl _, q3.2.1⟩
  | succ m ih =>
    intro fu w h n x4 hfu hm hw hn hR
    obtain ⟨fu, rfl⟩ : ∃ f, fu = f + 1 := ⟨fu - 1, by omega⟩
    obtain ⟨e, rfl⟩ : ∃ e, d = e + 1 := ⟨d - 1, by omega⟩
    rw [succB_lens_Of]
    have hc := cap_le hm
    have hW := hw.ws hc
    refine run_call okd (s_depF lf (e + 1) n h x4 w hR hW hlf hd) hn (fun _ _ h => h.elim) fun v1 h1 n1 hn1 fr1 hq => ?_
    obtain ⟨so, hr1, _⟩ := hq
    have hl2 := hW.l2
    have hl3 := hW.l3
    have dl := depF_len (ws := w) (by omega)
    refine run_same (s_Longest lf e n1 h1 v1 _ hr1 (by omega) hlf) (by omega) (fun _ _ h => h.elim) ?_
    by_cases hs : lngL (depF w) 0 ≤ 20
    · try simp (disch := first | omega | assumption | exact one_int _ _ | exact one_slice _ _ _ | exact one_ptr _ | exact one_bool _ | exact one_string _) only [RXA, RXB, Nat.reduceAdd, Nat.reduceLT, wrap_id, wrap_succ, wrap_pred, FX1, hs]
      refine run_call okd (s_Clone lf e n1 h1 v1 _ hr1 (by omega) (by omega)) (by omega) (fun _ _ h => h.elim) fun v3 h3 n3 hn3 fr3 q3 => ?_
      rw [kcBa_lens_Of, run_out2]
      exact ⟨v3, _, 0, rfl, .stop w hW so hs, Nat.zero_le _, q3.2.1⟩
    · try simp (disch := first | omega | assumption | exact one_int _ _ | exact one_slice _ _ _ | exact one_ptr _ | exact one_bool _ | exact one_string _) only [RXA, RXB, Nat.reduceAdd, Nat.reduceLT, wrap_id, wrap_succ, wrap_pred, FX1, hs]
      have hR1 := hR.keep hn1 (fun b hb => fr1 b hb id)
      refine run_call okd (s_Halved lf e n1 h1 x4 w hR1 (by omega) (fun x hx => by have := hW.hi x hx; omega) hlf) (by omega) (fun _ _ h => h.elim) fun v3 h3 n3 hn3 fr3 q3 => ?_
      have hw2 := hw.halv hc
      have hw3 : Wb (halvL w) (cap m) := ⟨hw2.l2, hw2.l3, hw2.lo, fun x hx => by have := hw2.hi x hx; have := cap_next m; omega⟩
      refine (ih fu (halvL w) h3 n3 v3 (by omega) (by omega) hw3 (by omega) q3.1).mono ?_
      rintro v' h' n' _ ⟨v4, l, r, rfl, hr, hle, hrow⟩
      exact ⟨v4, l, r + 1, rfl, .next hW so hs hr, by omega, hrow⟩

def cnt1 (x : Int) : Int := if x < 1 then 1 else x
def cntL (xs : List Int) : List Int := xs.map cnt1
theorem cntL_len (xs : List Int) : (cntL xs).length = xs.length := by unfold cntL; simp
theorem cntL_at {xs : List Int} {i : Nat} (h : i < xs.length) : (cntL xs).getD i 0 = cnt1 (xs.getD i 0) := by
  unfold cntL
  rw [List.getD_eq_getElem?_getD, List.getElem?_map, List.getElem?_eq_getElem h, List.getD_eq_getElem?_getD, List.getElem?_eq_getElem h]
  rfl
theorem cnt_wb {xs : List Int} (h2 : 2 ≤ xs.length) (h3 : xs.length ≤ 258) (h : ∀ x ∈ xs, 0 ≤ x ∧ x ≤ 1099511627776) : Wb (cntL xs) (cap 40) := by
  refine ⟨by rw [cntL_len]; exact h2, by rw [cntL_len]; exact h3, fun x hx => ?_, fun x hx => ?_⟩
  all_goals
    unfold cntL at hx
    rw [List.mem_map] at hx
    obtain ⟨y, hy, rfl⟩ := hx
    have := h y hy
    unfold cnt1
  · split <;> omega
  · have : cap 40 = 1099511627778 := rfl
    split <;> omega
theorem ofA (lf d n : Nat) (h : H) (v : Value) (xs : List Int) (hR : Row h n 3 .i64 v xs) (hl : xs.length ≤ 1000000) (x2 x3 x20 : Value) (c : Nat) (hc : xs.length ≤ c) {W : Nat → Prop} {n0 : Nat} (hn0 : n0 ≤ n) {Q : Value → H → Nat → Prop} (k : Ex → Fr → M Value)
    (hK : ∀ h1 y27, Row h1 (n + 1) 3 .i64 (.slice (some ⟨n, 0, none⟩) xs.length c) (cntL xs) → Run W n0 (k (Ex.exit 0) [(0, v), (2, x2), (3, x3), (4, .slice (some ⟨n, 0, none⟩) xs.length c), (20, x20), (24, v), (25, .int .i64 (xs.length : Nat)), (26, .int .i64 (xs.length : Nat)), (27, y27)]) h1 (n + 1) Q) :
    ∀ (m i fu : Nat) (h1 : H), xs.length - i = m → m < fu → i ≤ xs.length → (∀ b, b < n → h1.get b = h.get b) → h1.get n = some ⟨3, true, ints (part (cntL xs) i)⟩ →
      Run W n0 (lpA_lens_Of lf d fu k v x2 x3 (.slice (some ⟨n, 0, none⟩) xs.length c) x20 v (.int .i64 (xs.length : Nat)) (.int .i64 (i : Nat))) h1 (n + 1) Q := by
  intro m
  induction m with
  | zero =>
    intro i fu h1 hm hfu hi hk hg1
    obtain ⟨fu, rfl⟩ : ∃ f, fu = f + 1 := ⟨fu - 1, by omega⟩
    obtain rfl : i = xs.length := by omega
    rw [succA_lens_Of]
    try simp (disch := first | omega | assumption | exact one_int _ _ | exact one_slice _ _ _ | exact one_ptr _ | exact one_bool _ | exact one_string _) only [RXA, RXB, Nat.reduceAdd, Nat.reduceLT, wrap_id, wrap_succ, wrap_pred, FX1, Int.lt_irrefl]
    rw [← cntL_len xs, part_all] at hg1
    refine hK h1 _ (.inr ⟨n, 0, c, true, _, by rw [cntL_len], hg1, Nat.lt_succ_self n, by rw [ints_len]; omega, ?_, by rw [cntL_len]; exact hc⟩)
    rw [List.drop_zero, List.take_of_length_le (by rw [ints_len]; exact Nat.le_refl _)]
    rfl
  | succ m ih =>
    intro i fu h1 hm hfu hi hk hg1
    obtain ⟨fu, rfl⟩ : ∃ f, fu = f + 1 := ⟨fu - 1, by omega⟩
    have hR1 : Row h1 (n + 1) 3 .i64 v xs := hR.keep (Nat.le_succ n) hk
    have hlt := fun b hb => hR.lt (b := b) hb
    obtain ⟨b, off, cap, o, cs, rfl, hg, hb, _, _, _, hat⟩ := hR1.some (by omega)
    have hbn : b < n := hlt b ⟨_, _, _, rfl⟩
    have e1 : ((i : Nat) : Int) < ((xs.length : Nat) : Int) := by omega
    have c1 := hat i (by omega)
    have w1 : ((i : Nat) : Int) + 1 = ((i + 1 : Nat) : Int) := by omega
    have pl : (part (cntL xs) i).length = xs.length := by rw [part_len _ (by rw [cntL_len]; omega), cntL_len]
    have ps : (part (cntL xs) i).set i (if xs.getD i 0 < 1 then 1 else xs.getD i 0) = part (cntL xs) (i + 1) := by
      show (part (cntL xs) i).set i (cnt1 (xs.getD i 0)) = _
      rw [← cntL_at (by omega), part_set (by rw [cntL_len]; omega)]
    rw [succA_lens_Of]
    try simp (disch := first | omega | assumption | exact one_int _ _ | exact one_slice _ _ _ | exact one_ptr _ | exact one_bool _ | exact one_string _) only [RXA, RXB, Nat.reduceAdd, Nat.reduceLT, wrap_id, wrap_succ, wrap_pred, FX1, e1, hg, c1, hg1, ints_set, ints_len, pl, ps]
    refine ⟨by omega, .inl hn0, ?_⟩
    rw [w1]
    exact ih (i + 1) fu _ (by omega) (by omega) (by omega) (fun b hb => by rw [get_ne _ _ (by omega)]; exact hk b hb) (get_eq _ _ _)
theorem s_Of_ok (lf d n : Nat) (h : H) (v : Value) (xs : List Int) (hR : Row h n 3 .i64 v xs) (hl2 : 3 ≤ xs.length) (hl3 : xs.length ≤ 258) (hm : allIn 0 1099511627776 xs = true) (hlf : 3000000 ≤ lf) (hd : 400 ≤ d) :
    Run (fun _ => False) n (evCall2 Tryd.prog gt lf d 39 #[v]) h n fun v' h' n' => ∃ v1 l r, v' = .tuple #[v1, .int .i64 0] ∧ Rounds r (cntL xs) l ∧ r ≤ 40 ∧ Row h' n' 3 .i64 v1 l := by
  obtain ⟨d, rfl⟩ : ∃ e, d = e + 5 := ⟨d - 5, by omega⟩
  have hm' := allIn_iff.1 hm
  rw [sh_lens_Of]
  refine Run.inside_ ?_
  unfold b_lens_Of
  have hR0 := hR
  obtain ⟨a, c, rfl⟩ := hR.len
  have e1 : ¬ ((xs.length : Nat) : Int) < 3 := by omega
  have e2 : ¬ (258 : Int) < ((xs.length : Nat) : Int) := by omega
  try simp (disch := first | omega | assumption | exact one_int _ _ | exact one_slice _ _ _ | exact one_ptr _ | exact one_bool _ | exact one_string _) only [RXA, RXB, Nat.reduceAdd, Nat.reduceLT, wrap_id, wrap_succ, wrap_pred, FX1, e1, e2]
  refine run_bool (s_between lf d n h _ xs hR0 0 1099511627776 (by omega) hlf) (Nat.le_refl _) fun h1 n1 hn1 fr1 => ?_
  have hR1 := hR0.keep hn1 fr1
  rw [hm, u_not, optK_some_eq, Bool.not_true]
  try simp (disch := first | omega | assumption | exact one_int _ _ | exact one_slice _ _ _ | exact one_ptr _ | exact one_bool _ | exact one_string _) only [RXA, RXB, Nat.reduceAdd, Nat.reduceLT, wrap_id, wrap_succ, wrap_pred, FX1]
  refine Ev.run_make c1x22 xs.length xs.length _ (Nat.le_refl _) (by omega) ?_
  try simp (disch := first | omega | assumption | exact one_int _ _ | exact one_slice _ _ _ | exact one_ptr _ | exact one_bool _ | exact one_string _) only [RXA, RXB, Nat.reduceAdd, Nat.reduceLT, wrap_id, wrap_succ, wrap_pred, FX1]
  refine ofA lf (d + 4) n1 h1 _ xs hR1 (by omega) _ _ _ xs.length (Nat.le_refl _) hn1 _ (fun h2 y27 hr2 => ?_) xs.length 0 lf _ (by omega) (by omega) (by omega) (fun b hb => get_ne _ _ (by omega)) ?_
  · rw [kcAa_lens_Of]
    exact ofB lf (d + 4) hlf (by omega) _ _ _ _ _ _ _ 40 lf (cntL xs) h2 (n1 + 1) _ (by omega) (Nat.le_refl _) (cnt_wb (by omega) hl3 hm') (by omega) hr2
  · rw [get_eq, part_0, cntL_len]
    unfold ints
    rw [List.map_replicate]
theorem s_Of_no (lf d n : Nat) (h : H) (v : Value) (xs : List Int) (hR : Row h n 3 .i64 v xs) (hm : xs.length < 3 ∨ 258 < xs.length ∨ allIn 0 1099511627776 xs = false) (hL : xs.length ≤ 9223372036854775807) (hlf : 3000000 ≤ lf) (hd : 400 ≤ d) :
    Run (fun _ => False) n (evCall2 Tryd.prog gt lf d 39 #[v]) h n fun v' h' n' => v' = .tuple #[.slice none 0 0, .int .i64 1] := by
  obtain ⟨d, rfl⟩ : ∃ e, d = e + 5 := ⟨d - 5, by omega⟩
  rw [sh_lens_Of]
  refine Run.inside_ ?_
  unfold b_lens_Of
  have hR0 := hR
  obtain ⟨a, c, rfl⟩ := hR.len
  by_cases c1 : xs.length < 3
  · have e1 : ((xs.length : Nat) : Int) < 3 := by omega
    try simp (disch := first | omega | assumption | exact one_int _ _ | exact one_slice _ _ _ | exact one_ptr _ | exact one_bool _ | exact one_string _) only [RXA, RXB, Nat.reduceAdd, Nat.reduceLT, wrap_id, wrap_succ, wrap_pred, FX1, e1]
  · have e1 : ¬ ((xs.length : Nat) : Int) < 3 := by omega
    by_cases c2 : 258 < xs.length
    · have e2 : (258 : Int) < ((xs.length : Nat) : Int) := by omega
      try simp (disch := first | omega | assumption | exact one_int _ _ | exact one_slice _ _ _ | exact one_ptr _ | exact one_bool _ | exact one_string _) only [RXA, RXB, Nat.reduceAdd, Nat.reduceLT, wrap_id, wrap_succ, wrap_pred, FX1, e1, e2]
    · have e2 : ¬ (258 : Int) < ((xs.length : Nat) : Int) := by omega
      have hm2 : allIn 0 1099511627776 xs = false := by
        rcases hm with q | q | q
        · exact absurd q c1
        · exact absurd q c2
        · exact q
      try simp (disch := first | omega | assumption | exact one_int _ _ | exact one_slice _ _ _ | exact one_ptr _ | exact one_bool _ | exact one_string _) only [RXA, RXB, Nat.reduceAdd, Nat.reduceLT, wrap_id, wrap_succ, wrap_pred, FX1, e1, e2]
      refine run_bool (s_between lf d n h _ xs hR0 0 1099511627776 (by omega) hlf) (Nat.le_refl _) fun h1 n1 hn1 fr1 => ?_
      rw [hm2, u_not, optK_some_eq, Bool.not_false]
      try simp (disch := first | omega | assumption | exact one_int _ _ | exact one_slice _ _ _ | exact one_ptr _ | exact one_bool _ | exact one_string _) only [RXA, RXB, Nat.reduceAdd, Nat.reduceLT, wrap_id, wrap_succ, wrap_pred, FX1]

theorem Rounds.whole {k : Nat} {w l : List Int} (r : Rounds k w l) : l.length = w.length ∧ allIn 1 20 l = true ∧ shrL l = 1048576 := by
  obtain ⟨w', hW, so, h, rfl, hl⟩ := r.out
  obtain ⟨wf, I, A, B, X, R, dep, D⟩ := hW.deps so
  have hl2 := hW.l2
  rw [lngL_le] at h
  refine ⟨by rw [depF_len (by omega), hl], allIn_iff.2 fun x hx => ⟨?_, h.2 x hx⟩, ?_⟩
  · revert x
    unfold depF
    rw [D.mem]
    intro i hi
    have := D.ge1 hi
    omega
  · unfold depF at h ⊢
    exact D.share h.2
end Go.Proofs.YtdagfcflbphoiaaDoor
/- The reference's trees: which is less, the least one, all but one; by the second form. -/
namespace Go.Proofs.YtdagfcflbphoiaaDoor
set_option linter.unusedVariables false
set_option linter.unusedSimpArgs false
open Go.RowKit Ev Hu

end Go.Proofs.YtdagfcflbphoiaaDoor

/- Plain facts of layers 8 and 12: counts, groups, costs, picks, tables at first. No program in sight. -/
import Derived.WalkKit
import Derived.Test.YtdagfcflbphoiaaDoorMah
import Derived.Test.YtdagfcflbphoiaaDoorMae
import Derived.Test.YtdagfcflbphoiaaDoorRows
namespace Go.Proofs.YtdagfcflbphoiaaDoor.Tb
set_option linter.unusedVariables false
set_option linter.unusedSimpArgs false

def capI (x : Int) : Int := if 1099511627776 < x then 1099511627776 else x
theorem capI_cap {a y : Int} (hy : 0 ≤ y) : capI (capI a + y) = capI (a + y) := by
  unfold capI
  repeat' split
  all_goals omega
theorem capI_le (x : Int) : capI x ≤ 1099511627776 := by unfold capI; split <;> omega
theorem capI_ge {x : Int} (h : 0 ≤ x) : 0 ≤ capI x := by unfold capI; split <;> omega
theorem capI_id {x : Int} (h : x ≤ 1099511627776) : capI x = x := by unfold capI; rw [if_neg (by omega)]

def sumI : List Int → Int
  | [] => 0
  | x :: l => x + sumI l
theorem sumI_app : ∀ a b : List Int, sumI (a ++ b) = sumI a + sumI b
  | [], b => by simp [sumI]
  | x :: a, b => by simp only [List.cons_append, sumI, sumI_app a b]; omega
theorem sumI_ge : ∀ {l : List Int}, (∀ x ∈ l, 0 ≤ x) → 0 ≤ sumI l
  | [], _ => Int.le_refl 0
  | x :: l, h => by
    have := sumI_ge (l := l) fun y hy => h y (List.mem_cons_of_mem _ hy)
    have := h x List.mem_cons_self
    simp only [sumI]; omega
theorem sumI_le (B : Int) : ∀ {l : List Int}, (∀ x ∈ l, x ≤ B) → sumI l ≤ l.length * B
  | [], _ => by simp [sumI]
  | x :: l, h => by
    have := sumI_le B (l := l) fun y hy => h y (List.mem_cons_of_mem _ hy)
    have := h x List.mem_cons_self
    simp only [sumI, List.length_cons, Int.natCast_add, Int.add_mul]
    omega
theorem sumI_next {l : List Int} {i : Nat} (h : i < l.length) : sumI (l.take (i + 1)) = sumI (l.take i) + l.getD i 0 := by
  rw [List.take_succ_eq_append_getElem h, sumI_app, List.getD_eq_getElem?_getD, List.getElem?_eq_getElem h]
  simp [sumI]

def look (ls : List Int) (x : Int) : Int := ls.getD x.toNat 0
theorem look_ge {ls : List Int} (h : ∀ x ∈ ls, 0 ≤ x) (x : Int) : 0 ≤ look ls x := by
  unfold look
  rw [List.getD_eq_getElem?_getD]
  by_cases hx : x.toNat < ls.length
  · rw [List.getElem?_eq_getElem hx]; exact h _ (List.getElem_mem hx)
  · rw [List.getElem?_eq_none (by omega)]; exact Int.le_refl 0
theorem getD_ge {ls : List Int} (h : ∀ x ∈ ls, 0 ≤ x) (i : Nat) : 0 ≤ ls.getD i 0 := by
  have := look_ge h (i : Int)
  simpa [look] using this

def numL (n : Int) : Nat := if n < 200 then 2 else if n < 600 then 3 else if n < 1200 then 4 else if n < 2400 then 5 else 6
theorem numL_ge (n : Int) : 2 ≤ numL n ∧ numL n ≤ 6 := by unfold numL; repeat' split
                                                          all_goals omega
def belowL (counts : List Int) (n : Int) (v : Nat) : Int := if n - 1 < sumI (counts.take v) then n - 1 else sumI (counts.take v)
theorem belowL_next {counts : List Int} (h0 : ∀ x ∈ counts, 0 ≤ x) {n : Int} {v : Nat} (h : v < counts.length) : (if n - 1 < belowL counts n v + counts.getD v 0 then n - 1 else belowL counts n v + counts.getD v 0) = belowL counts n (v + 1) := by
  have := getD_ge h0 v
  unfold belowL
  rw [sumI_next h]
  repeat' split
  all_goals omega
theorem belowL_ge {counts : List Int} (h0 : ∀ x ∈ counts, 0 ≤ x) {n : Int} (hn : 1 ≤ n) (v : Nat) : 0 ≤ belowL counts n v ∧ belowL counts n v ≤ n - 1 := by
  have := sumI_ge (l := counts.take v) fun x hx => h0 x (List.mem_of_mem_take hx)
  unfold belowL
  split <;> omega
def mineL (counts : List Int) (n : Int) (v : Nat) : Nat := (belowL counts n v * (numL n : Int) / n).toNat
theorem mineL_eq {counts : List Int} (h0 : ∀ x ∈ counts, 0 ≤ x) {n : Int} (hn : 1 ≤ n) (v : Nat) : (belowL counts n v * (numL n : Int)).tdiv n = (mineL counts n v : Int) := by
  have h1 := (belowL_ge h0 hn v).1
  have h2 : 0 ≤ belowL counts n v * (numL n : Int) := Int.mul_nonneg h1 (by omega)
  rw [Int.tdiv_eq_ediv_of_nonneg h2]
  unfold mineL
  have := Int.ediv_nonneg h2 (show 0 ≤ n by omega)
  omega
def firstT (counts : List Int) (n : Int) (p : Nat) : List Int := (List.range counts.length).map fun v => if mineL counts n v = p then 0 else 15
def firstL (counts : List Int) (n : Int) : List (List Int) := (List.range (numL n)).map (firstT counts n)
theorem firstL_len (counts : List Int) (n : Int) : (firstL counts n).length = numL n := by unfold firstL; simp
theorem firstT_len (counts : List Int) (n : Int) (p : Nat) : (firstT counts n p).length = counts.length := by unfold firstT; simp
end Go.Proofs.YtdagfcflbphoiaaDoor.Tb
/- Layer 8 by the second form: the program's counts, groups, costs. -/
namespace Go.Proofs.YtdagfcflbphoiaaDoor
set_option linter.unusedVariables false
set_option linter.unusedSimpArgs false
open Go.RowKit Ev Tb

theorem gd_mem {xs : List Int} {i : Nat} (h : i < xs.length) : xs.getD i 0 ∈ xs := by
  rw [List.getD_eq_getElem?_getD, List.getElem?_eq_getElem h]
  exact List.getElem_mem h
section
variable (lf d n : Nat) (h : H)
variable (hlf : 3000000 ≤ lf)
include hlf
omit hlf in
theorem s_together (a b : Int) (h0 : 0 ≤ a + b) (h1 : a + b ≤ 9223372036854775807) : Run (fun _ => False) n (evCall2 Tryd.prog gt lf (d + 1) 49 #[.int .i64 a, .int .i64 b]) h n fun v' h' n' => v' = .int .i64 (capI (a + b)) ∧ h' = h ∧ n' = n := by
  rw [sh_freq_together]
  refine Run.inside_ ?_
  unfold b_freq_together
  have w : IntKind.i64.wrap (a + b) = a + b := wrap_id (by omega) (by omega)
  try simp (disch := first | omega | assumption | exact one_int _ _ | exact one_slice _ _ _ | exact one_ptr _ | exact one_bool _ | exact one_string _) only [RXA, RXB, Nat.reduceAdd, Nat.reduceLT, wrap_id, wrap_succ, wrap_pred, FX1, w]
  all_goals (first | rfl | exact ⟨rfl, rfl, rfl⟩ | exact ⟨rfl, rfl⟩)
end
end Go.Proofs.YtdagfcflbphoiaaDoor
/- The merging of weights as a plain thing: which two are taken at each step, and what is left. No program in sight. -/
namespace Go.Proofs.YtdagfcflbphoiaaDoor
set_option linter.unusedVariables false
set_option linter.unusedSimpArgs false
open Hu

/-- what waits behind k joins -/
def wt (n k : Nat) (t : HT) : List Nat := t.leaves ++ List.range' t.joined (n + k - t.joined)
structure Srt (n k : Nat) (last : Int) (t : HT) : Prop where
  ls : t.leaves.Pairwise (RI (wAt t))
  js : ∀ i j, n ≤ i → i ≤ j → j < n + k → wAt t i ≤ wAt t j
  mx : ∀ i, n ≤ i → i < n + k → wAt t i ≤ 2 * last
  lo : ∀ x ∈ wt n k t, last ≤ wAt t x
  l0 : 0 ≤ last

theorem take_w (t : HT) : wAt (taken t) = wAt t := by
  unfold taken
  split <;> rfl
theorem take_min {n k : Nat} {P : List Nat} {S last : Int} {t : HT} (h : OkH n k P S t) (s : Srt n k last t) (h1 : 1 ≤ t.leaves.length + (n + k - t.joined)) :
    (wt n k t).Perm (Hu.leastOf t :: wt n k (taken t)) ∧ (∀ x ∈ wt n k (taken t), RI (wAt t) (Hu.leastOf t) x) ∧ Srt n k (wAt t (Hu.leastOf t)) (taken t) ∧ last ≤ wAt t (Hu.leastOf t) := by
  have key : (wt n k t).Perm (Hu.leastOf t :: wt n k (taken t)) ∧ (∀ x ∈ wt n k (taken t), RI (wAt t) (Hu.leastOf t) x) ∧ (taken t).leaves.Pairwise (RI (wAt t)) := by
    cases hl : isLeaf t with
    | true =>
      obtain ⟨r, e1, e2, e3⟩ := isLeaf_true h h1 hl
      have hls := s.ls
      generalize Hu.leastOf t = a at *
      rw [e1, List.pairwise_cons] at hls
      rw [e2]
      refine ⟨by unfold wt; rw [e1]; exact .refl _, fun x hx => ?_, hls.2⟩
      unfold wt at hx
      rcases List.mem_append.1 hx with h2 | h2
      · exact hls.1 x h2
      · have h2 := List.mem_range'_1.1 h2
        have h2 : t.joined ≤ x ∧ x < t.joined + (n + k - t.joined) := h2
        have hjl := h.jl
        unfold isLeaf at hl
        rw [Bool.or_eq_true, beq_iff_eq, Bool.and_eq_true, decide_eq_true_iff, decide_eq_true_iff] at hl
        rcases hl with hl | ⟨_, hl⟩
        · have := h.wl; omega
        · have e4 : t.leaves.getD 0 0 = a := by rw [e1]; rfl
          rw [e4] at hl
          have := s.js t.joined x hjl h2.1 (by omega)
          unfold RI
          omega
    | false =>
      obtain ⟨e1, e2, e3⟩ := isLeaf_false h hl
      rw [e3, e1]
      have hjl := h.jl
      refine ⟨?_, fun x hx => ?_, s.ls⟩
      · unfold wt
        obtain ⟨d, hd⟩ : ∃ d, n + k - t.joined = d + 1 := ⟨n + k - t.joined - 1, by omega⟩
        rw [hd, List.range'_succ]
        show (t.leaves ++ t.joined :: List.range' (t.joined + 1) d).Perm (t.joined :: (t.leaves ++ List.range' (t.joined + 1) (n + k - (t.joined + 1))))
        rw [show n + k - (t.joined + 1) = d by omega]
        exact List.perm_middle
      · unfold wt at hx
        rcases List.mem_append.1 hx with h2 | h2
        · have h2 : x ∈ t.leaves := h2
          have h0 : 0 < t.leaves.length := List.length_pos_of_mem h2
          unfold isLeaf at hl
          rw [Bool.or_eq_false_iff, Bool.and_eq_false_iff] at hl
          have hlt : ¬ wAt t (t.leaves.getD 0 0) ≤ wAt t t.joined := by
            rcases hl.2 with q | q
            · simp only [h0, decide_true] at q; cases q
            · exact of_decide_eq_false q
          obtain ⟨y, r, e⟩ := List.exists_cons_of_length_pos h0
          have hls := s.ls
          rw [e] at h2 hls hlt
          rw [List.pairwise_cons] at hls
          have hlt : ¬ wAt t y ≤ wAt t t.joined := hlt
          rcases List.mem_cons.1 h2 with q | q
          · subst q; unfold RI; omega
          · have := hls.1 x q
            unfold RI at this ⊢
            omega
        · have h2 := List.mem_range'_1.1 h2
          have h2 : t.joined + 1 ≤ x ∧ x < t.joined + 1 + (n + k - (t.joined + 1)) := h2
          have := s.js t.joined x hjl (by omega) (by omega)
          unfold RI
          omega
  obtain ⟨k1, k2, k3⟩ := key
  have hlo : last ≤ wAt t (Hu.leastOf t) := s.lo _ (k1.mem_iff.2 (by simp))
  refine ⟨k1, k2, ⟨by rw [take_w]; exact k3, by rw [take_w]; exact s.js, fun i h2 h3 => by rw [take_w]; have := s.mx i h2 h3; omega, fun x hx => ?_, by have := s.l0; omega⟩, hlo⟩
  rw [take_w]
  have := k2 x hx
  unfold RI at this
  omega

theorem join_w {n k : Nat} {P : List Nat} {S : Int} {t : HT} (h : OkH n k P S t) (a b : Nat) : (∀ i, i < n + k → wAt (joinH t a b) i = wAt t i) ∧ wAt (joinH t a b) (n + k) = wAt t a + wAt t b := by
  refine ⟨fun i hi => getD_app_left _ _ _ (by rw [h.wl]; exact hi), ?_⟩
  unfold wAt joinH
  rw [List.getD_eq_getElem?_getD, List.getElem?_append_right (by rw [h.wl]; exact Nat.le_refl _), h.wl, Nat.sub_self]
  rfl
theorem wt_lt {n k : Nat} {P : List Nat} {S : Int} {t : HT} (h : OkH n k P S t) : ∀ x ∈ wt n k t, x < n + k := fun x hx => by
  unfold wt at hx
  rcases List.mem_append.1 hx with h2 | h2
  · have := h.leaf x h2; omega
  · have := List.mem_range'_1.1 h2; have := h.jh; omega

/-- a step: what is taken, what is left -/
structure Step (n k : Nat) (a b : Nat) (r : List Nat) (t t' : HT) : Prop where
  perm : (wt n k t).Perm (a :: b :: r)
  next : (wt n (k + 1) t').Perm ((n + k) :: r)
  old : ∀ i, i < n + k → wAt t' i = wAt t i
  new : wAt t' (n + k) = wAt t a + wAt t b
  mA : ∀ x ∈ b :: r, RI (wAt t) a x
  mB : ∀ x ∈ r, RI (wAt t) b x
  ia : t'.into.getD a 0 = ((n + k : Nat) : Int)
  ib : t'.into.getD b 0 = ((n + k : Nat) : Int)
  io : ∀ i, i < n + k → i ∉ wt n k t → t'.into.getD i 0 = t.into.getD i 0
theorem step_all {n k : Nat} {S last : Int} {t : HT} (h : OkH n k [] S t) (s : Srt n k last t) (hk : k + 2 ≤ n) : ∃ last', Srt n (k + 1) last' (stepH t) ∧ Step n k (Hu.leastOf t) (Hu.leastOf (taken t)) (wt n k (taken (taken t))) t (stepH t) := by
  obtain ⟨h1, a1, h2, a2, h3, _⟩ := step_ok h hk
  have hl := h.left
  have hl1 := h1.left
  simp only [List.length_cons, List.length_nil] at hl hl1
  obtain ⟨p1, m1, s1, q1⟩ := take_min h s (by omega)
  obtain ⟨p2, m2, s2, q2⟩ := take_min h1 s1 (by omega)
  rw [take_w] at m2 s2 q2
  have w2 : wAt (taken (taken t)) = wAt t := by rw [take_w, take_w]
  unfold stepH at h3 ⊢
  generalize Hu.leastOf t = a at *
  generalize Hu.leastOf (taken t) = b at *
  obtain ⟨jo, jn⟩ := join_w h2 a b
  rw [w2] at jo jn
  have hjh := h2.jh
  have hjl := h2.jl
  have nx : wt n (k + 1) (joinH (taken (taken t)) a b) = wt n k (taken (taken t)) ++ [n + k] := by
    unfold wt
    show (taken (taken t)).leaves ++ List.range' (taken (taken t)).joined (n + (k + 1) - (taken (taken t)).joined) = _
    rw [show n + (k + 1) - (taken (taken t)).joined = (n + k - (taken (taken t)).joined) + 1 by omega, List.range'_concat, ← List.append_assoc]
    rw [show (taken (taken t)).joined + 1 * (n + k - (taken (taken t)).joined) = n + k by omega]
  have hb1 : b ∈ wt n k (taken t) := p2.mem_iff.2 (by simp)
  have hpos := fun i hi => (h.pos i hi).1
  have pa := hpos a a1
  have hl0 := s.l0
  refine ⟨wAt t b, ⟨?_, fun i j hi hij hj => ?_, fun i hi hj => ?_, fun x hx => ?_, by omega⟩, ⟨p1.trans (p2.cons a), by rw [nx]; exact List.perm_append_singleton _ _, jo, jn, fun x hx => m1 x (p2.mem_iff.2 hx), m2, ?_, ?_, fun i hi hn => ?_⟩⟩
  · have hp := s2.ls
    rw [w2] at hp
    refine hp.imp_of_mem (S := RI (wAt (joinH (taken (taken t)) a b))) fun {x y} hx hy hr => ?_
    have := h2.leaf x hx
    have := h2.leaf y hy
    unfold RI at hr ⊢
    rw [jo x (by omega), jo y (by omega)]
    exact hr
  · by_cases e : j < n + k
    · rw [jo i (by omega), jo j e]
      exact s.js i j hi hij e
    · obtain rfl : j = n + k := by omega
      by_cases e2 : i < n + k
      · rw [jo i e2, jn]
        have := s.mx i hi e2
        omega
      · obtain rfl : i = n + k := by omega
        omega
  · by_cases e : i < n + k
    · rw [jo i e]
      have := s.mx i hi e
      omega
    · obtain rfl : i = n + k := by omega
      rw [jn]
      omega
  · rw [nx] at hx
    rcases List.mem_append.1 hx with q | q
    · rw [jo x (wt_lt h2 x q)]
      have := m2 x q
      unfold RI at this
      omega
    · obtain rfl : x = n + k := by simpa using q
      rw [jn]
      omega
  all_goals
    have e1 : ∀ i, i < n + k → (joinH (taken (taken t)) a b).into.getD i 0 = if i = b then ((n + k : Nat) : Int) else if i = a then ((n + k : Nat) : Int) else t.into.getD i 0 := fun i hi => by
      have il : (taken (taken t)).into.length = n + k := h2.il
      have ti : (taken (taken t)).into = t.into := by unfold taken; split <;> split <;> rfl
      unfold joinH
      simp only
      rw [getD_app_left _ _ _ (by simp [il]; exact hi), getD_setI, getD_setI, h2.wl, ti]
      rw [ti] at il
      simp only [List.length_set, il]
      by_cases eb : i = b
      · subst eb; simp [hi]
      · by_cases ea : i = a
        · subst ea; simp [hi, eb, Ne.symm eb]
        · simp [ea, eb, Ne.symm ea, Ne.symm eb]
  · rw [e1 a a1]; split <;> simp
  · rw [e1 b a2, if_pos rfl]
  · have hb : b ∈ wt n k t := p1.mem_iff.2 (by simp [hb1])
    have ha : a ∈ wt n k t := p1.mem_iff.2 (by simp)
    rw [e1 i hi, if_neg (fun e => hn (by rw [e]; exact hb)), if_neg (fun e => hn (by rw [e]; exact ha))]

theorem run_all {ws : List Int} {D : List Nat} (hN : 2 ≤ ws.length) (hp : D.Perm (List.range ws.length)) (hs : D.Pairwise (RI (keyW ws))) (hw : ∀ x ∈ ws, 0 ≤ x) : ∀ k, k + 1 ≤ ws.length → OkH ws.length k [] (sumI ws) (runH k (Start ws D)) ∧ ∃ last, Srt ws.length k last (runH k (Start ws D)) := by
  intro k
  induction k with
  | zero =>
    intro _
    have h0 := start_ok hp hw rfl
    refine ⟨h0, 0, hs, fun i j h1 h2 h3 => by omega, fun i h1 h2 => by omega, fun x hx => (h0.pos x (wt_lt h0 x hx)).1, Int.le_refl _⟩
  | succ k ih =>
    intro hk
    obtain ⟨h, last, s⟩ := ih (by omega)
    rw [run_succ]
    obtain ⟨last', s', _⟩ := step_all h s hk
    exact ⟨(step_ok h hk).2.2.2.2.1, last', s'⟩
theorem run_step {ws : List Int} {D : List Nat} (hN : 2 ≤ ws.length) (hp : D.Perm (List.range ws.length)) (hs : D.Pairwise (RI (keyW ws))) (hw : ∀ x ∈ ws, 0 ≤ x) (k : Nat) (hk : k + 2 ≤ ws.length) :
    Step ws.length k (Hu.leastOf (runH k (Start ws D))) (Hu.leastOf (taken (runH k (Start ws D)))) (wt ws.length k (taken (taken (runH k (Start ws D))))) (runH k (Start ws D)) (runH (k + 1) (Start ws D)) := by
  obtain ⟨h, last, s⟩ := run_all hN hp hs hw k (by omega)
  obtain ⟨last', _, r⟩ := step_all h s hk
  rw [run_succ]
  exact r

/-- the merging of N weights: w: the weights of all trees; I: into which one each is joined; A, B: the two that are taken at each step; X: what waits; R: what is left -/
structure Merge (N : Nat) (w : Nat → Int) (I : Nat → Nat) (A B : Nat → Nat) (X R : Nat → List Nat) : Prop where
  two : 2 ≤ N
  x0 : (X 0).Perm (List.range N)
  st : ∀ k, k + 2 ≤ N → (X k).Perm (A k :: B k :: R k)
  nx : ∀ k, k + 2 ≤ N → (X (k + 1)).Perm ((N + k) :: R k)
  wn : ∀ k, k + 2 ≤ N → w (N + k) = w (A k) + w (B k)
  ia : ∀ k, k + 2 ≤ N → I (A k) = N + k
  ib : ∀ k, k + 2 ≤ N → I (B k) = N + k
  mA : ∀ k, k + 2 ≤ N → ∀ x ∈ B k :: R k, RI w (A k) x
  mB : ∀ k, k + 2 ≤ N → ∀ x ∈ R k, RI w (B k) x
  mono : ∀ i j, N ≤ i → i ≤ j → j ≤ 2 * N - 2 → w i ≤ w j
  pos : ∀ i, i ≤ 2 * N - 2 → 0 ≤ w i
section
variable {N : Nat} {X R : Nat → List Nat} {A B : Nat → Nat}
theorem x_lt (x0 : (X 0).Perm (List.range N)) (st : ∀ k, k + 2 ≤ N → (X k).Perm (A k :: B k :: R k)) (nx : ∀ k, k + 2 ≤ N → (X (k + 1)).Perm ((N + k) :: R k)) : ∀ k, k + 1 ≤ N → (∀ x ∈ X k, x < N + k) ∧ (X k).Nodup ∧ (X k).length = N - k := by
  intro k
  induction k with
  | zero =>
    intro _
    exact ⟨fun x hx => by have := List.mem_range.1 (x0.mem_iff.1 hx); omega, x0.nodup_iff.2 List.nodup_range, by rw [x0.length_eq, List.length_range]; omega⟩
  | succ k ih =>
    intro hk
    obtain ⟨h1, h2, h3⟩ := ih (by omega)
    have p := st k hk
    have q := nx k hk
    have hr : ∀ x ∈ R k, x ∈ X k := fun x hx => p.mem_iff.2 (by simp [hx])
    have hnd := p.nodup_iff.1 h2
    refine ⟨fun x hx => ?_, q.nodup_iff.2 (List.nodup_cons.2 ⟨fun hm => ?_, (List.nodup_cons.1 (List.nodup_cons.1 hnd).2).2⟩), ?_⟩
    · rcases List.mem_cons.1 (q.mem_iff.1 hx) with e | e
      · omega
      · have := h1 x (hr x e); omega
    · have := h1 _ (hr _ hm); omega
    · have l1 := p.length_eq
      have l2 := q.length_eq
      simp only [List.length_cons] at l1 l2
      omega
end
theorem merge_of {ws : List Int} {D : List Nat} (hN : 2 ≤ ws.length) (hp : D.Perm (List.range ws.length)) (hs : D.Pairwise (RI (keyW ws))) (hw : ∀ x ∈ ws, 0 ≤ x) : ∃ A B X R, Merge ws.length (wAt (treeOf ws D)) (fun i => ((treeOf ws D).into.getD i 0).toNat) A B X R ∧ ∀ i, i < ws.length → wAt (treeOf ws D) i = ws.getD i 0 := by
  have all := run_all hN hp hs hw
  have stp := run_step hN hp hs hw
  have wfin : ∀ d k, k + d + 1 = ws.length → ∀ i, i < ws.length + k → wAt (treeOf ws D) i = wAt (runH k (Start ws D)) i := by
    intro d
    induction d with
    | zero =>
      intro k hk i hi
      unfold treeOf
      rw [show ws.length - 1 = k by omega]
    | succ d ih =>
      intro k hk i hi
      rw [ih (k + 1) (by omega) i (by omega)]
      exact (stp k (by omega)).old i hi
  have x0 : (wt ws.length 0 (runH 0 (Start ws D))).Perm (List.range ws.length) := by
    show (D ++ List.range' ws.length (ws.length + 0 - ws.length)).Perm _
    rw [Nat.add_zero, Nat.sub_self, List.range'_zero, List.append_nil]
    exact hp
  have xl := x_lt (X := fun k => wt ws.length k (runH k (Start ws D))) (R := fun k => wt ws.length k (taken (taken (runH k (Start ws D))))) (A := fun k => Hu.leastOf (runH k (Start ws D))) (B := fun k => Hu.leastOf (taken (runH k (Start ws D)))) x0 (fun k hk => (stp k hk).perm) (fun k hk => (stp k hk).next)
  have ifin : ∀ d k, k + d + 1 = ws.length → ∀ i, i < ws.length + k → i ∉ wt ws.length k (runH k (Start ws D)) → (treeOf ws D).into.getD i 0 = (runH k (Start ws D)).into.getD i 0 := by
    intro d
    induction d with
    | zero =>
      intro k hk i hi _
      unfold treeOf
      rw [show ws.length - 1 = k by omega]
    | succ d ih =>
      intro k hk i hi hn
      have s := stp k (by omega)
      rw [ih (k + 1) (by omega) i (by omega) (fun hm => ?_)]
      · exact s.io i hi hn
      · rcases List.mem_cons.1 (s.next.mem_iff.1 hm) with e | e
        · omega
        · exact hn (s.perm.mem_iff.2 (by simp [e]))
  have taken_ab : ∀ k, k + 2 ≤ ws.length → Hu.leastOf (runH k (Start ws D)) < ws.length + k ∧ Hu.leastOf (taken (runH k (Start ws D))) < ws.length + k ∧ Hu.leastOf (runH k (Start ws D)) ∉ wt ws.length (k + 1) (runH (k + 1) (Start ws D)) ∧ Hu.leastOf (taken (runH k (Start ws D))) ∉ wt ws.length (k + 1) (runH (k + 1) (Start ws D)) := by
    intro k hk
    have s := stp k hk
    obtain ⟨l1, l2, _⟩ := xl k (by omega)
    have la := l1 (Hu.leastOf (runH k (Start ws D))) (s.perm.mem_iff.2 (by simp))
    have lb := l1 (Hu.leastOf (taken (runH k (Start ws D)))) (s.perm.mem_iff.2 (by simp))
    have hnd := s.perm.nodup_iff.1 l2
    rw [List.nodup_cons, List.nodup_cons] at hnd
    refine ⟨la, lb, fun hm => ?_, fun hm => ?_⟩
    · rcases List.mem_cons.1 (s.next.mem_iff.1 hm) with e | e
      · omega
      · exact hnd.1 (by simp [e])
    · rcases List.mem_cons.1 (s.next.mem_iff.1 hm) with e | e
      · omega
      · exact hnd.2.1 e
  have wk : ∀ k, k + 2 ≤ ws.length → ∀ i, i < ws.length + k → wAt (treeOf ws D) i = wAt (runH k (Start ws D)) i := fun k hk => wfin (ws.length - 1 - k) k (by omega)
  refine ⟨fun k => Hu.leastOf (runH k (Start ws D)), fun k => Hu.leastOf (taken (runH k (Start ws D))), fun k => wt ws.length k (runH k (Start ws D)), fun k => wt ws.length k (taken (taken (runH k (Start ws D)))), ⟨hN, x0, fun k hk => (stp k hk).perm, fun k hk => (stp k hk).next, fun k hk => ?_, fun k hk => ?_, fun k hk => ?_, fun k hk x hx => ?_, fun k hk x hx => ?_, fun i j h1 h2 h3 => ?_, fun i hi => ?_⟩, fun i hi => ?_⟩
  · obtain ⟨la, lb, _⟩ := taken_ab k hk
    rw [wfin (ws.length - 1 - (k + 1)) (k + 1) (by omega) _ (by omega), (stp k hk).new, wk k hk _ la, wk k hk _ lb]
  · obtain ⟨la, lb, na, nb⟩ := taken_ab k hk
    show ((treeOf ws D).into.getD _ 0).toNat = _
    rw [ifin (ws.length - 1 - (k + 1)) (k + 1) (by omega) _ (by omega) na, (stp k hk).ia]
    omega
  · obtain ⟨la, lb, na, nb⟩ := taken_ab k hk
    show ((treeOf ws D).into.getD _ 0).toNat = _
    rw [ifin (ws.length - 1 - (k + 1)) (k + 1) (by omega) _ (by omega) nb, (stp k hk).ib]
    omega
  · obtain ⟨la, lb, na, nb⟩ := taken_ab k hk
    have := (stp k hk).mA x hx
    have hx2 := (xl k (by omega)).1 x ((stp k hk).perm.mem_iff.2 (List.mem_cons_of_mem _ hx))
    unfold RI at this ⊢
    rw [wk k hk _ la, wk k hk _ hx2]
    exact this
  · obtain ⟨la, lb, na, nb⟩ := taken_ab k hk
    have := (stp k hk).mB x hx
    have hx2 := (xl k (by omega)).1 x ((stp k hk).perm.mem_iff.2 (List.mem_cons_of_mem _ (List.mem_cons_of_mem _ hx)))
    unfold RI at this ⊢
    rw [wk k hk _ lb, wk k hk _ hx2]
    exact this
  · obtain ⟨h, last, s⟩ := all (ws.length - 1) (by omega)
    exact s.js i j h1 h2 (by omega)
  · obtain ⟨h, last, s⟩ := all (ws.length - 1) (by omega)
    exact (h.pos i (by omega)).1
  · rw [wk 0 (by omega) i (by omega)]
    rfl

end Go.Proofs.YtdagfcflbphoiaaDoor
/- The merging of weights: what depths come to. No program in sight. -/
namespace Go.Proofs.YtdagfcflbphoiaaDoor
set_option linter.unusedVariables false
set_option linter.unusedSimpArgs false
open Hu

theorem sumI_perm {a b : List Int} (h : a.Perm b) : sumI a = sumI b := by
  induction h with
  | nil => rfl
  | cons x _ ih => simp only [sumI, ih]
  | swap x y l => simp only [sumI]; omega
  | trans _ _ ih1 ih2 => exact ih1.trans ih2

section
variable {N : Nat} {w : Nat → Int} {I A B : Nat → Nat} {X R : Nat → List Nat}
theorem Merge.lt (m : Merge N w I A B X R) {k : Nat} (hk : k + 1 ≤ N) {x : Nat} (hx : x ∈ X k) : x < N + k := (x_lt m.x0 m.st m.nx k hk).1 x hx
theorem Merge.len (m : Merge N w I A B X R) {k : Nat} (hk : k + 1 ≤ N) : (X k).length = N - k := (x_lt m.x0 m.st m.nx k hk).2.2
theorem Merge.last (m : Merge N w I A B X R) : X (N - 1) = [2 * N - 2] := by
  have hN := m.two
  have hl := m.len (k := N - 1) (by omega)
  have hx : 2 * N - 2 ∈ X (N - 1) := by
    have := m.nx (N - 2) (by omega)
    rw [show N - 2 + 1 = N - 1 by omega] at this
    exact this.mem_iff.2 (by rw [show N + (N - 2) = 2 * N - 2 by omega]; simp)
  obtain ⟨y, hy⟩ := List.length_eq_one_iff.1 (show (X (N - 1)).length = 1 by omega)
  rw [hy] at hx ⊢
  rw [List.mem_singleton.1 hx]
theorem Merge.aX (m : Merge N w I A B X R) {k : Nat} (hk : k + 2 ≤ N) : A k ∈ X k ∧ B k ∈ X k ∧ (∀ x ∈ R k, x ∈ X k) ∧ (∀ x ∈ R k, x ∈ X (k + 1)) ∧ N + k ∈ X (k + 1) := by
  have p := m.st k hk
  have q := m.nx k hk
  exact ⟨p.mem_iff.2 (by simp), p.mem_iff.2 (by simp), fun x hx => p.mem_iff.2 (by simp [hx]), fun x hx => q.mem_iff.2 (by simp [hx]), q.mem_iff.2 (by simp)⟩
theorem Merge.in_or (m : Merge N w I A B X R) : ∀ k, k + 1 ≤ N → ∀ p, p < N + k → p ∈ X k ∨ I p < N + k := by
  intro k
  induction k with
  | zero => intro _ p hp; exact .inl (m.x0.mem_iff.2 (List.mem_range.2 (by omega)))
  | succ k ih =>
    intro hk p hp
    obtain ⟨h1, h2, h3, h4, h5⟩ := m.aX hk
    by_cases e : p = N + k
    · exact .inl (by rw [e]; exact h5)
    · rcases ih (by omega) p (by omega) with q | q
      · rcases List.mem_cons.1 ((m.st k hk).mem_iff.1 q) with r | r
        · right; rw [r, m.ia k hk]; omega
        · rcases List.mem_cons.1 r with r | r
          · right; rw [r, m.ib k hk]; omega
          · exact .inl (h4 p r)
      · right; omega
theorem Merge.ge (m : Merge N w I A B X R) : ∀ d k, k + d + 1 = N → ∀ x ∈ X k, x = 2 * N - 2 ∨ N + k ≤ I x := by
  intro d
  induction d with
  | zero =>
    intro k hk x hx
    have := m.last
    rw [show N - 1 = k by omega] at this
    rw [this] at hx
    exact .inl (List.mem_singleton.1 hx)
  | succ d ih =>
    intro k hk x hx
    have hk2 : k + 2 ≤ N := by omega
    rcases List.mem_cons.1 ((m.st k hk2).mem_iff.1 hx) with r | r
    · right; rw [r, m.ia k hk2]; exact Nat.le_refl _
    · rcases List.mem_cons.1 r with r | r
      · right; rw [r, m.ib k hk2]; exact Nat.le_refl _
      · rcases ih (k + 1) (by omega) x ((m.aX hk2).2.2.2.1 x r) with q | q
        · exact .inl q
        · right; omega
theorem Merge.ge' (m : Merge N w I A B X R) {k : Nat} (hk : k + 1 ≤ N) {x : Nat} (hx : x ∈ X k) (hr : x ≠ 2 * N - 2) : N + k ≤ I x := (m.ge (N - 1 - k) k (by omega) x hx).resolve_left hr
theorem Merge.up (m : Merge N w I A B X R) {i : Nat} (hi : i < 2 * N - 2) : i < I i ∧ I i ≤ 2 * N - 2 ∧ N ≤ I i := by
  have hN := m.two
  have h1 : I i ≤ 2 * N - 2 := by
    rcases m.in_or (N - 1) (by omega) i (by omega) with q | q
    · rw [m.last] at q
      have := List.mem_singleton.1 q
      omega
    · omega
  by_cases hl : i < N
  · have := m.ge' (k := 0) (by omega) (m.x0.mem_iff.2 (List.mem_range.2 hl)) (by omega)
    omega
  · have := m.ge' (k := i - N + 1) (by omega) (x := i) (by have := (m.aX (k := i - N) (by omega)).2.2.2.2; rwa [show N + (i - N) = i by omega] at this) (by omega)
    omega
theorem Merge.inv (m : Merge N w I A B X R) {q k : Nat} (hk : k + 2 ≤ N) (hq : q < 2 * N - 2) (h : I q = N + k) : q ∈ X k ∧ (q = A k ∨ q = B k) := by
  have hu := (m.up hq).1
  have h1 : q ∈ X k := by
    rcases m.in_or k (by omega) q (by omega) with r | r
    · exact r
    · omega
  refine ⟨h1, ?_⟩
  rcases List.mem_cons.1 ((m.st k hk).mem_iff.1 h1) with r | r
  · exact .inl r
  · rcases List.mem_cons.1 r with r | r
    · exact .inr r
    · have := m.ge' (k := k + 1) (by omega) ((m.aX hk).2.2.2.1 q r) (by omega)
      omega
/-- what was made later is no deeper -/
theorem Merge.mid (m : Merge N w I A B X R) {dep : Nat → Nat} (d0 : dep (2 * N - 2) = 0) (d1 : ∀ i, i < 2 * N - 2 → dep i = dep (I i) + 1) : ∀ f p q, 2 * N - 2 - p ≤ f → N ≤ p → p ≤ q → q ≤ 2 * N - 2 → dep q ≤ dep p := by
  intro f
  induction f with
  | zero =>
    intro p q hf h1 h2 h3
    obtain rfl : p = q := by omega
    exact Nat.le_refl _
  | succ f ih =>
    intro p q hf h1 h2 h3
    by_cases e : q = 2 * N - 2
    · rw [e, d0]; omega
    by_cases e2 : p = q
    · rw [e2]; exact Nat.le_refl _
    rw [d1 p (by omega), d1 q (by omega)]
    have up := m.up (show p < 2 * N - 2 by omega)
    have uq := m.up (show q < 2 * N - 2 by omega)
    have hle : I p ≤ I q := by
      obtain ⟨k, hk⟩ : ∃ k, I q = N + k := ⟨I q - N, by omega⟩
      have hk2 : k + 2 ≤ N := by omega
      obtain ⟨hx, hab⟩ := m.inv hk2 (by omega) hk
      have hlt := m.lt (by omega) hx
      rw [hk]
      rcases m.in_or k (by omega) p (by omega) with r | r
      · rcases List.mem_cons.1 ((m.st k hk2).mem_iff.1 r) with s | s
        · rw [s, m.ia k hk2]; exact Nat.le_refl _
        · rcases List.mem_cons.1 s with s | s
          · rw [s, m.ib k hk2]; exact Nat.le_refl _
          · have hRI : RI w q p := by
              rcases hab with t | t
              · rw [t]; exact m.mA k hk2 p (List.mem_cons_of_mem _ s)
              · rw [t]; exact m.mB k hk2 p s
            have := m.mono p q h1 h2 h3
            unfold RI at hRI
            omega
      · omega
    have := ih (I p) (I q) (by omega) (by omega) hle (by omega)
    omega
/-- of two symbols the one with the greater weight has no greater depth -/
theorem Merge.order (m : Merge N w I A B X R) {dep : Nat → Nat} (d0 : dep (2 * N - 2) = 0) (d1 : ∀ i, i < 2 * N - 2 → dep i = dep (I i) + 1) {x y : Nat} (hx : x < N) (hy : y < N) (hw : w y < w x) : dep x ≤ dep y := by
  have hN := m.two
  have ux := m.up (show x < 2 * N - 2 by omega)
  have uy := m.up (show y < 2 * N - 2 by omega)
  obtain ⟨k, hk⟩ : ∃ k, I y = N + k := ⟨I y - N, by omega⟩
  have hk2 : k + 2 ≤ N := by omega
  have hge : N + k ≤ I x := by
    rcases m.in_or k (by omega) x (by omega) with r | r
    · exact m.ge' (by omega) r (by omega)
    · exfalso
      obtain ⟨j, hj⟩ : ∃ j, I x = N + j := ⟨I x - N, by omega⟩
      obtain ⟨hxj, hab⟩ := m.inv (by omega) (by omega) hj
      have hyj : y ∈ X j := by
        rcases m.in_or j (by omega) y (by omega) with s | s
        · exact s
        · omega
      have hj2 : j + 2 ≤ N := by omega
      have hRI : RI w x y := by
        rcases List.mem_cons.1 ((m.st j hj2).mem_iff.1 hyj) with s | s
        · have := m.ia j hj2; rw [← s] at this; omega
        · rcases List.mem_cons.1 s with t | t
          · have := m.ib j hj2; rw [← t] at this; omega
          · rcases hab with u | u
            · rw [u]; exact m.mA j hj2 y s
            · rw [u]; exact m.mB j hj2 y t
      unfold RI at hRI
      omega
  rw [d1 x (by omega), d1 y (by omega), hk]
  have := m.mid d0 d1 (2 * N) (N + k) (I x) (by omega) (by omega) hge (by omega)
  omega
/-- depths are bounded by how many trees there are -/
theorem Merge.dep_le (m : Merge N w I A B X R) {dep : Nat → Nat} (d0 : dep (2 * N - 2) = 0) (d1 : ∀ i, i < 2 * N - 2 → dep i = dep (I i) + 1) : ∀ f i, 2 * N - 2 - i ≤ f → i ≤ 2 * N - 2 → dep i ≤ 2 * N - 2 - i := by
  intro f
  induction f with
  | zero => intro i h1 h2; obtain rfl : i = 2 * N - 2 := by omega
            rw [d0]; omega
  | succ f ih =>
    intro i h1 h2
    by_cases e : i = 2 * N - 2
    · rw [e, d0]; omega
    · have u := m.up (show i < 2 * N - 2 by omega)
      have := ih (I i) (by omega) (by omega)
      rw [d1 i (by omega)]
      omega
/-- a sum over what waits that no join changes -/
theorem Merge.keeps (m : Merge N w I A B X R) (f : Nat → Int) (hf : ∀ k, k + 2 ≤ N → f (A k) + f (B k) = f (N + k)) : ∀ k, k + 1 ≤ N → sumI ((X k).map f) = f (2 * N - 2) := by
  have hN := m.two
  have : ∀ d k, k + d + 1 = N → sumI ((X k).map f) = f (2 * N - 2) := by
    intro d
    induction d with
    | zero =>
      intro k hk
      have := m.last
      rw [show N - 1 = k by omega] at this
      rw [this]
      simp [sumI]
    | succ d ih =>
      intro k hk
      have hk2 : k + 2 ≤ N := by omega
      have h1 := ih (k + 1) (by omega)
      rw [sumI_perm ((m.nx k hk2).map f)] at h1
      rw [sumI_perm ((m.st k hk2).map f)]
      simp only [List.map_cons, sumI] at h1 ⊢
      have := hf k hk2
      omega
  exact fun k hk => this (N - 1 - k) k (by omega)
theorem Merge.ab_lt (m : Merge N w I A B X R) {k : Nat} (hk : k + 2 ≤ N) : A k < 2 * N - 2 ∧ B k < 2 * N - 2 := by
  have h := m.aX hk
  have := m.lt (by omega) h.1
  have := m.lt (by omega) h.2.1
  omega
theorem Merge.dep_ab (m : Merge N w I A B X R) {dep : Nat → Nat} (d1 : ∀ i, i < 2 * N - 2 → dep i = dep (I i) + 1) {k : Nat} (hk : k + 2 ≤ N) : dep (A k) = dep (N + k) + 1 ∧ dep (B k) = dep (N + k) + 1 := by
  have h := m.ab_lt hk
  rw [d1 _ h.1, d1 _ h.2, m.ia k hk, m.ib k hk]
  exact ⟨rfl, rfl⟩
/-- the share of all depths -/
theorem Merge.kraft (m : Merge N w I A B X R) {dep : Nat → Nat} (d0 : dep (2 * N - 2) = 0) (d1 : ∀ i, i < 2 * N - 2 → dep i = dep (I i) + 1) (M : Nat) (hM : 2 * N ≤ M) : sumI ((List.range N).map fun i => (2 : Int) ^ (M - dep i)) = 2 ^ M := by
  have hN := m.two
  have h := m.keeps (fun i => (2 : Int) ^ (M - dep i)) (fun k hk => by
    obtain ⟨e1, e2⟩ := m.dep_ab d1 hk
    have hb := m.dep_le d0 d1 (2 * N) (N + k) (by omega) (by omega)
    show (2 : Int) ^ (M - dep (A k)) + 2 ^ (M - dep (B k)) = 2 ^ (M - dep (N + k))
    rw [e1, e2, show M - dep (N + k) = (M - (dep (N + k) + 1)) + 1 by omega, Int.pow_succ]
    omega) 0 (by omega)
  rw [sumI_perm (m.x0.map _), d0] at h
  exact h
/-- the weight of all -/
theorem Merge.root (m : Merge N w I A B X R) : sumI ((List.range N).map w) = w (2 * N - 2) := by
  have hN := m.two
  have h := m.keeps w (fun k hk => (m.wn k hk).symm) 0 (by omega)
  rw [sumI_perm (m.x0.map _)] at h
  exact h
/-- no tree that waits is lighter than one that was taken -/
theorem Merge.above (m : Merge N w I A B X R) {c : Int} (h0 : 0 ≤ c) : ∀ d k, (∀ x ∈ X k, c ≤ w x) → k + d + 1 ≤ N → ∀ x ∈ X (k + d), c ≤ w x := by
  intro d
  induction d with
  | zero => intro k h _; exact h
  | succ d ih =>
    intro k h hk x hx
    have p := ih k h (by omega)
    have hk2 : (k + d) + 2 ≤ N := by omega
    have a := m.aX hk2
    rcases List.mem_cons.1 ((m.nx (k + d) hk2).mem_iff.1 hx) with e | e
    · rw [e, m.wn _ hk2]
      have := p _ a.1
      have := p _ a.2.1
      omega
    · exact p x (a.2.2.1 x e)
theorem Merge.twice (m : Merge N w I A B X R) {x : Nat} (hx : x < 2 * N - 2) (hx2 : I x < 2 * N - 2) : w x ≤ w (I x) ∧ 2 * w x ≤ w (I (I x)) := by
  have u := m.up hx
  have u2 := m.up hx2
  obtain ⟨k, hk⟩ : ∃ k, I x = N + k := ⟨I x - N, by omega⟩
  obtain ⟨j, hj⟩ : ∃ j, I (I x) = N + j := ⟨I (I x) - N, by omega⟩
  have hk2 : k + 2 ≤ N := by omega
  have hj2 : j + 2 ≤ N := by omega
  have a := m.aX hk2
  have hB : w x ≤ w (B k) ∧ w x ≤ w (N + k) := by
    have := (m.inv hk2 hx hk).2
    have hAB := m.mA k hk2 (B k) (by simp)
    have := m.wn k hk2
    have := m.pos (A k) (by have := m.ab_lt hk2; omega)
    have := m.pos (B k) (by have := m.ab_lt hk2; omega)
    unfold RI at hAB
    rcases (m.inv hk2 hx hk).2 with e | e <;> rw [e] <;> omega
  refine ⟨by rw [hk]; exact hB.2, ?_⟩
  have ab := m.above (m.pos x (by omega)) (j - (k + 1)) (k + 1) (fun y hy => by
    rcases List.mem_cons.1 ((m.nx k hk2).mem_iff.1 hy) with e | e
    · rw [e]; exact hB.2
    · have := m.mB k hk2 y e
      unfold RI at this
      omega) (by omega)
  rw [show k + 1 + (j - (k + 1)) = j by omega] at ab
  have b := m.aX hj2
  rw [hj, m.wn j hj2]
  have := ab _ b.1
  have := ab _ b.2.1
  omega
theorem Merge.deep (m : Merge N w I A B X R) {dep : Nat → Nat} (d0 : dep (2 * N - 2) = 0) (d1 : ∀ i, i < 2 * N - 2 → dep i = dep (I i) + 1) : ∀ f x, 2 * N - 2 - x ≤ f → x ≤ 2 * N - 2 → w x * 2 ^ (dep x / 2) ≤ w (2 * N - 2) := by
  intro f
  induction f with
  | zero =>
    intro x h1 h2
    obtain rfl : x = 2 * N - 2 := by omega
    rw [d0]
    simp
  | succ f ih =>
    intro x h1 h2
    by_cases e : x = 2 * N - 2
    · rw [e, d0]; simp
    have u := m.up (show x < 2 * N - 2 by omega)
    by_cases e2 : I x = 2 * N - 2
    · rw [d1 x (by omega), e2, d0]
      obtain ⟨k, hk⟩ : ∃ k, I x = N + k := ⟨I x - N, by omega⟩
      have hk2 : k + 2 ≤ N := by omega
      have h3 := (m.inv hk2 (by omega) hk).2
      have h4 := m.wn k hk2
      rw [← hk, e2] at h4
      have := m.pos (A k) (by have := m.ab_lt hk2; omega)
      have := m.pos (B k) (by have := m.ab_lt hk2; omega)
      simp
      rcases h3 with r | r <;> rw [r] <;> omega
    · have u2 := m.up (show I x < 2 * N - 2 by omega)
      have t := (m.twice (show x < 2 * N - 2 by omega) (by omega)).2
      rw [d1 x (by omega), d1 (I x) (by omega)]
      have := ih (I (I x)) (by omega) (by omega)
      rw [show (dep (I (I x)) + 1 + 1) / 2 = dep (I (I x)) / 2 + 1 by omega, Int.pow_succ, ← Int.mul_assoc, Int.mul_comm (w x) _, Int.mul_assoc]
      refine Int.le_trans ?_ this
      rw [Int.mul_comm]
      exact Int.mul_le_mul_of_nonneg_right (by omega) (Int.pow_nonneg (by omega))
end
/-- depths of N weights, each at least one, that come to less than 2 ^ 10 -/
theorem Merge.short {N : Nat} {w : Nat → Int} {I A B : Nat → Nat} {X R : Nat → List Nat} (m : Merge N w I A B X R) {dep : Nat → Nat} (d0 : dep (2 * N - 2) = 0) (d1 : ∀ i, i < 2 * N - 2 → dep i = dep (I i) + 1) {x : Nat} (hx : x < N) (h1 : 1 ≤ w x) (hs : w (2 * N - 2) < 1024) : dep x ≤ 19 := by
  have hN := m.two
  have h := m.deep d0 d1 (2 * N) x (by omega) (by omega)
  apply Decidable.byContradiction
  intro hc
  have h2 : (2 : Int) ^ 10 ≤ 2 ^ (dep x / 2) := by
    have : (2 : Nat) ^ 10 ≤ 2 ^ (dep x / 2) := Nat.pow_le_pow_right (by omega) (by omega)
    exact_mod_cast this
  have h3 : (2 : Int) ^ (dep x / 2) ≤ w x * 2 ^ (dep x / 2) := by
    have : (1 : Int) * 2 ^ (dep x / 2) ≤ w x * 2 ^ (dep x / 2) := Int.mul_le_mul_of_nonneg_right h1 (Int.pow_nonneg (by omega))
    omega
  omega

end Go.Proofs.YtdagfcflbphoiaaDoor
/- Depths as a plain function of weights, and what they obey. No program in sight. -/
namespace Go.Proofs.YtdagfcflbphoiaaDoor
set_option linter.unusedVariables false
set_option linter.unusedSimpArgs false
open Hu

theorem fill_keep (into : List Int) : ∀ (i : Nat) (out : List Int) (j : Nat), i ≤ j → (fillD into i out).getD j 0 = out.getD j 0
  | 0, out, j, _ => rfl
  | i + 1, out, j, h => by
    unfold fillD
    rw [fill_keep into i _ j (by omega), getD_setI, if_neg (by omega)]
theorem fill_rec (into : List Int) (T : Nat) : ∀ (i : Nat) (out : List Int), out.length = T → i ≤ T → (∀ j, j < i → j < (into.getD j 0).toNat ∧ (into.getD j 0).toNat < T) → ∀ j, j < i → (fillD into i out).getD j 0 = (fillD into i out).getD (into.getD j 0).toNat 0 + 1
  | 0, out, _, _, _, j, hj => by omega
  | i + 1, out, hl, hi, hin, j, hj => by
    have h0 := hin i (by omega)
    unfold fillD
    by_cases e : j = i
    · subst e
      rw [fill_keep into j _ j (by omega), fill_keep into j _ _ (by omega), getD_setI, getD_setI, if_pos ⟨rfl, by omega⟩, if_neg (by omega)]
    · exact fill_rec into T i _ (by rw [List.length_set]; exact hl) (by omega) (fun j hj => hin j (by omega)) j (by omega)
theorem fill_pos (into : List Int) : ∀ (i : Nat) (out : List Int), (∀ j, 0 ≤ out.getD j 0) → ∀ j, 0 ≤ (fillD into i out).getD j 0
  | 0, out, h, j => h j
  | i + 1, out, h, j => by
    unfold fillD
    refine fill_pos into i _ (fun j => ?_) j
    rw [getD_setI]
    have := h j
    have := h (into.getD i 0).toNat
    split <;> omega

/-- the merging of weights and the depths that come of it -/
structure Deps (ws : List Int) (D : List Nat) (w : Nat → Int) (I A B : Nat → Nat) (X R : Nat → List Nat) (dep : Nat → Nat) : Prop where
  m : Merge ws.length w I A B X R
  d0 : dep (2 * ws.length - 2) = 0
  d1 : ∀ i, i < 2 * ws.length - 2 → dep i = dep (I i) + 1
  ww : ∀ i, i < ws.length → w i = ws.getD i 0
  eq : depthsP ws D = (List.range ws.length).map fun i => (dep i : Int)
theorem deps_of {ws : List Int} {D : List Nat} (hN : 2 ≤ ws.length) (hp : D.Perm (List.range ws.length)) (hs : D.Pairwise (RI (keyW ws))) (hw : ∀ x ∈ ws, 0 ≤ x) : ∃ w I A B X R dep, Deps ws D w I A B X R dep := by
  obtain ⟨A, B, X, R, m, ww⟩ := merge_of hN hp hs hw
  obtain ⟨out, hout⟩ : ∃ out, fillD (treeOf ws D).into (2 * ws.length - 2) (List.replicate (2 * ws.length - 1) 0) = out := ⟨_, rfl⟩
  have hpos : ∀ j, 0 ≤ out.getD j 0 := by
    rw [← hout]
    refine fill_pos _ _ _ fun j => ?_
    rw [List.getD_eq_getElem?_getD, List.getElem?_replicate]
    split <;> simp
  have hlen : out.length = 2 * ws.length - 1 := by rw [← hout, fillD_len, List.length_replicate]
  refine ⟨_, _, A, B, X, R, fun i => (out.getD i 0).toNat, m, ?_, fun i hi => ?_, ww, ?_⟩
  · rw [← hout, fill_keep _ _ _ _ (Nat.le_refl _), List.getD_eq_getElem?_getD, List.getElem?_replicate]
    split <;> rfl
  · have h1 := fill_rec (treeOf ws D).into (2 * ws.length - 1) (2 * ws.length - 2) (List.replicate (2 * ws.length - 1) 0) (by rw [List.length_replicate]) (by omega) (fun j hj => by
      have := m.up hj
      omega) i hi
    rw [hout] at h1
    have := hpos ((treeOf ws D).into.getD i 0).toNat
    show (out.getD i 0).toNat = (out.getD ((treeOf ws D).into.getD i 0).toNat 0).toNat + 1
    rw [h1]
    omega
  · unfold depthsP
    rw [hout]
    apply List.ext_getElem
    · simp [hlen]; omega
    · intro i h1 h2
      have h3 : i < ws.length := by simpa using h2
      have := hpos i
      rw [List.getD_eq_getElem?_getD, List.getElem?_eq_getElem (by omega)] at this
      simp only [List.getElem_take, List.getElem_map, List.getElem_range]
      rw [List.getD_eq_getElem?_getD, List.getElem?_eq_getElem (by omega)]
      simp only [Option.getD_some] at this ⊢
      omega

theorem sorted_one {k : Nat → Int} : ∀ {a b : List Nat}, a.Perm b → a.Pairwise (RI k) → b.Pairwise (RI k) → a = b
  | [], b, h, _, _ => (List.nil_perm.1 h).symm
  | x :: a, [], h, _, _ => by simp at h
  | x :: a, y :: b, h, h1, h2 => by
    have h1' := List.pairwise_cons.1 h1
    have h2' := List.pairwise_cons.1 h2
    have e : x = y := by
      have m1 : x ∈ y :: b := h.mem_iff.1 (by simp)
      have m2 : y ∈ x :: a := h.mem_iff.2 (by simp)
      rcases List.mem_cons.1 m1 with e | e
      · exact e
      · rcases List.mem_cons.1 m2 with e2 | e2
        · exact e2.symm
        · have r1 := h2'.1 x e
          have r2 := h1'.1 y e2
          unfold RI at r1 r2
          omega
    subst e
    rw [sorted_one h.cons_inv h1'.2 h2'.2]
def Sorts (ws : List Int) (D : List Nat) : Prop := D.Perm (List.range ws.length) ∧ D.Pairwise (RI (keyW ws))
theorem Sorts.one {ws : List Int} {D E : List Nat} (h : Sorts ws D) (k : Sorts ws E) : D = E := sorted_one (h.1.trans k.1.symm) h.2 k.2
open Classical in
noncomputable def sortD (ws : List Int) : List Nat := if h : ∃ D, Sorts ws D then h.choose else []
theorem Sorts.eq {ws : List Int} {D : List Nat} (h : Sorts ws D) : sortD ws = D := by
  unfold sortD
  have hx : ∃ D, Sorts ws D := ⟨D, h⟩
  rw [dif_pos hx]
  exact hx.choose_spec.one h
/-- the depths of weights -/
noncomputable def depF (ws : List Int) : List Int := depthsP ws (sortD ws)
theorem Sorts.dep {ws : List Int} {D : List Nat} (h : Sorts ws D) : depthsP ws D = depF ws := by unfold depF; rw [h.eq]

theorem getD_map_range {f : Nat → Int} {n i : Nat} (h : i < n) : ((List.range n).map f).getD i 0 = f i := by
  rw [List.getD_eq_getElem?_getD, List.getElem?_map, List.getElem?_range h]
  rfl
section
variable {ws : List Int} {D : List Nat} {w : Nat → Int} {I A B : Nat → Nat} {X R : Nat → List Nat} {dep : Nat → Nat}
theorem Deps.at_ (d : Deps ws D w I A B X R dep) {i : Nat} (h : i < ws.length) : (depthsP ws D).getD i 0 = dep i := by
  rw [d.eq, getD_map_range h]
theorem Deps.ge1 (d : Deps ws D w I A B X R dep) {i : Nat} (h : i < ws.length) : 1 ≤ dep i := by
  have := d.m.two
  rw [d.d1 i (by omega)]
  omega
theorem Deps.le (d : Deps ws D w I A B X R dep) {i : Nat} (h : i < ws.length) : dep i < ws.length := by
  have hN := d.m.two
  have u := d.m.up (show i < 2 * ws.length - 2 by omega)
  have := d.m.dep_le d.d0 d.d1 (2 * ws.length) (I i) (by omega) (by omega)
  rw [d.d1 i (by omega)]
  omega
theorem Deps.mem (d : Deps ws D w I A B X R dep) {P : Int → Prop} : (∀ x ∈ depthsP ws D, P x) ↔ ∀ i, i < ws.length → P (dep i) := by
  rw [d.eq]
  simp
end

/-- shares -/
def shr1 (x : Int) : Int := 2 ^ (20 - x).toNat
def shrL (xs : List Int) : Int := sumI (xs.map shr1)
theorem Deps.share {ws : List Int} {D : List Nat} {w : Nat → Int} {I A B : Nat → Nat} {X R : Nat → List Nat} {dep : Nat → Nat} (d : Deps ws D w I A B X R dep) (h : ∀ x ∈ depthsP ws D, x ≤ 20) : shrL (depthsP ws D) = 1048576 := by
  have h := d.mem.1 h
  have hN := d.m.two
  obtain ⟨M, hM⟩ : ∃ M, M = 2 * ws.length + 20 := ⟨_, rfl⟩
  have hk := d.m.kraft d.d0 d.d1 M (by omega)
  have e : ∀ l : List Nat, (∀ i ∈ l, i < ws.length) → sumI (l.map fun i => (2 : Int) ^ (M - dep i)) = 2 ^ (M - 20) * sumI (l.map fun i => shr1 (dep i)) := by
    intro l
    induction l with
    | nil => intro _; simp [sumI]
    | cons x l ih =>
      intro hl
      have hx := h x (hl x (by simp))
      simp only [List.map_cons, sumI]
      rw [ih (fun i hi => hl i (by simp [hi])), Int.mul_add]
      congr 1
      unfold shr1
      rw [← Int.pow_add]
      congr 1
      omega
  rw [e _ (fun i hi => List.mem_range.1 hi)] at hk
  unfold shrL
  rw [d.eq, List.map_map]
  have hk2 : (2 : Int) ^ M = 2 ^ (M - 20) * 1048576 := by
    rw [show (1048576 : Int) = 2 ^ 20 by rfl, ← Int.pow_add]
    congr 1
    omega
  rw [hk2] at hk
  exact Int.eq_of_mul_eq_mul_left (Int.ne_of_gt (Int.pow_pos (by omega))) hk

end Go.Proofs.YtdagfcflbphoiaaDoor
/- Depths, halved weights, shares, lengths: the program's own functions, by the second form. -/
namespace Go.Proofs.YtdagfcflbphoiaaDoor
set_option linter.unusedVariables false
set_option linter.unusedSimpArgs false
open Go.RowKit Ev Hu

theorem sumI_bound (c : Int) : ∀ l : List Int, (∀ x ∈ l, x ≤ c) → sumI l ≤ l.length * c
  | [], _ => by simp [sumI]
  | x :: l, h => by
    have ih := sumI_bound c l (fun y hy => h y (by simp [hy]))
    have := h x (by simp)
    simp only [sumI, List.length_cons]
    rw [show ((l.length + 1 : Nat) : Int) * c = l.length * c + c by rw [show ((l.length + 1 : Nat) : Int) = (l.length : Int) + 1 by omega, Int.add_mul, Int.one_mul]]
    omega
theorem sum_fits {ws : List Int} (hl : ws.length ≤ 258) (hw : ∀ x ∈ ws, x ≤ 2199023255552) : sumI ws ≤ 1152921504606846976 := by
  have h := sumI_bound 2199023255552 ws hw
  have : (ws.length : Int) * 2199023255552 ≤ 258 * 2199023255552 := Int.mul_le_mul_of_nonneg_right (by omega) (by omega)
  omega

/-- weights that may be -/
structure Ws (ws : List Int) : Prop where
  l2 : 2 ≤ ws.length
  l3 : ws.length ≤ 258
  lo : ∀ x ∈ ws, 0 ≤ x
  hi : ∀ x ∈ ws, x ≤ 2199023255552
theorem depF_len {ws : List Int} (h : 1 ≤ ws.length) : (depF ws).length = ws.length := depthsP_len _ _ h
theorem s_depF (lf d n : Nat) (h : H) (v : Value) (ws : List Int) (hR : Row h n 3 .i64 v ws) (hW : Ws ws) (hlf : 3000000 ≤ lf) (hd : 300 ≤ d) :
    Run (fun _ => False) n (evCall2 Tryd.prog gt lf d 53 #[v]) h n fun v' h' n' => Sorts ws (sortD ws) ∧ Row h' n' 3 .i64 v' (depF ws) ∧ ∀ b, InBlk v' b → n ≤ b := by
  obtain ⟨e, rfl⟩ : ∃ e, d = e + ws.length + 8 := ⟨d - ws.length - 8, by have := hW.l3; omega⟩
  have hl3 := hW.l3
  refine (s_depths lf e n h v ws hR hW.l2 (by omega) hlf hW.lo (sum_fits hW.l3 hW.hi)).mono ?_
  rintro v' h' n' _ ⟨D, hp, hs, hr, hb⟩
  have so : Sorts ws D := ⟨hp, hs⟩
  rw [so.dep] at hr
  exact ⟨by rw [so.eq]; exact so, hr, hb⟩
theorem Ws.deps {ws : List Int} (hW : Ws ws) (so : Sorts ws (sortD ws)) : ∃ w I A B X R dep, Deps ws (sortD ws) w I A B X R dep := deps_of hW.l2 so.1 so.2 hW.lo

def halv1 (x : Int) : Int := (if x < 0 then 0 else x).tdiv 2 + 1
def halvL (xs : List Int) : List Int := xs.map halv1
theorem halv_bound (x : Int) (h : x ≤ 9223372036854775807) : 1 ≤ halv1 x ∧ halv1 x ≤ 4611686018427387904 ∧ (0 ≤ x → halv1 x = x / 2 + 1) := by
  unfold halv1
  have : (if x < 0 then 0 else x).tdiv 2 = (if x < 0 then 0 else x) / 2 := Int.tdiv_eq_ediv_of_nonneg (by split <;> omega)
  rw [this]
  split <;> omega
theorem halv_wrap (x : Int) (h : x ≤ 9223372036854775807) : IntKind.i64.wrap ((if x < 0 then 0 else x).tdiv 2) = (if x < 0 then 0 else x).tdiv 2 ∧ IntKind.i64.wrap ((if x < 0 then 0 else x).tdiv 2 + 1) = halv1 x := by
  have := halv_bound x h
  unfold halv1 at this ⊢
  exact ⟨wrap_id (by omega) (by omega), wrap_id (by omega) (by omega)⟩
theorem halvL_len (xs : List Int) : (halvL xs).length = xs.length := by unfold halvL; simp
theorem halvL_at {xs : List Int} {i : Nat} (h : i < xs.length) : (halvL xs).getD i 0 = halv1 (xs.getD i 0) := by
  unfold halvL
  rw [List.getD_eq_getElem?_getD, List.getElem?_map, List.getElem?_eq_getElem h, List.getD_eq_getElem?_getD, List.getElem?_eq_getElem h]
  rfl
/-- a row that is written from the front -/
def part (L : List Int) (i : Nat) : List Int := L.take i ++ List.replicate (L.length - i) 0
theorem part_len (L : List Int) {i : Nat} (h : i ≤ L.length) : (part L i).length = L.length := by unfold part; simp; omega
theorem part_set {L : List Int} {i : Nat} (h : i < L.length) : (part L i).set i (L.getD i 0) = part L (i + 1) := by
  unfold part
  rw [List.set_append_right _ _ (by simp; omega), List.length_take, Nat.min_eq_left (by omega), Nat.sub_self]
  obtain ⟨e, he⟩ : ∃ e, L.length - i = e + 1 := ⟨L.length - i - 1, by omega⟩
  rw [he, List.replicate_succ, List.set_cons_zero, show L.length - (i + 1) = e by omega, List.take_succ_eq_append_getElem h, List.append_assoc]
  rw [List.getD_eq_getElem?_getD, List.getElem?_eq_getElem h]
  rfl
theorem part_all (L : List Int) : part L L.length = L := by unfold part; simp
theorem part_0 (L : List Int) : part L 0 = List.replicate L.length 0 := by unfold part; simp
theorem hvL (lf d n : Nat) (h : H) (v : Value) (xs : List Int) (hR : Row h n 3 .i64 v xs) (hl : xs.length ≤ 1000000) (hx : ∀ x ∈ xs, x ≤ 9223372036854775807) (x2 : Value) (c : Nat) (hc : xs.length ≤ c) {W : Nat → Prop} {n0 : Nat} (hn0 : n0 ≤ n) :
    ∀ (m i fu : Nat) (h1 : H), xs.length - i = m → m < fu → i ≤ xs.length → (∀ b, b < n → h1.get b = h.get b) → h1.get n = some ⟨3, true, ints (part (halvL xs) i)⟩ →
      Run W n0 (lpA_lens_Halved lf d fu (kcA_lens_Halved lf d) v x2 (.slice (some ⟨n, 0, none⟩) xs.length c) v (.int .i64 (xs.length : Nat)) (.int .i64 (i : Nat))) h1 (n + 1) (fun v' h' n' => Row h' n' 3 .i64 v' (halvL xs) ∧ ∀ b, InBlk v' b → n ≤ b) := by
  intro m
  induction m with
  | zero =>
    intro i fu h1 hm hfu hi hk hg1
    obtain ⟨fu, rfl⟩ : ∃ f, fu = f + 1 := ⟨fu - 1, by omega⟩
    obtain rfl : i = xs.length := by omega
    rw [succA_lens_Halved]
    try simp (disch := first | omega | assumption | exact one_int _ _ | exact one_slice _ _ _ | exact one_ptr _ | exact one_bool _ | exact one_string _) only [RXA, RXB, Nat.reduceAdd, Nat.reduceLT, wrap_id, wrap_succ, wrap_pred, FX1, Int.lt_irrefl]
    rw [kcAa_lens_Halved]
    try simp (disch := first | omega | assumption | exact one_int _ _ | exact one_slice _ _ _ | exact one_ptr _ | exact one_bool _ | exact one_string _) only [RXA, RXB, Nat.reduceAdd, Nat.reduceLT, wrap_id, wrap_succ, wrap_pred, FX1]
    rw [← halvL_len xs, part_all] at hg1
    refine ⟨.inr ⟨n, 0, c, true, _, by rw [halvL_len], hg1, Nat.lt_succ_self n, by rw [ints_len]; omega, ?_, by rw [halvL_len]; exact hc⟩, fun b hb => by rw [hb.inj]; exact Nat.le_refl n⟩
    rw [List.drop_zero, List.take_of_length_le (by rw [ints_len]; exact Nat.le_refl _)]
    rfl
  | succ m ih =>
    intro i fu h1 hm hfu hi hk hg1
    obtain ⟨fu, rfl⟩ : ∃ f, fu = f + 1 := ⟨fu - 1, by omega⟩
    have hR1 : Row h1 (n + 1) 3 .i64 v xs := hR.keep (Nat.le_succ n) hk
    have hlt := fun b hb => hR.lt (b := b) hb
    obtain ⟨b, off, cap, o, cs, rfl, hg, hb, _, _, _, hat⟩ := hR1.some (by omega)
    have hbn : b < n := hlt b ⟨_, _, _, rfl⟩
    have e1 : ((i : Nat) : Int) < ((xs.length : Nat) : Int) := by omega
    have c1 := hat i (by omega)
    have w1 : ((i : Nat) : Int) + 1 = ((i + 1 : Nat) : Int) := by omega
    have hxi := hx (xs.getD i 0) (by rw [List.getD_eq_getElem?_getD, List.getElem?_eq_getElem (by omega)]; exact List.getElem_mem _)
    obtain ⟨wa, wb⟩ := halv_wrap _ hxi
    have pl : (part (halvL xs) i).length = xs.length := by rw [part_len _ (by rw [halvL_len]; omega), halvL_len]
    have ps : (part (halvL xs) i).set i (halv1 (xs.getD i 0)) = part (halvL xs) (i + 1) := by rw [← halvL_at (by omega), part_set (by rw [halvL_len]; omega)]
    rw [succA_lens_Halved]
    try simp (disch := first | omega | assumption | exact one_int _ _ | exact one_slice _ _ _ | exact one_ptr _ | exact one_bool _ | exact one_string _) only [RXA, RXB, Nat.reduceAdd, Nat.reduceLT, wrap_id, wrap_succ, wrap_pred, FX1, e1, hg, c1, wa, wb, hg1, ints_set, ints_len, pl, ps]
    refine ⟨by omega, .inl hn0, ?_⟩
    rw [w1]
    exact ih (i + 1) fu _ (by omega) (by omega) (by omega) (fun b hb => by rw [get_ne _ _ (by omega)]; exact hk b hb) (get_eq _ _ _)
theorem s_Halved (lf d n : Nat) (h : H) (v : Value) (xs : List Int) (hR : Row h n 3 .i64 v xs) (hl : xs.length ≤ 1000000) (hx : ∀ x ∈ xs, x ≤ 9223372036854775807) (hlf : 3000000 ≤ lf) :
    Run (fun _ => False) n (evCall2 Tryd.prog gt lf (d + 1) 56 #[v]) h n fun v' h' n' => Row h' n' 3 .i64 v' (halvL xs) ∧ ∀ b, InBlk v' b → n ≤ b := by
  rw [sh_lens_Halved]
  refine Run.inside_ ?_
  unfold b_lens_Halved
  have hR0 := hR
  obtain ⟨a, c, rfl⟩ := hR.len
  try simp (disch := first | omega | assumption | exact one_int _ _ | exact one_slice _ _ _ | exact one_ptr _ | exact one_bool _ | exact one_string _) only [RXA, RXB, Nat.reduceAdd, Nat.reduceLT, wrap_id, wrap_succ, wrap_pred, FX1]
  refine Ev.run_make c1x22 xs.length xs.length _ (Nat.le_refl _) (by omega) ?_
  try simp (disch := first | omega | assumption | exact one_int _ _ | exact one_slice _ _ _ | exact one_ptr _ | exact one_bool _ | exact one_string _) only [RXA, RXB, Nat.reduceAdd, Nat.reduceLT, wrap_id, wrap_succ, wrap_pred, FX1]
  refine hvL lf d n h _ xs hR0 hl hx _ xs.length (Nat.le_refl _) (Nat.le_refl n) xs.length 0 lf _ (by omega) (by omega) (by omega) (fun b hb => get_ne _ _ (by omega)) ?_
  rw [get_eq, part_0, halvL_len]
  unfold ints
  rw [List.map_replicate]

end Go.Proofs.YtdagfcflbphoiaaDoor
/- Layer 8 by the second form: counts, groups, sums; the program's. -/
namespace Go.Proofs.YtdagfcflbphoiaaDoor
set_option linter.unusedVariables false
set_option linter.unusedSimpArgs false
open Go.RowKit Ev Tb

theorem intsV_set (k : IntKind) (l : List Int) (i : Nat) (x : Int) : (intsV k l).set i (.int k x) = intsV k (l.set i x) := by unfold intsV; rw [List.map_set]
theorem intsV_rep (k : IntKind) (n : Nat) (x : Int) : List.replicate n (Value.int k x) = intsV k (List.replicate n x) := by unfold intsV; rw [List.map_replicate]
theorem Row.ofBlk {h : H} {n b : Nat} {e : TypeId} {o : Bool} {xs : List Int} {m : Nat} (hg : h.get b = some ⟨e, o, intsV .i64 xs⟩) (hb : b < n) (hm : xs.length = m) : Row h n e .i64 (.slice (some ⟨b, 0, none⟩) m m) xs := by
  subst hm
  exact .inr ⟨b, 0, xs.length, o, _, rfl, hg, hb, by rw [intsV_len]; omega, by rw [List.drop_zero, List.take_of_length_le (by rw [intsV_len]; omega)], Nat.le_refl _⟩
section
variable (lf d n : Nat) (h : H) (hlf : 3000000 ≤ lf)
include hlf
end
end Go.Proofs.YtdagfcflbphoiaaDoor
/- Layer 8 by the second form: the reference's counts, groups, costs. -/
namespace Go.Proofs.YtdagfcflbphoiaaDoor
set_option linter.unusedVariables false
set_option linter.unusedSimpArgs false
open Go.RowKit Ev Tb

section
variable (lf d n : Nat) (h : H) (hlf : 3000000 ≤ lf)
theorem r_most (z : Int) : Run (fun _ => False) n (evCall2 Tryd.prog gt lf (d + 1) 33 #[.int .i64 z]) h n fun v' h' n' => v' = .int .i64 (capI z) ∧ h' = h ∧ n' = n := by
  rw [sh_balerref08_most]
  refine Run.inside_ ?_
  unfold b_balerref08_most capI
  by_cases c : 1099511627776 < z
  · try simp (disch := first | omega | assumption | exact one_int _ _ | exact one_slice _ _ _ | exact one_ptr _ | exact one_bool _ | exact one_string _) only [RXA, RXB, Nat.reduceAdd, Nat.reduceLT, wrap_id, wrap_succ, wrap_pred, FX1, c]
  · try simp (disch := first | omega | assumption | exact one_int _ _ | exact one_slice _ _ _ | exact one_ptr _ | exact one_bool _ | exact one_string _) only [RXA, RXB, Nat.reduceAdd, Nat.reduceLT, wrap_id, wrap_succ, wrap_pred, FX1, c]
include hlf
end
end Go.Proofs.YtdagfcflbphoiaaDoor
/- None is cheaper: depths that merging gives cost no more than any lengths whose share is no more than one. No program in sight. -/
namespace Go.Proofs.YtdagfcflbphoiaaDoor
set_option linter.unusedVariables false
set_option linter.unusedSimpArgs false
open Hu

end Go.Proofs.YtdagfcflbphoiaaDoor
/- The statements LensOrder and LensCheap, walked by the second form. -/
namespace Go.Proofs.YtdagfcflbphoiaaDoor
set_option linter.unusedVariables false
set_option linter.unusedSimpArgs false
open Go.RowKit Ev Hu

theorem ext0 (a b : Value) : evExtract (.tuple #[a, b]) 0 = some a := rfl
theorem ext1 (a b : Value) : evExtract (.tuple #[a, b]) 1 = some b := rfl
theorem mem_getD {xs : List Int} {i : Nat} (h : i < xs.length) : xs.getD i 0 ∈ xs := by
  rw [List.getD_eq_getElem?_getD, List.getElem?_eq_getElem h]
  exact List.getElem_mem _
end Go.Proofs.YtdagfcflbphoiaaDoor
/- Steps on numbers, texts and rows in a form that the kernel runs quickly; each is what the evaluator's second form has. No program in sight. -/
namespace Go.Proofs.YtdagfcflbphoiaaDoor.Ev
set_option linter.unusedVariables false
set_option linter.unusedSimpArgs false
open Go Go.RowKit

def fwrap (k : IntKind) (z : Int) : Int := match k, z with
  | .i64, .ofNat m => match Nat.ble m 9223372036854775807 with
    | true => z
    | false => k.wrap z
  | .i64, .negSucc m => match Nat.ble m 9223372036854775807 with
    | true => z
    | false => k.wrap z
  | .u8, .ofNat m => .ofNat (m % 256)
  | .u32, .ofNat m => .ofNat (m % 4294967296)
  | .u64, .ofNat m => .ofNat (m % 18446744073709551616)
  | _, _ => k.wrap z
theorem fwrap_eq (k : IntKind) (z : Int) : fwrap k z = k.wrap z := by
  unfold fwrap
  split
  · rename_i m
    cases h : Nat.ble m 9223372036854775807 with
    | true =>
      have : m ≤ 9223372036854775807 := Nat.le_of_ble_eq_true h
      exact (wrap_id (x := ((m : Nat) : Int)) (by omega) (by omega)).symm
    | false => rfl
  · rename_i m
    cases h : Nat.ble m 9223372036854775807 with
    | true =>
      have : m ≤ 9223372036854775807 := Nat.le_of_ble_eq_true h
      exact (wrap_id (x := Int.negSucc m) (by omega) (by omega)).symm
    | false => rfl
  · rename_i m
    show ((m % 256 : Nat) : Int) = IntKind.u8.wrap m
    simp [IntKind.wrap, IntKind.bits, IntKind.signed]
  · rename_i m
    show ((m % 4294967296 : Nat) : Int) = IntKind.u32.wrap m
    simp [IntKind.wrap, IntKind.bits, IntKind.signed]
  · rename_i m
    show ((m % 18446744073709551616 : Nat) : Int) = IntKind.u64.wrap m
    simp [IntKind.wrap, IntKind.bits, IntKind.signed]
  · rfl
def iadd (a b : Int) : Int := match a, b with
  | .ofNat x, .ofNat y => .ofNat (Nat.add x y)
  | _, _ => a + b
theorem iadd_eq (a b : Int) : iadd a b = a + b := by unfold iadd; split <;> rfl
def isub (a b : Int) : Int := match a, b with
  | .ofNat x, .ofNat y => match Nat.ble y x with
    | true => .ofNat (Nat.sub x y)
    | false => .negSucc (Nat.sub (Nat.sub y x) 1)
  | _, _ => a - b
theorem isub_eq (a b : Int) : isub a b = a - b := by
  unfold isub
  split
  · rename_i x y
    cases h : Nat.ble y x with
    | true =>
      have := Nat.le_of_ble_eq_true h
      show ((x - y : Nat) : Int) = (x : Int) - y
      omega
    | false =>
      have : ¬ y ≤ x := fun q => by rw [Nat.ble_eq_true_of_le q] at h; cases h
      show Int.negSucc (y - x - 1) = (x : Int) - y
      omega
  · rfl
def imul (a b : Int) : Int := match a, b with
  | .ofNat x, .ofNat y => .ofNat (Nat.mul x y)
  | _, _ => a * b
theorem imul_eq (a b : Int) : imul a b = a * b := by unfold imul; split <;> rfl
def ieq (a b : Int) : Bool := match a, b with
  | .ofNat x, .ofNat y => Nat.beq x y
  | _, _ => a == b
theorem ieq_eq (a b : Int) : ieq a b = (a == b) := by
  unfold ieq
  split
  · rename_i x y
    cases h : Nat.beq x y with
    | true => rw [Nat.eq_of_beq_eq_true h]; simp
    | false =>
      have : x ≠ y := Nat.ne_of_beq_eq_false h
      symm
      rw [beq_eq_false_iff_ne]
      intro q
      exact this (Int.ofNat.inj q)
  · rfl
def ile (a b : Int) : Bool := match a, b with
  | .ofNat x, .ofNat y => Nat.ble x y
  | _, _ => decide (a ≤ b)
theorem ile_eq (a b : Int) : ile a b = decide (a ≤ b) := by
  unfold ile
  split
  · rename_i x y
    cases h : Nat.ble x y with
    | true =>
      have := Nat.le_of_ble_eq_true h
      symm
      rw [decide_eq_true_eq]
      show (x : Int) ≤ y
      omega
    | false =>
      have : ¬ x ≤ y := fun q => by rw [Nat.ble_eq_true_of_le q] at h; cases h
      symm
      rw [decide_eq_false_iff_not]
      show ¬ ((x : Int) ≤ y)
      omega
  · rfl
def ilt (a b : Int) : Bool := match a, b with
  | .ofNat x, .ofNat y => Nat.ble (Nat.succ x) y
  | _, _ => decide (a < b)
theorem ilt_eq (a b : Int) : ilt a b = decide (a < b) := by
  unfold ilt
  split
  · rename_i x y
    cases h : Nat.ble (Nat.succ x) y with
    | true =>
      have := Nat.le_of_ble_eq_true h
      symm
      rw [decide_eq_true_eq]
      show (x : Int) < y
      omega
    | false =>
      have : ¬ Nat.succ x ≤ y := fun q => by rw [Nat.ble_eq_true_of_le q] at h; cases h
      symm
      rw [decide_eq_false_iff_not]
      show ¬ ((x : Int) < y)
      omega
  · rfl
def sameK : IntKind → IntKind → Bool
  | .i64, .i64 | .u8, .u8 | .u32, .u32 | .u64, .u64 => true
  | _, _ => false
theorem sameK_eq {a b : IntKind} (h : sameK a b = true) : a = b := by cases a <;> cases b <;> first | rfl | cases h
def pw : IntKind → Nat
  | .i64 | .u64 => 18446744073709551616
  | .i32 | .u32 => 4294967296
  | .i16 | .u16 => 65536
  | .i8 | .u8 => 256
section
variable (P : Program) (t : TypeId) (x y : Value)
def q_add : Option Value := match x with
  | .int k a => match y with
    | .int k' b => match sameK k k' with
      | true => some (.int k (fwrap k (iadd a b)))
      | false => bin2 P .add t x y
    | _ => bin2 P .add t x y
  | _ => bin2 P .add t x y
def q_sub : Option Value := match x with
  | .int k a => match y with
    | .int k' b => match sameK k k' with
      | true => some (.int k (fwrap k (isub a b)))
      | false => bin2 P .sub t x y
    | _ => bin2 P .sub t x y
  | _ => bin2 P .sub t x y
def q_mul : Option Value := match x with
  | .int k a => match y with
    | .int k' b => match sameK k k' with
      | true => some (.int k (fwrap k (imul a b)))
      | false => bin2 P .mul t x y
    | _ => bin2 P .mul t x y
  | _ => bin2 P .mul t x y
def q_eql : Option Value := match x with
  | .int k a => match y with
    | .int k' b => match sameK k k' with
      | true => some (.bool (ieq a b))
      | false => bin2 P .eql t x y
    | _ => bin2 P .eql t x y
  | _ => bin2 P .eql t x y
def q_neq : Option Value := match x with
  | .int k a => match y with
    | .int k' b => match sameK k k' with
      | true => some (.bool (!ieq a b))
      | false => bin2 P .neq t x y
    | _ => bin2 P .neq t x y
  | _ => bin2 P .neq t x y
def q_lss : Option Value := match x with
  | .int k a => match y with
    | .int k' b => match sameK k k' with
      | true => some (.bool (ilt a b))
      | false => bin2 P .lss t x y
    | _ => bin2 P .lss t x y
  | _ => bin2 P .lss t x y
def q_leq : Option Value := match x with
  | .int k a => match y with
    | .int k' b => match sameK k k' with
      | true => some (.bool (ile a b))
      | false => bin2 P .leq t x y
    | _ => bin2 P .leq t x y
  | _ => bin2 P .leq t x y
def q_gtr : Option Value := match x with
  | .int k a => match y with
    | .int k' b => match sameK k k' with
      | true => some (.bool (ilt b a))
      | false => bin2 P .gtr t x y
    | _ => bin2 P .gtr t x y
  | _ => bin2 P .gtr t x y
def q_geq : Option Value := match x with
  | .int k a => match y with
    | .int k' b => match sameK k k' with
      | true => some (.bool (ile b a))
      | false => bin2 P .geq t x y
    | _ => bin2 P .geq t x y
  | _ => bin2 P .geq t x y
def q_quo : Option Value := match x with
  | .int k (.ofNat a) => match y with
    | .int k' (.ofNat (b + 1)) => match sameK k k' with
      | true => some (.int k (fwrap k (.ofNat (Nat.div a (b + 1)))))
      | false => bin2 P .quo t x y
    | _ => bin2 P .quo t x y
  | _ => bin2 P .quo t x y
def q_shr : Option Value := match x with
  | .int k (.ofNat a) => match y with
    | .int _ (.ofNat b) => some (.int k (.ofNat (Nat.div a (Nat.pow 2 (Nat.min b k.bits)))))
    | _ => bin2 P .shr t x y
  | _ => bin2 P .shr t x y
end
section
variable {P : Program} {t : TypeId} (hn : isNilT P t = false)
include hn
theorem q_add_eq : q_add P t = bin2 P .add t := by
  funext x y
  unfold q_add
  split
  · rename_i k a
    split
    · rename_i k' b
      split
      · rename_i hk
        obtain rfl := sameK_eq hk
        rw [b_add hn, fwrap_eq, iadd_eq]
      · rfl
    · rfl
  · rfl
theorem q_sub_eq : q_sub P t = bin2 P .sub t := by
  funext x y
  unfold q_sub
  split
  · rename_i k a
    split
    · rename_i k' b
      split
      · rename_i hk
        obtain rfl := sameK_eq hk
        rw [b_sub hn, fwrap_eq, isub_eq]
      · rfl
    · rfl
  · rfl
theorem q_mul_eq : q_mul P t = bin2 P .mul t := by
  funext x y
  unfold q_mul
  split
  · rename_i k a
    split
    · rename_i k' b
      split
      · rename_i hk
        obtain rfl := sameK_eq hk
        rw [b_mul hn, fwrap_eq, imul_eq]
      · rfl
    · rfl
  · rfl
theorem q_eql_eq : q_eql P t = bin2 P .eql t := by
  funext x y
  unfold q_eql
  split
  · rename_i k a
    split
    · rename_i k' b
      split
      · rename_i hk
        obtain rfl := sameK_eq hk
        rw [b_eql hn, ieq_eq]
      · rfl
    · rfl
  · rfl
theorem q_neq_eq : q_neq P t = bin2 P .neq t := by
  funext x y
  unfold q_neq
  split
  · rename_i k a
    split
    · rename_i k' b
      split
      · rename_i hk
        obtain rfl := sameK_eq hk
        rw [b_neq hn, ieq_eq]; rfl
      · rfl
    · rfl
  · rfl
theorem q_lss_eq : q_lss P t = bin2 P .lss t := by
  funext x y
  unfold q_lss
  split
  · rename_i k a
    split
    · rename_i k' b
      split
      · rename_i hk
        obtain rfl := sameK_eq hk
        rw [b_lss hn, ilt_eq]
      · rfl
    · rfl
  · rfl
theorem q_leq_eq : q_leq P t = bin2 P .leq t := by
  funext x y
  unfold q_leq
  split
  · rename_i k a
    split
    · rename_i k' b
      split
      · rename_i hk
        obtain rfl := sameK_eq hk
        rw [b_leq hn, ile_eq]
      · rfl
    · rfl
  · rfl
theorem q_gtr_eq : q_gtr P t = bin2 P .gtr t := by
  funext x y
  unfold q_gtr
  split
  · rename_i k a
    split
    · rename_i k' b
      split
      · rename_i hk
        obtain rfl := sameK_eq hk
        rw [b_gtr hn, ilt_eq]
      · rfl
    · rfl
  · rfl
theorem q_geq_eq : q_geq P t = bin2 P .geq t := by
  funext x y
  unfold q_geq
  split
  · rename_i k a
    split
    · rename_i k' b
      split
      · rename_i hk
        obtain rfl := sameK_eq hk
        rw [b_geq hn, ile_eq]
      · rfl
    · rfl
  · rfl
theorem q_quo_eq : q_quo P t = bin2 P .quo t := by
  funext x y
  unfold q_quo
  split
  · rename_i k a
    split
    · rename_i k' b
      split
      · rename_i hk
        obtain rfl := sameK_eq hk
        have e := b_quo hn (k := k) (a : Int) ((b + 1 : Nat) : Int) (by omega)
        rw [fwrap_eq]
        exact e.symm
      · rfl
    · rfl
  · rfl
theorem q_shr_eq : q_shr P t = bin2 P .shr t := by
  funext x y
  unfold q_shr
  split
  · rename_i k a
    split
    · rename_i k' b
      have e := b_shr hn (k := k) (k' := k') (a : Int) (b : Int) (by omega)
      rw [Int.toNat_natCast] at e
      refine Eq.trans ?_ e.symm
      congr 2
      show ((a / 2 ^ (min b k.bits) : Nat) : Int) = _
      have e2 : (2 : Int) ^ (min b k.bits) = ((2 ^ (min b k.bits) : Nat) : Int) := by simp
      rw [e2, Int.fdiv_eq_ediv_of_nonneg _ (Int.natCast_nonneg _), ← Int.natCast_ediv]
    · rfl
  · rfl
end

end Go.Proofs.YtdagfcflbphoiaaDoor.Ev
/- Steps on memory in a form that the kernel runs quickly; what follows a loop; tables of functions. No program in sight. -/
namespace Go.Proofs.YtdagfcflbphoiaaDoor.Ev
set_option linter.unusedVariables false
set_option linter.unusedSimpArgs false
open Go Go.RowKit

noncomputable def un3 (P : Program) (op : UnOp) (x : Value) : Option Value := match op, x with
  | .not, .bool true => some (.bool false)
  | .not, .bool false => some (.bool true)
  | _, _ => un2 P op x
theorem un3_eq (P : Program) (op : UnOp) : un3 P op = un2 P op := by
  funext x
  unfold un3
  split <;> rfl
noncomputable def get3 {α : Type} : Nat → Tr α → Nat → Option α
  | 0, _, _ => none
  | _ + 1, .nil, _ => none
  | f + 1, .node l v r, i => match Nat.beq i 0 with
    | true => v
    | false => match Nat.beq (Nat.mod i 2) 1 with
      | true => get3 f l (Nat.div i 2)
      | false => get3 f r (Nat.pred (Nat.div i 2))
theorem beq_dec (a b : Nat) : Nat.beq a b = decide (a = b) := by
  cases h : Nat.beq a b with
  | true => rw [Nat.eq_of_beq_eq_true h]; simp
  | false => have := Nat.ne_of_beq_eq_false h; simp [this]
theorem get3_at {α : Type} : ∀ (f : Nat) (t : Tr α) (i : Nat), get3 f t i = Tr.get f t i
  | 0, _, _ => rfl
  | _ + 1, .nil, _ => rfl
  | f + 1, .node l v r, i => by
    unfold get3 Tr.get
    rw [beq_dec, beq_dec]
    by_cases h0 : i = 0
    · simp [h0]
    · by_cases h1 : i % 2 = 1
      · have h1' : Nat.mod i 2 = 1 := h1
        simp only [h0, h1, h1', decide_true, decide_false, if_true, if_false]
        exact get3_at f l (i / 2)
      · have h1' : ¬ Nat.mod i 2 = 1 := h1
        simp only [h0, h1, h1', decide_false, if_false]
        exact get3_at f r (i / 2 - 1)
noncomputable def set3 {α : Type} : Nat → Tr α → Nat → Option α → Tr α
  | 0, t, _, _ => t
  | f + 1, .nil, i, a => match Nat.beq i 0 with
    | true => .node .nil a .nil
    | false => match Nat.beq (Nat.mod i 2) 1 with
      | true => .node (set3 f .nil (Nat.div i 2) a) none .nil
      | false => .node .nil none (set3 f .nil (Nat.pred (Nat.div i 2)) a)
  | f + 1, .node l v r, i, a => match Nat.beq i 0 with
    | true => .node l a r
    | false => match Nat.beq (Nat.mod i 2) 1 with
      | true => .node (set3 f l (Nat.div i 2) a) v r
      | false => .node l v (set3 f r (Nat.pred (Nat.div i 2)) a)
theorem set3_at {α : Type} : ∀ (f : Nat) (t : Tr α) (i : Nat) (a : Option α), set3 f t i a = Tr.set f t i a
  | 0, _, _, _ => rfl
  | f + 1, .nil, i, a => by
    unfold set3 Tr.set
    rw [beq_dec, beq_dec]
    by_cases h0 : i = 0
    · simp [h0]
    · by_cases h1 : i % 2 = 1
      · have h1' : Nat.mod i 2 = 1 := h1
        simp only [h0, h1, h1', decide_true, decide_false, if_true, if_false]
        rw [set3_at f .nil]; rfl
      · have h1' : ¬ Nat.mod i 2 = 1 := h1
        simp only [h0, h1, h1', decide_false, if_false]
        rw [set3_at f .nil]; rfl
  | f + 1, .node l v r, i, a => by
    unfold set3 Tr.set
    rw [beq_dec, beq_dec]
    by_cases h0 : i = 0
    · simp [h0]
    · by_cases h1 : i % 2 = 1
      · have h1' : Nat.mod i 2 = 1 := h1
        simp only [h0, h1, h1', decide_true, decide_false, if_true, if_false]
        rw [set3_at f l]; rfl
      · have h1' : ¬ Nat.mod i 2 = 1 := h1
        simp only [h0, h1, h1', decide_false, if_false]
        rw [set3_at f r]; rfl
noncomputable def getR {α : Type} (t : Tr α) : Nat → Option α := Tr.rec (motive := fun _ => Nat → Option α) (fun _ => none) (fun _ v _ ihl ihr i => match Nat.beq i 0 with
    | true => v
    | false => match Nat.beq (Nat.mod i 2) 1 with
      | true => ihl (Nat.div i 2)
      | false => ihr (Nat.pred (Nat.div i 2))) t
theorem getR_at {α : Type} : ∀ (t : Tr α) (f i : Nat), i < f → getR t i = get3 f t i
  | .nil, 0, i, h => by omega
  | .nil, f + 1, i, h => rfl
  | .node l v r, 0, i, h => by omega
  | .node l v r, f + 1, i, h => by
    show (match Nat.beq i 0 with
      | true => v
      | false => match Nat.beq (Nat.mod i 2) 1 with
        | true => getR l (Nat.div i 2)
        | false => getR r (Nat.pred (Nat.div i 2))) = _
    unfold get3
    cases h0 : Nat.beq i 0 with
    | true => rfl
    | false =>
      have hi : i ≠ 0 := fun q => by subst q; simp at h0
      have h1 : i / 2 < f := by omega
      have h2 : Nat.div i 2 = i / 2 := rfl
      have h3 : Nat.pred (i / 2) = i / 2 - 1 := rfl
      simp only [h2, h3]
      rw [getR_at l f (i / 2) h1, getR_at r f (i / 2 - 1) (by omega)]
noncomputable def setR {α : Type} (t : Tr α) : Nat → Option α → Tr α := Tr.rec (motive := fun _ => Nat → Option α → Tr α) (fun i a => set3 (Nat.succ i) .nil i a) (fun l v r ihl ihr i a => match Nat.beq i 0 with
    | true => .node l a r
    | false => match Nat.beq (Nat.mod i 2) 1 with
      | true => .node (ihl (Nat.div i 2) a) v r
      | false => .node l v (ihr (Nat.pred (Nat.div i 2)) a)) t
theorem set3_nil {α : Type} (a : Option α) : ∀ (f i g : Nat), i < f → i < g → set3 f .nil i a = set3 g .nil i a
  | 0, _, _, h, _ => by omega
  | f + 1, _, 0, _, h => by omega
  | f + 1, i, g + 1, h, h' => by
    unfold set3
    cases h0 : Nat.beq i 0 with
    | true => rfl
    | false =>
      have hi : i ≠ 0 := fun q => by subst q; simp at h0
      have h2 : Nat.div i 2 = i / 2 := rfl
      have h3 : Nat.pred (i / 2) = i / 2 - 1 := rfl
      simp only [h2, h3]
      rw [set3_nil a f (i / 2) g (by omega) (by omega), set3_nil a f (i / 2 - 1) g (by omega) (by omega)]
theorem setR_at {α : Type} (a : Option α) : ∀ (t : Tr α) (f i : Nat), i < f → setR t i a = set3 f t i a
  | .nil, f, i, h => set3_nil a _ _ _ (Nat.lt_succ_self i) h
  | .node l v r, 0, i, h => by omega
  | .node l v r, f + 1, i, h => by
    show (match Nat.beq i 0 with
      | true => Tr.node l a r
      | false => match Nat.beq (Nat.mod i 2) 1 with
        | true => Tr.node (setR l (Nat.div i 2) a) v r
        | false => Tr.node l v (setR r (Nat.pred (Nat.div i 2)) a)) = _
    unfold set3
    cases h0 : Nat.beq i 0 with
    | true => rfl
    | false =>
      have hi : i ≠ 0 := fun q => by subst q; simp at h0
      have h2 : Nat.div i 2 = i / 2 := rfl
      have h3 : Nat.pred (i / 2) = i / 2 - 1 := rfl
      simp only [h2, h3]
      rw [setR_at a l f (i / 2) (by omega), setR_at a r f (i / 2 - 1) (by omega)]
noncomputable def hget (h : H) (b : Nat) : Option AB := getR h b
theorem hget_eq (h : H) (b : Nat) : hget h b = h.get b := (getR_at h (b + 1) b (Nat.lt_succ_self b)).trans (get3_at _ _ _)
noncomputable def hset (h : H) (b : Nat) (x : Option AB) : H := setR h b x
theorem hset_eq (h : H) (b : Nat) (x : Option AB) : hset h b x = h.set b x := (setR_at x h (b + 1) b (Nat.lt_succ_self b)).trans (set3_at _ _ _ _)
theorem ble_dec (a b : Nat) : Nat.ble a b = decide (a ≤ b) := by
  cases h : Nat.ble a b with
  | true => have := Nat.le_of_ble_eq_true h; simp [this]
  | false =>
    have : ¬ a ≤ b := fun q => by rw [Nat.ble_eq_true_of_le q] at h; cases h
    simp [this]
noncomputable def nthV (l : List Value) : Nat → Option Value := List.rec (motive := fun _ => Nat → Option Value) (fun _ => none) (fun a _ ih i => Nat.rec (motive := fun _ => Option Value) (some a) (fun j _ => ih j) i) l
theorem nthV_eq : ∀ (l : List Value) (i : Nat), nthV l i = l[i]?
  | [], _ => rfl
  | _ :: _, 0 => rfl
  | a :: l, i + 1 => by
    show nthV l i = _
    rw [nthV_eq l i]; rfl
noncomputable def setV (l : List Value) : Nat → Value → Option (List Value) := List.rec (motive := fun _ => Nat → Value → Option (List Value)) (fun _ _ => none) (fun a l ih i v => Nat.rec (motive := fun _ => Option (List Value)) (some (v :: l)) (fun j _ => match ih j v with
    | some l' => some (a :: l')
    | none => none) i) l
theorem setV_eq : ∀ (l : List Value) (i : Nat) (v : Value), setV l i v = if i < l.length then some (l.set i v) else none
  | [], i, v => by show none = _; simp
  | a :: l, 0, v => by show some (v :: l) = _; simp
  | a :: l, i + 1, v => by
    show (match setV l i v with
      | some l' => some (a :: l')
      | none => none) = _
    rw [setV_eq l i v]
    by_cases h : i < l.length
    · simp [h]
    · simp [h]
noncomputable def rd3 (b k : Nat) : M Value := fun h n => match Nat.ble (Nat.succ b) n with
  | true => match hget h b with
    | some B => match nthV B.cells k with
      | some v => some ⟨v, h, n, [⟨false, b, some k⟩]⟩
      | none => none
    | none => none
  | false => none
theorem rd3_eq : rd3 = rd := by
  funext b k h n
  unfold rd3 rd
  rw [ble_dec, hget_eq]
  by_cases hb : b < n
  · have : b.succ ≤ n := hb
    simp only [hb, this, decide_true, if_true]
    cases h.get b with
    | none => rfl
    | some B => simp only [nthV_eq]; rfl
  · have : ¬ b.succ ≤ n := hb
    simp only [hb, this, decide_false, if_false]
noncomputable def wr3 (b k : Nat) (v : Value) : M Unit := fun h n => match Nat.ble (Nat.succ b) n with
  | true => match hget h b with
    | some B => match B.own with
      | true => match one v with
        | true => match setV B.cells k v with
          | some cs => some ⟨(), hset h b (some ⟨B.elem, true, cs⟩), n, [⟨false, b, some k⟩, ⟨true, b, some k⟩]⟩
          | none => none
        | false => none
      | false => none
    | none => none
  | false => none
theorem wr3_eq : wr3 = wr := by
  funext b k v h n
  unfold wr3 wr
  rw [ble_dec, hget_eq]
  by_cases hb : b < n
  · have : b.succ ≤ n := hb
    simp only [hb, this, decide_true, if_true]
    cases h.get b with
    | none => rfl
    | some B =>
      obtain ⟨e, o, cs⟩ := B
      simp only [setV_eq, hset_eq]
      cases o with
      | false => simp
      | true =>
        cases h1 : one v with
        | false => simp
        | true =>
          by_cases hk : k < cs.length
          · simp [hk]
          · simp [hk]
  · have : ¬ b.succ ≤ n := hb
    simp only [hb, this, decide_false, if_false]
noncomputable def newB3 (e : TypeId) (cs : List Value) : M Nat := fun h n => some ⟨n, hset h n (some ⟨e, true, cs⟩), Nat.succ n, []⟩
theorem newB3_eq : newB3 = newB := by
  funext e cs h n
  unfold newB3 newB
  rw [if_pos (Nat.lt_succ_self n), hset_eq]
noncomputable def hdr3 (b : Nat) : M TypeId := fun h n => match Nat.ble (Nat.succ b) n with
  | true => match hget h b with
    | some B => some ⟨B.elem, h, n, [⟨false, b, some 1099511627776⟩]⟩
    | none => none
  | false => none
theorem hdr3_eq : hdr3 = hdr := by
  funext b h n
  unfold hdr3 hdr
  rw [ble_dec, hget_eq]
  by_cases hb : b < n
  · have : b.succ ≤ n := hb
    simp only [hb, this, decide_true, if_true]
    rfl
  · have : ¬ b.succ ≤ n := hb
    simp only [hb, this, decide_false, if_false]
noncomputable def kill3 (b : Nat) : M Unit := fun h n => match Nat.ble (Nat.succ b) n with
  | true => match hget h b with
    | some B => match B.own with
      | true => some ⟨(), hset h b none, n, [⟨false, b, none⟩, ⟨true, b, none⟩]⟩
      | false => none
    | none => none
  | false => none
theorem kill3_eq : kill3 = kill := by
  funext b h n
  unfold kill3 kill
  rw [ble_dec, hget_eq]
  by_cases hb : b < n
  · have : b.succ ≤ n := hb
    simp only [hb, this, decide_true, if_true]
    cases h.get b with
    | none => rfl
    | some B =>
      simp only [hset_eq]
      cases B.own <;> simp
  · have : ¬ b.succ ≤ n := hb
    simp only [hb, this, decide_false, if_false]
noncomputable def wrN3 (b k : Nat) : List Value → M Unit
  | [] => .ret ()
  | v :: vs => (wr3 b k v).bind fun _ => wrN3 b (Nat.succ k) vs
theorem wrN3_at (b : Nat) : ∀ (vs : List Value) (k : Nat), wrN3 b k vs = wrN b k vs
  | [], _ => rfl
  | v :: vs, k => by
    unfold wrN3 wrN
    rw [wr3_eq, wrN3_at b vs (Nat.succ k)]
theorem wrN3_eq : wrN3 = wrN := by funext b k vs; exact wrN3_at b vs k
noncomputable def evLoad3 (P : Program) (t : TypeId) (x : Value) : M Value := match x with
  | .pointer (some ⟨b, off, none⟩) => rd3 b off
  | x => evLoad P t x
theorem evLoad3_eq {P : Program} {t : TypeId} (h : agg? P t = some false) : evLoad3 P t = evLoad P t := by
  funext x
  unfold evLoad3
  split
  · unfold evLoad
    rw [h, rd3_eq]
  · rfl
noncomputable def evStore3 (P : Program) (t : TypeId) (a x : Value) : M Value := match a, one x with
  | .pointer (some ⟨b, off, none⟩), true => (wr3 b off x).bind fun _ => .ret undef
  | _, _ => evStore P t a x
theorem evStore3_eq {P : Program} {t : TypeId} (h : size? P t = some 1) : evStore3 P t = evStore P t := by
  funext a x
  unfold evStore3
  split
  · rename_i b off h1
    have hc : x.cells = #[x] := by cases x <;> first | rfl | (simp [one] at h1)
    unfold evStore
    simp only [h, hc]
    rw [wr3_eq]
    funext hh n
    show _ = ((wrN b off [x]).bind fun _ => M.ret undef) hh n
    unfold wrN wrN M.bind
    cases wr b off x hh n with
    | none => rfl
    | some o => simp [M.ret]
  · rfl
noncomputable def evFA3 (P : Program) (s : TypeId) (K : Nat) (x : Value) (f : Nat) : Option Value := match x with
  | .pointer (some ⟨b, off, none⟩) => some (.pointer (some ⟨b, Nat.add off K, none⟩))
  | x => evFieldAddr P s x f
theorem evFA3_eq {P : Program} {s : TypeId} {K f : Nat} (h : ∀ b off : Nat, evFieldAddr P s (.pointer (some ⟨b, off, none⟩)) f = some (.pointer (some ⟨b, off + K, none⟩))) (x : Value) : evFA3 P s K x f = evFieldAddr P s x f := by
  unfold evFA3
  split
  · rename_i b off
    exact (h b off).symm
  · rfl
noncomputable def evIA3 (P : Program) (t : TypeId) (sz : Nat) (x ix : Value) : Option Value := match x, ix with
  | .slice (some ⟨b, off, none⟩) len _, .int _ (.ofNat i) => match Nat.ble (Nat.succ i) len with
    | true => some (.pointer (some ⟨b, Nat.add off (Nat.mul i sz), none⟩))
    | false => none
  | x, ix => evIndexAddr P t x ix
theorem evIA3_eq {P : Program} {t e : TypeId} {sz : Nat} (hu : P.underlying t = some (.slice e)) (hs : size? P e = some sz) : evIA3 P t sz = evIndexAddr P t := by
  funext x ix
  unfold evIA3
  split
  · rename_i b off len c k i
    rw [ble_dec]
    unfold evIndexAddr
    simp only [hu, hs]
    by_cases hi : i < len
    · have h1 : i.succ ≤ len := hi
      have h2 : (0 : Int) ≤ Int.ofNat i ∧ Int.ofNat i < (len : Int) := ⟨Int.natCast_nonneg i, Int.ofNat_lt.2 hi⟩
      simp only [h1, decide_true, h2, and_self, if_true]
      rfl
    · have h1 : ¬ i.succ ≤ len := hi
      have h2 : ¬ ((0 : Int) ≤ Int.ofNat i ∧ Int.ofNat i < (len : Int)) := fun q => hi (Int.ofNat_lt.1 q.2)
      simp only [h1, decide_false, h2, if_false]
  · rfl
noncomputable def evBox3 (P : Program) (e : TypeId) (v : Value) : M Value :=
  match size? P e with
  | some _ => (newB3 e v.cells.toList).bind fun id => .ret (.pointer (some ⟨id, 0, none⟩))
  | none => .fail
theorem evBox3_eq (P : Program) : evBox3 P = evBox P := by
  funext e v
  unfold evBox3 evBox
  rw [newB3_eq]
  rfl
noncomputable def evNew3 (e : TypeId) (l n : Nat) (old new : List Value) : M Value :=
  (newB3 e (old ++ new)).bind fun id => .ret (.slice (some ⟨id, 0, none⟩) (l + n) (CAP + (l + n)))
theorem evNew3_eq : evNew3 = evNew := by
  funext e l n old new
  unfold evNew3 evNew
  rw [newB3_eq]
noncomputable def lenV (l : List Value) : Nat := List.rec (motive := fun _ => Nat) 0 (fun _ _ ih => Nat.succ ih) l
theorem lenV_eq : ∀ l : List Value, lenV l = l.length
  | [] => rfl
  | a :: l => by
    show Nat.succ (lenV l) = _
    rw [lenV_eq l]; rfl
noncomputable def rdLog (b k : Nat) : Nat → List En
  | 0 => []
  | c + 1 => ⟨false, b, some k⟩ :: rdLog b (k + 1) c
noncomputable def rdN3 (b k c : Nat) : M (List Value) := fun h n => match c with
  | 0 => some ⟨[], h, n, []⟩
  | c + 1 => match Nat.ble (Nat.succ b) n with
    | true => match hget h b with
      | some B => match Nat.ble (Nat.add k (c + 1)) (lenV B.cells) with
        | true => some ⟨(B.cells.drop k).take (c + 1), h, n, rdLog b k (c + 1)⟩
        | false => none
      | none => none
    | false => none
theorem rdN3_at (b : Nat) (h : H) (n : Nat) : ∀ c k : Nat, rdN3 b k c h n = rdN b k c h n
  | 0, _ => rfl
  | c + 1, k => by
    have ih := rdN3_at b h n c (k + 1)
    have e0 : rdN b k (c + 1) h n = ((rd b k).bind fun v => (rdN b (k + 1) c).bind fun vs => M.ret (v :: vs)) h n := rfl
    rw [e0]
    unfold M.bind
    cases hb : Nat.ble (Nat.succ b) n with
    | false =>
      have hlt : ¬ b < n := fun q => by rw [Nat.ble_eq_true_of_le q] at hb; cases hb
      have hrd : rd b k h n = none := by unfold rd; rw [if_neg hlt]
      have hl : rdN3 b k (c + 1) h n = none := by unfold rdN3; simp only [hb]
      rw [hl]; simp only [hrd]
    | true =>
      have hlt : b < n := Nat.le_of_ble_eq_true hb
      cases hg : h.get b with
      | none =>
        have hrd : rd b k h n = none := by unfold rd; rw [if_pos hlt, hg]
        have hl : rdN3 b k (c + 1) h n = none := by unfold rdN3; simp only [hb, hget_eq, hg]
        rw [hl]; simp only [hrd]
      | some B =>
        cases hv : B.cells[k]? with
        | none =>
          have hle : B.cells.length ≤ k := List.getElem?_eq_none_iff.1 hv
          have hq : Nat.ble (Nat.add k (c + 1)) (lenV B.cells) = false := by
            rw [lenV_eq]
            cases hq : Nat.ble (Nat.add k (c + 1)) B.cells.length with
            | false => rfl
            | true =>
              have := Nat.le_of_ble_eq_true hq
              have e : Nat.add k (c + 1) = k + (c + 1) := rfl
              omega
          have hrd : rd b k h n = none := by unfold rd; rw [if_pos hlt, hg]; simp only [hv]
          have hl : rdN3 b k (c + 1) h n = none := by unfold rdN3; simp only [hb, hget_eq, hg, hq]
          rw [hl]; simp only [hrd]
        | some v =>
          have hkl : k < B.cells.length := (List.getElem?_eq_some_iff.1 hv).1
          have hd : B.cells.drop k = v :: B.cells.drop (k + 1) := by
            rw [List.drop_eq_getElem_cons hkl]
            rw [List.getElem?_eq_getElem hkl] at hv
            cases hv
            rfl
          have hrd : rd b k h n = some ⟨v, h, n, [⟨false, b, some k⟩]⟩ := by
            unfold rd
            rw [if_pos hlt, hg]
            simp only [hv]
          simp only [hrd, ← ih]
          match c with
          | 0 =>
            have hq : Nat.ble (Nat.add k (0 + 1)) (lenV B.cells) = true := by
              rw [lenV_eq]
              exact Nat.ble_eq_true_of_le (by show k + 1 ≤ _; omega)
            unfold rdN3
            simp only [hb, hget_eq, hg, hq, hd]
            simp [rdLog, M.ret]
          | c + 1 =>
            have e : Nat.add k (c + 1 + 1) = Nat.add (k + 1) (c + 1) := by
              show k + (c + 1 + 1) = k + 1 + (c + 1)
              omega
            unfold rdN3
            simp only [hb, hget_eq, hg, e]
            cases Nat.ble (Nat.add (k + 1) (c + 1)) (lenV B.cells) with
            | false => rfl
            | true =>
              simp only [M.ret, hd, List.take_succ_cons]
              simp [rdLog]
theorem rdN3_eq : rdN3 = rdN := by funext b k c h n; exact rdN3_at b h n c k
noncomputable def elems3 (sz : Nat) (n : Nat) : Value → M (List Value)
  | .slice (some ⟨b, off, none⟩) _ _ => rdN3 b off (n * sz)
  | .string ⟨⟨l⟩⟩ => .ret ((l.take n).map fun b => Value.int .u8 (.ofNat b.toNat))
  | _ => .fail
theorem elems3_eq : elems3 = elemsOf := by
  funext sz n x
  cases x <;> try rfl
  · rename_i s
    obtain ⟨⟨l⟩⟩ := s
    unfold elems3 elemsOf
    simp only
    congr 1
    simp [ByteArray.data_extract]
  · rename_i a len cap
    cases a with
    | none => rfl
    | some a =>
      obtain ⟨b, off, p⟩ := a
      cases p with
      | none => unfold elems3 elemsOf; rw [rdN3_eq]
      | some p => rfl
noncomputable def evAppendTo3 (e : TypeId) (n sz b off l cap : Nat) (new : List Value) : M Value :=
  if cap < CAP then
    if l + n ≤ cap then (wrN3 b (off + l * sz) new).bind fun _ => .ret (.slice (some ⟨b, off, none⟩) (l + n) cap)
    else (rdN3 b off (l * sz)).bind fun old => evNew3 e l n old new
  else (rdN3 b off (l * sz)).bind fun old => (kill3 b).bind fun _ => evNew3 e l n old new
noncomputable def evAppend3 (P : Program) (sType : TypeId) (s x : Value) : M Value :=
  match P.underlying sType with
  | some (.slice e) => match P.info? e, zero? P e, lenOf? x with
    | some ie, some z, some n =>
        if z.cells.size = ie.size && 1 ≤ ie.size && ie.bytes ≤ 64 then
        if n = 0 then (match s with | .slice _ _ _ => .ret s | _ => .fail) else
        match s with
        | .slice none 0 0 => if n ≤ 1099511627776 then (elems3 ie.size n x).bind fun new => if new.length = n * ie.size && new.all one then evNew3 e 0 n [] new else .fail else .fail
        | .slice (some ⟨b, off, none⟩) l cap =>
          if l + n ≤ 1099511627776 then
          (hdr3 b).bind fun e' => if e' = e then
            (elems3 ie.size n x).bind fun new => if new.length = n * ie.size && new.all one then evAppendTo3 e n ie.size b off l cap new else .fail
          else .fail
          else .fail
        | _ => .fail
        else .fail
    | _, _, _ => .fail
  | _ => .fail
theorem evAppend3_eq (P : Program) : evAppend3 P = evAppend P := by
  funext t s x
  unfold evAppend3 evAppend evAppendTo3 evAppendTo
  rw [elems3_eq, rdN3_eq, wrN3_eq, evNew3_eq, kill3_eq, hdr3_eq]
  rfl
noncomputable def cells1 (z : Value) (n : Nat) : List Value := match z with
  | .agg _ | .tuple _ => (zeros z n).toList
  | z => List.replicate n z
theorem cells1_eq (z : Value) (n : Nat) : cells1 z n = (zeros z n).toList := by
  unfold cells1
  split
  · rfl
  · rfl
  · rename_i h1 h2
    refine (zeros_one ?_ n).symm
    cases z <;> first | rfl | exact absurd rfl (h1 _) | exact absurd rfl (h2 _)
noncomputable def evMake3 (P : Program) (t : TypeId) (l c : Value) : M Value :=
  match P.underlying t, l, c with
  | some (.slice e), .int _ l, .int _ c => match P.info? e, zero? P e with
    | some ie, some z => if 0 ≤ l && l ≤ c && c ≤ 1099511627776 && ie.bytes ≤ 64 && z.cells.size = ie.size && 1 ≤ ie.size then
        (newB3 e (cells1 z (c.toNat * ie.size))).bind fun id => .ret (.slice (some ⟨id, 0, none⟩) l.toNat c.toNat)
      else .fail
    | _, _ => .fail
  | _, _, _ => .fail
theorem evMake3_eq (P : Program) : evMake3 P = evMakeSlice P := by
  funext t l c
  unfold evMake3 evMakeSlice
  simp only [cells1_eq, newB3_eq]
  rfl
noncomputable def conv3 (P : Program) (s t : TypeId) (kd kd' : IntKind) (x : Value) (k : Value → M Value) : M Value := match x with
  | .int k0 a => match sameK k0 kd with
    | true => k (.int kd' (fwrap kd' a))
    | false => conv2 P s t x k
  | _ => conv2 P s t x k
theorem conv3_eq {P : Program} {s t : TypeId} {kd kd' : IntKind} (h : ∀ (a : Int) (k : Value → M Value), conv2 P s t (.int kd a) k = k (.int kd' (kd'.wrap a))) : conv3 P s t kd kd' = conv2 P s t := by
  funext x k
  unfold conv3
  split
  · rename_i k0 a
    split
    · rename_i hs
      rw [sameK_eq hs, h, fwrap_eq]
    · rfl
  · rfl

noncomputable def evLoadA3 (P : Program) (t : TypeId) (sz : Nat) (x : Value) : M Value := match x with
  | .pointer (some ⟨b, off, none⟩) => (rdN3 b off sz).bind fun vs => .ret (.agg ⟨vs⟩)
  | x => evLoad P t x
theorem evLoadA3_eq {P : Program} {t : TypeId} {sz : Nat} (h : agg? P t = some true) (hs : size? P t = some sz) : evLoadA3 P t sz = evLoad P t := by
  funext x
  unfold evLoadA3
  split
  · unfold evLoad
    rw [h, hs, rdN3_eq]
  · rfl
noncomputable def evStoreA3 (P : Program) (t : TypeId) (sz : Nat) (a x : Value) : M Value := match a, x with
  | .pointer (some ⟨b, off, none⟩), .agg ⟨l⟩ => match Nat.beq (lenV l) sz with
    | true => (wrN3 b off l).bind fun _ => .ret undef
    | false => evStore P t a x
  | _, _ => evStore P t a x
theorem evStoreA3_eq {P : Program} {t : TypeId} {sz : Nat} (hs : size? P t = some sz) : evStoreA3 P t sz = evStore P t := by
  funext a x
  unfold evStoreA3
  split
  · rename_i b off l
    cases hq : Nat.beq (lenV l) sz with
    | false => rfl
    | true =>
      have := Nat.eq_of_beq_eq_true hq
      rw [lenV_eq] at this
      unfold evStore
      have hc : (Value.agg ⟨l⟩).cells = ⟨l⟩ := rfl
      simp only [hs, hc]
      rw [if_pos (by simpa using this), wrN3_eq]
  · rfl
noncomputable def over : List Value → List Value → List Value
  | [], cs => cs
  | x :: l, cs => match cs with
    | [] => []
    | _ :: cs => x :: over l cs
noncomputable def splice : List Value → Nat → List Value → List Value
  | cs, 0, l => over l cs
  | [], _ + 1, _ => []
  | a :: cs, off + 1, l => a :: splice cs off l
noncomputable def setAll : List Value → Nat → List Value → List Value
  | cs, _, [] => cs
  | cs, off, x :: l => setAll (cs.set off x) (off + 1) l
theorem setAll_cons (a : Value) : ∀ (l cs : List Value) (off : Nat), setAll (a :: cs) (off + 1) l = a :: setAll cs off l
  | [], _, _ => rfl
  | x :: l, cs, off => by
    show setAll ((a :: cs).set (off + 1) x) (off + 1 + 1) l = a :: setAll (cs.set off x) (off + 1) l
    rw [List.set_cons_succ]
    exact setAll_cons a l _ _
theorem setAll_nil : ∀ (l : List Value) (off : Nat), setAll [] off l = []
  | [], _ => rfl
  | x :: l, off => by
    show setAll (([] : List Value).set off x) (off + 1) l = []
    rw [List.set_nil]
    exact setAll_nil l _
theorem over_eq : ∀ (l cs : List Value), over l cs = setAll cs 0 l
  | [], _ => rfl
  | x :: l, [] => by rw [setAll_nil]; rfl
  | x :: l, c :: cs => by
    show x :: over l cs = setAll ((c :: cs).set 0 x) (0 + 1) l
    rw [List.set_cons_zero, setAll_cons, over_eq l cs]
theorem splice_eq : ∀ (off : Nat) (cs l : List Value), splice cs off l = setAll cs off l
  | 0, cs, l => by
    have : splice cs 0 l = over l cs := by cases cs <;> rfl
    rw [this]; exact over_eq l cs
  | off + 1, [], l => by rw [setAll_nil]; rfl
  | off + 1, a :: cs, l => by
    rw [setAll_cons]
    show a :: splice cs off l = _
    rw [splice_eq off cs l]
theorem foldl_zip (off : Nat) : ∀ (l : List Value) (j : Nat) (cells : Array Value), ((l.zipIdx j).foldl (fun cs (x : Value × Nat) => cs.setIfInBounds (off + x.2) x.1) cells).toList = setAll cells.toList (off + j) l
  | [], _, _ => rfl
  | x :: l, j, cells => by
    rw [List.zipIdx_cons, List.foldl_cons, foldl_zip off l (j + 1)]
    rw [Array.toList_setIfInBounds]
    rfl
noncomputable def cellsL : Value → List Value
  | .agg ⟨l⟩ => l
  | v => [v]
theorem cellsL_eq (v : Value) : cellsL v = v.cells.toList := by
  cases v <;> rfl
noncomputable def fill3 (place : Nat → Option (Nat × Nat)) (cells : List Value) : List (Nat × Value) → Option (List Value)
  | [] => some cells
  | (i, v) :: rest => match place i with
    | none => none
    | some (off, size) => match Nat.beq (lenV (cellsL v)) size && Nat.ble (Nat.add off (lenV (cellsL v))) (lenV cells) with
      | true => fill3 place (splice cells off (cellsL v)) rest
      | false => none
theorem fill3_eq (place : Nat → Option (Nat × Nat)) : ∀ (parts : List (Nat × Value)) (cells : Array Value), fill3 place cells.toList parts = (Instr.fill place cells parts).map (·.toList)
  | [], _ => rfl
  | (i, v) :: rest, cells => by
    unfold fill3 Instr.fill
    cases place i with
    | none => rfl
    | some q =>
      obtain ⟨off, size⟩ := q
      simp only
      rw [lenV_eq, lenV_eq, cellsL_eq, beq_dec, ble_dec]
      have e1 : v.cells.toList.length = v.cells.size := by simp
      have e2 : cells.toList.length = cells.size := by simp
      rw [e1, e2]
      by_cases h1 : v.cells.size = size
      · by_cases h2 : off + v.cells.size ≤ cells.size
        · have h2' : Nat.add off v.cells.size ≤ cells.size := h2
          have h3 : ¬ off + v.cells.size > cells.size := by omega
          rw [if_neg (by simp [h1]; omega)]
          simp only [h1, h2', decide_true, Bool.and_true]
          rw [← h1]
          simp only [h2', decide_true, Bool.true_and]
          rw [← fill3_eq place rest]
          congr 1
          rw [splice_eq]
          have := foldl_zip off v.cells.toList 0 cells
          rw [Nat.add_zero] at this
          rw [← this]
          congr 1
          rw [← Array.foldl_toList, Array.toList_zipIdx]
        · have h2' : ¬ Nat.add off v.cells.size ≤ cells.size := h2
          rw [if_pos (by simp [h1]; omega)]
          simp [h2, h2']
      · rw [if_pos (by simp [h1])]
        simp [h1]
noncomputable def evBuild3 (P : Program) (t : TypeId) (parts : List (Nat × Value)) : M Value :=
  match zero? P t, P.underlying t with
  | some z, some (.struct fs) => if fs.all fun f => (size? P f.type).isSome then
      (match fill3 (placeOf P fs) (cellsL z) parts with
      | some cs => .ret (.agg ⟨cs⟩)
      | none => .fail) else .fail
  | _, _ => .fail
theorem evBuild3_eq (P : Program) : evBuild3 P = evBuild P := by
  funext t parts
  unfold evBuild3 evBuild
  cases zero? P t with
  | none => rfl
  | some z =>
    cases P.underlying t with
    | none => rfl
    | some u =>
      cases u <;> try rfl
      rename_i fs
      simp only [cellsL_eq, fill3_eq]
      cases hf : (fs.all fun f => (size? P f.type).isSome) with
      | false => simp
      | true =>
        simp only [if_true]
        cases Instr.fill (placeOf P fs) z.cells parts with
        | none => rfl
        | some cs => rfl

noncomputable def evAllocZ (e : TypeId) (cs : List Value) : M Value := (newB3 e cs).bind fun id => .ret (.pointer (some ⟨id, 0, none⟩))
theorem evAllocZ_eq {P : Program} {e : TypeId} {cs : List Value} {z : Value} (h : zero? P e = some z) (hc : z.cells.toList = cs) : evAllocZ e cs = evAlloc P e := by
  unfold evAllocZ evAlloc
  rw [h, newB3_eq]
  subst hc
  rfl
noncomputable def evBuildZ (P : Program) (t : TypeId) (cs : List Value) (parts : List (Nat × Value)) : M Value :=
  match P.underlying t with
  | some (.struct fs) => if fs.all fun f => (size? P f.type).isSome then
      (match fill3 (placeOf P fs) cs parts with
      | some cs => .ret (.agg ⟨cs⟩)
      | none => .fail) else .fail
  | _ => .fail
theorem evBuildZ_eq {P : Program} {t : TypeId} {cs : List Value} {z : Value} (h : zero? P t = some z) (hc : cellsL z = cs) : evBuildZ P t cs = evBuild P t := by
  funext parts
  rw [← evBuild3_eq]
  unfold evBuildZ evBuild3
  rw [h]
  subst hc
  cases P.underlying t with
  | none => rfl
  | some u => cases u <;> rfl
noncomputable def evBS3 (P : Program) (t : TypeId) (len : Nat) (parts : List (Nat × Value)) : M Value :=
  match P.underlying t with
  | some (.slice e) => match size? P e, zero? P e with
    | some sz, some z =>
      if len = 0 && parts.isEmpty then (newB3 e []).bind fun id => .ret (.slice (some ⟨id, 0, none⟩) 0 0) else
      if 0 < len * sz && len * sz ≤ 65536 then
        match fill3 (fun i => some (i * sz, sz)) (cells1 z (len * sz)) parts with
        | some cs => (newB3 e cs).bind fun id => .ret (.slice (some ⟨id, 0, none⟩) len len)
        | none => .fail
      else .fail
    | _, _ => .fail
  | _ => .fail
theorem evBS3_eq (P : Program) : evBS3 P = evBuildSlice P := by
  funext t len parts
  unfold evBS3 evBuildSlice
  simp only [cells1_eq, newB3_eq, fill3_eq]
  cases P.underlying t with
  | none => rfl
  | some u =>
    cases u <;> try rfl
    rename_i e
    simp only
    cases size? P e with
    | none => rfl
    | some sz =>
      cases zero? P e with
      | none => rfl
      | some z =>
        simp only
        cases Instr.fill (fun i => some (i * sz, sz)) (zeros z (len * sz)) parts <;> rfl
/-- what is told of a part's own blocks is left out -/
noncomputable def flt (n n1 : Nat) (L L2 : List En) : List En := List.rec (motive := fun _ => List En) L2 (fun e _ ih => match Nat.ble n e.b with
  | true => (match Nat.ble (Nat.succ e.b) n1 with
    | true => ih
    | false => e :: ih)
  | false => e :: ih) L
theorem flt_eq (n n1 : Nat) (L2 : List En) : ∀ L : List En, flt n n1 L L2 = (L.filter fun e => !(decide (n ≤ e.b) && decide (e.b < n1))) ++ L2
  | [] => rfl
  | e :: L => by
    show (match Nat.ble n e.b with
      | true => (match Nat.ble (Nat.succ e.b) n1 with
        | true => flt n n1 L L2
        | false => e :: flt n n1 L L2)
      | false => e :: flt n n1 L L2) = _
    rw [flt_eq n n1 L2 L, List.filter_cons, ble_dec, ble_dec]
    by_cases h1 : n ≤ e.b
    · by_cases h2 : e.b < n1
      · have h3 : e.b.succ ≤ n1 := h2
        simp [h1, h2, h3]
      · have h3 : ¬ e.b.succ ≤ n1 := h2
        simp [h1, h2, h3]
    · simp [h1]
noncomputable def insB {α β : Type} (m : M α) (k : α → M β) : M β := fun h n => match m h n with
  | some ⟨a, h1, n1, L⟩ => (match k a h1 n1 with
    | some ⟨b, h2, n2, L2⟩ => some ⟨b, h2, n2, flt n n1 L L2⟩
    | none => none)
  | none => none
theorem insB_eq {α β : Type} (m : M α) (k : α → M β) : insB m k = (inside m).bind k := by
  funext h n
  unfold insB M.bind inside
  cases hm : m h n with
  | none => simp only [hm]
  | some o =>
    obtain ⟨a, h1, n1, L⟩ := o
    simp only [hm, flt_eq]
    rfl
noncomputable def anyE (p : En → Bool) (L : List En) : Bool := List.rec (motive := fun _ => Bool) false (fun e _ ih => match p e with
  | true => true
  | false => ih) L
theorem anyE_eq (p : En → Bool) : ∀ L : List En, anyE p L = L.any p
  | [] => rfl
  | e :: L => by
    show (match p e with
      | true => true
      | false => anyE p L) = _
    rw [anyE_eq p L, List.any_cons]
    cases p e <;> rfl
noncomputable def andL (a b : Bool) : Bool := match a with
  | true => b
  | false => false
theorem andL_eq (a b : Bool) : andL a b = (a && b) := by cases a <;> rfl
noncomputable def meets3 (x y : En) : Bool := match Nat.beq x.b y.b with
  | true => (x.k == y.k || x.k.isNone || y.k.isNone)
  | false => false
theorem meets3_eq (x y : En) : meets3 x y = x.meets y := by
  unfold meets3 En.meets
  rw [beq_dec]
  by_cases h : x.b = y.b
  · simp [h]
  · have : (x.b == y.b) = false := by simpa using h
    simp [h]
noncomputable def clash3 (a b : Tk) : Bool :=
  match anyE (fun x => andL x.wr (anyE (fun y => meets3 x y) b.log)) a.log with
  | true => true
  | false => match anyE (fun x => andL x.wr (anyE (fun y => meets3 x y) a.log)) b.log with
    | true => true
    | false => match anyE (fun x => andL (Nat.ble b.n x.b) (Nat.ble (Nat.succ x.b) b.n1)) a.log with
      | true => true
      | false => anyE (fun x => andL (Nat.ble a.n x.b) (Nat.ble (Nat.succ x.b) a.n1)) b.log
theorem clash3_eq (a b : Tk) : clash3 a b = a.clash b := by
  have key : ∀ (n n1 : Nat) (L : List En), (anyE (fun x => andL (Nat.ble n x.b) (Nat.ble (Nat.succ x.b) n1)) L) = L.any fun x => decide (n ≤ x.b) && decide (x.b < n1) := fun n n1 L => by
    rw [anyE_eq]
    congr 1
    funext x
    rw [andL_eq, ble_dec, ble_dec]
    rfl
  unfold clash3 Tk.clash
  rw [key, key]
  simp only [anyE_eq, andL_eq, meets3_eq]
  cases (a.log.any fun x => x.wr && b.log.any fun y => x.meets y) <;> cases (b.log.any fun x => x.wr && a.log.any fun y => x.meets y) <;> cases (a.log.any fun x => decide (b.n ≤ x.b) && decide (x.b < b.n1)) <;> simp
noncomputable def CurT : List Nat → Type
  | [] => M Value
  | _ :: r => Value → CurT r
noncomputable def runCur : (ks : List Nat) → CurT ks → (Fr → M Value) → Fr → M Value
  | [], F, _, [] => F
  | k :: r, F, K, (u, v) :: s => match Nat.beq u k with
    | true => runCur r (F v) (fun s => K ((k, v) :: s)) s
    | false => K ((u, v) :: s)
  | [], _, K, x :: s => K (x :: s)
  | _ :: _, _, K, [] => K []
noncomputable def EqCur : (ks : List Nat) → CurT ks → (Fr → M Value) → Prop
  | [], F, K => F = K []
  | k :: r, F, K => ∀ v, EqCur r (F v) (fun s => K ((k, v) :: s))
theorem runCur_eq : ∀ (ks : List Nat) (F : CurT ks) (K : Fr → M Value), EqCur ks F K → runCur ks F K = K := by
  intro ks
  induction ks with
  | nil =>
    intro F K h
    funext s
    cases s with
    | nil => exact h
    | cons x s => rfl
  | cons k r ih =>
    intro F K h
    funext s
    cases s with
    | nil => rfl
    | cons x s =>
      obtain ⟨u, v⟩ := x
      unfold runCur
      cases e : Nat.beq u k with
      | true =>
        have := Nat.eq_of_beq_eq_true e
        subst this
        simp only
        rw [ih (F v) (fun s => K ((u, v) :: s)) (h v)]
      | false => rfl
noncomputable def kEx (i : Nat) (G : Fr → M Value) (K : Ex → Fr → M Value) : Ex → Fr → M Value
  | .exit j => match Nat.beq j i with
    | true => G
    | false => K (.exit j)
  | .ret => K .ret
  | .normal => K .normal
theorem kEx_eq {i : Nat} {G : Fr → M Value} {K : Ex → Fr → M Value} (h : G = K (.exit i)) : kEx i G K = K := by
  funext e
  cases e with
  | exit j =>
    show (match Nat.beq j i with
      | true => G
      | false => K (.exit j)) = K (.exit j)
    cases hq : Nat.beq j i with
    | true => rw [Nat.eq_of_beq_eq_true hq]; exact h
    | false => rfl
  | ret => rfl
  | normal => rfl
noncomputable def kRt (G : Fr → M Value) (K : Ex → Fr → M Value) : Ex → Fr → M Value
  | .exit j => K (.exit j)
  | .ret => G
  | .normal => K .normal
theorem kRt_eq {G : Fr → M Value} {K : Ex → Fr → M Value} (h : G = K .ret) : kRt G K = K := by
  funext e
  cases e with
  | exit j => rfl
  | ret => exact h
  | normal => rfl
noncomputable def ArT : Nat → Type
  | 0 => M Value
  | n + 1 => Value → ArT n
noncomputable def runAr : (n : Nat) → ArT n → (List Value → M Value) → List Value → M Value
  | 0, F, _, [] => F
  | n + 1, F, K, v :: s => runAr n (F v) (fun s => K (v :: s)) s
  | 0, _, K, x :: s => K (x :: s)
  | _ + 1, _, K, [] => K []
noncomputable def EqAr : (n : Nat) → ArT n → (List Value → M Value) → Prop
  | 0, F, K => F = K []
  | n + 1, F, K => ∀ v, EqAr n (F v) (fun s => K (v :: s))
theorem runAr_eq : ∀ (n : Nat) (F : ArT n) (K : List Value → M Value), EqAr n F K → runAr n F K = K := by
  intro n
  induction n with
  | zero =>
    intro F K h
    funext s
    cases s with
    | nil => exact h
    | cons x s => rfl
  | succ n ih =>
    intro F K h
    funext s
    cases s with
    | nil => rfl
    | cons v s =>
      show runAr n (F v) (fun s => K (v :: s)) s = _
      rw [ih (F v) (fun s => K (v :: s)) (h v)]
noncomputable def findT {α : Type} (f : Nat) : List (Nat × α) → Option α
  | [] => none
  | p :: r => match Nat.beq p.1 f with
    | true => some p.2
    | false => findT f r
abbrev Tab := List (Nat × (Nat → (FuncId → Array Value → M Value) → List Value → M Value))
noncomputable def OkTab (C : Nat → FuncId → Array Value → M Value) : Tab → Prop
  | [] => True
  | p :: r => (∀ d, p.2 d (C d) = fun l => C (d + 1) p.1 l.toArray) ∧ OkTab C r
theorem findT_ok {C : Nat → FuncId → Array Value → M Value} {f : Nat} {E : Nat → (FuncId → Array Value → M Value) → List Value → M Value} : ∀ {T : Tab}, OkTab C T → findT f T = some E → ∀ d, E d (C d) = fun l => C (d + 1) f l.toArray
  | [], _, h => by cases h
  | p :: r, ok, h => by
    unfold findT at h
    cases hq : Nat.beq p.1 f with
    | true =>
      rw [hq] at h
      cases h
      rw [← Nat.eq_of_beq_eq_true hq]
      exact ok.1
    | false =>
      rw [hq] at h
      exact findT_ok ok.2 h
noncomputable def fastT (C : Nat → FuncId → Array Value → M Value) (T : Tab) : Nat → FuncId → Array Value → M Value
  | 0, f, a => C 0 f a
  | d + 1, f, a => match findT f T with
    | some E => E d (fastT C T d) a.toList
    | none => C (d + 1) f a
theorem fastT_eq {C : Nat → FuncId → Array Value → M Value} {T : Tab} (ok : OkTab C T) : ∀ d, fastT C T d = C d
  | 0 => rfl
  | d + 1 => by
    have ih := fastT_eq ok d
    funext f a
    unfold fastT
    rw [ih]
    split
    · rename_i E hE
      rw [findT_ok ok hE d]
    · rfl

end Go.Proofs.YtdagfcflbphoiaaDoor.Ev
/- The functions that the evaluator leaves out. -/
namespace Go.Proofs.YtdagfcflbphoiaaDoor.Fa
set_option linter.unusedVariables false
set_option linter.unusedSimpArgs false
open Go
def kn0 : List FuncId := []
end Go.Proofs.YtdagfcflbphoiaaDoor.Fa

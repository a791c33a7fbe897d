/- A sorter, in plain Lean: a part is sorted by so many steps. No program in sight. -/
import Derived.Test.YtbakfaihnecmoaaSP
namespace Go.Proofs.Ytbakfaihnecmoaa
set_option linter.unusedVariables false
set_option linter.unusedSimpArgs false
open Go.RowKit
namespace Sp

theorem gtP_iff (k l : Nat × Nat) : gtP k l = true ↔ l.1 < k.1 ∨ l.1 = k.1 ∧ l.2 < k.2 := by
  unfold gtP
  rw [Bool.or_eq_true, Bool.and_eq_true, decide_eq_true_iff, decide_eq_true_iff, beq_iff_eq]
  constructor <;> intro h <;> omega
theorem gtP_not (k l : Nat × Nat) : gtP k l = false ↔ gtP l k = true ∨ k = l := by
  rw [Bool.eq_false_iff, ne_eq, gtP_iff, gtP_iff, Prod.ext_iff]
  omega
/-- a is to stand ahead of b: its key is less, or the keys are the same and its place is less -/
def Rk (k : Nat → Nat × Nat) (a b : Nat) : Prop := gtP (k b) (k a) = true ∨ k a = k b ∧ a < b
theorem iter_add (s : ByteArray) : ∀ a b x, iterS s (a + b) x = iterS s b (iterS s a x)
  | 0, b, x => by rw [Nat.zero_add]; rfl
  | a + 1, b, x => by rw [Nat.add_right_comm]; exact iter_add s a b (stepS s x)
theorem join_in {x : SS} (h : 0 < x.hi) : joinS x = x := by
  unfold joinS
  split
  · rfl
  · rw [if_neg (by omega)]
theorem step_join (s : ByteArray) (x : SS) (h : 0 < (joinS x).hi) (hst : (joinS x).steps = x.steps) : stepS s x = stepS s (joinS x) := by
  unfold stepS
  rw [join_in h, hst]
theorem iter_join (s : ByteArray) (c : Nat) (x : SS) (h : 0 < (joinS x).hi) (hst : (joinS x).steps = x.steps) : iterS s (c + 1) x = iterS s (c + 1) (joinS x) := by
  show iterS s c (stepS s x) = iterS s c (stepS s (joinS x))
  rw [step_join s x h hst]

theorem getD_mid (pre : List Nat) (v : Nat) (post : List Nat) : (pre ++ v :: post).getD pre.length 0 = v := by
  simp [List.getD_eq_getElem?_getD]
theorem set_mid (pre : List Nat) (v u : Nat) (post : List Nat) : (pre ++ v :: post).set pre.length u = pre ++ u :: post := by
  rw [List.set_append_right (h := Nat.le_refl _), Nat.sub_self]; rfl

/-- the places of the first part are laid aside -/
theorem lay_run (s : ByteArray) : ∀ (A D E : List Nat) (x : SS) (pre B post : List Nat), x.ord = pre ++ (D ++ A) ++ B ++ post → x.lo = pre.length → x.mid = x.lo + D.length + A.length → 0 < x.hi → x.asd = D ++ E → x.laid = D.length → A.length ≤ E.length →
    iterS s A.length x = { x with asd := D ++ A ++ E.drop A.length, laid := D.length + A.length, steps := x.steps + A.length }
  | [], D, E, x, pre, B, post, _, _, _, _, h5, h6, _ => by
    simp only [iterS, List.length_nil, List.append_nil, List.drop_zero, Nat.add_zero]
    rw [← h5, ← h6]
  | a :: A, D, [], x, pre, B, post, _, _, _, _, _, _, h7 => by simp at h7
  | a :: A, D, e :: E, x, pre, B, post, h1, h2, h3, h4, h5, h6, h7 => by
    simp only [List.length_cons] at *
    have hst : stepS s x = { x with asd := (D ++ [a]) ++ E, laid := x.laid + 1, steps := x.steps + 1 } := by
      have hg : x.ord.getD (x.lo + x.laid) 0 = a := by
        rw [h1, h2, h6, show pre ++ (D ++ a :: A) ++ B ++ post = (pre ++ D) ++ a :: (A ++ B ++ post) by simp, ← List.length_append]
        exact getD_mid _ _ _
      unfold stepS
      rw [join_in h4]
      unfold actS
      rw [if_pos h4, if_pos (by omega)]
      unfold layS
      rw [hg, h5, h6, set_mid]
      simp
    show iterS s A.length (stepS s x) = _
    rw [hst]
    rw [lay_run s A (D ++ [a]) E { x with asd := (D ++ [a]) ++ E, laid := x.laid + 1, steps := x.steps + 1 } pre B post (by simp [h1]) h2 (by simp only [List.length_append, List.length_cons, List.length_nil]; omega) h4 rfl (by simp [h6]) (by omega)]
    simp [Nat.add_assoc, Nat.add_comm, Nat.add_left_comm]

/-- two sorted parts are put together -/
theorem merge_run (s : ByteArray) (k : Nat → Nat × Nat) : ∀ (c : Nat) (x : SS) (pre P J B post D A E : List Nat), A.length + B.length = c → 0 < c → (∀ a, k a = keyS s x.reach x.cls a) →
    x.ord = pre ++ P ++ J ++ B ++ post → x.asd = D ++ A ++ E → J.length = A.length → x.lo = pre.length → x.hi = x.lo + P.length + J.length + B.length → x.two + B.length = x.hi → x.one = D.length → x.laid = D.length + A.length → x.mid = x.lo + x.laid → x.mid ≤ x.two → P.length = x.one + (x.two - x.mid) → 0 < x.laid →
    (P ++ A).Pairwise (Rk k) → (P ++ B).Pairwise (Rk k) → (∀ a ∈ A, ∀ b ∈ B, k a = k b → a < b) →
    ∃ Q one two, Q.Perm (A ++ B) ∧ (P ++ Q).Pairwise (Rk k) ∧ iterS s c x = { x with ord := pre ++ P ++ Q ++ post, lo := 0, mid := 0, hi := 0, one := one, two := two, steps := x.steps + c }
  | 0, _, _, _, _, _, _, _, _, _, _, h0, _, _, _, _, _, _, _, _, _, _, _, _, _, _, _, _ => absurd h0 (Nat.lt_irrefl 0)
  | c + 1, x, pre, P, J, B, post, D, A, E, hc, _, hk, h1, h2, h3, h4, h5, h6, h7, h8, h9, h10, h11, h12, pA, pB, cr => by
    have hto : toS x = (pre ++ P).length := by unfold toS; rw [List.length_append]; omega
    have hhi : 0 < x.hi := by omega
    have hstep : stepS s x = { putS s x with steps := x.steps + 1 } := by
      unfold stepS
      rw [join_in hhi]
      unfold actS
      rw [if_pos hhi, if_neg (by omega)]
    have ga : ∀ a A', A = a :: A' → x.asd.getD x.one 0 = a := by
      intro a A' e
      rw [h2, h7, e, show D ++ a :: A' ++ E = D ++ a :: (A' ++ E) by simp]
      exact getD_mid _ _ _
    have gb : ∀ b B', B = b :: B' → x.ord.getD x.two 0 = b := by
      intro b B' e
      have : x.two = (pre ++ P ++ J).length := by simp only [List.length_append]; omega
      rw [h1, e, this, show pre ++ P ++ J ++ b :: B' ++ post = (pre ++ P ++ J) ++ b :: (B' ++ post) by simp]
      exact getD_mid _ _ _
    have hend : (toS x + 1 == x.hi) = decide (c = 0) := by
      rw [hto, Bool.eq_iff_iff, beq_iff_eq, decide_eq_true_iff, List.length_append]; omega
    -- what is put if it comes of the first part
    have first : ∀ a A', A = a :: A' → takeS s x = true → (∀ b ∈ B, Rk k a b) → ∃ Q one two, Q.Perm (A ++ B) ∧ (P ++ Q).Pairwise (Rk k) ∧ iterS s (c + 1) x = { x with ord := pre ++ P ++ Q ++ post, lo := 0, mid := 0, hi := 0, one := one, two := two, steps := x.steps + (c + 1) } := by
      intro a A' eA ht hab
      obtain ⟨j, J', eJ⟩ : ∃ j J', J = j :: J' := by
        cases J with
        | nil => rw [eA] at h3; simp at h3
        | cons j J' => exact ⟨j, J', rfl⟩
      subst eA eJ
      simp only [List.length_cons] at *
      have hset : x.ord.set (toS x) a = pre ++ (P ++ [a]) ++ J' ++ B ++ post := by
        rw [hto, h1, show pre ++ P ++ j :: J' ++ B ++ post = (pre ++ P) ++ j :: (J' ++ B ++ post) by simp, set_mid]; simp
      have hput : putS s x = endS { x with ord := pre ++ (P ++ [a]) ++ J' ++ B ++ post, one := x.one + 1 } (decide (c = 0)) := by
        unfold putS; rw [if_pos ht, ga a A' rfl, hset, hend]
      have pA' : ((P ++ [a]) ++ A').Pairwise (Rk k) := by simpa using pA
      have pB' : ((P ++ [a]) ++ B).Pairwise (Rk k) := by
        rw [List.pairwise_append] at pA pB ⊢
        refine ⟨?_, pB.2.1, fun p hp b hb => ?_⟩
        · rw [List.pairwise_append]
          exact ⟨pB.1, by simp, fun p hp q hq => pA.2.2 p hp q (by simp at hq; simp [hq])⟩
        · rw [List.mem_append] at hp
          rcases hp with hp | hp
          · exact pB.2.2 p hp b hb
          · simp at hp; subst hp; exact hab b hb
      show ∃ Q one two, _ ∧ _ ∧ iterS s c (stepS s x) = _
      rw [hstep, hput]
      cases c with
      | zero =>
        have e1 : A' = [] := List.eq_nil_of_length_eq_zero (by omega)
        have e2 : B = [] := List.eq_nil_of_length_eq_zero (by omega)
        subst e1 e2
        have e3 : J' = [] := List.eq_nil_of_length_eq_zero (by simpa using h3)
        subst e3
        refine ⟨[a], x.one + 1, x.two, by simp, by simpa using pA', ?_⟩
        simp [iterS, endS]
      | succ c =>
        rw [show decide (c + 1 = 0) = false by simp]
        obtain ⟨Q, one, two, q1, q2, q3⟩ := merge_run s k (c + 1) { x with ord := pre ++ (P ++ [a]) ++ J' ++ B ++ post, one := x.one + 1, steps := x.steps + 1 } pre (P ++ [a]) J' B post (D ++ [a]) A' E (by omega) (by omega) hk rfl (by simp [h2]) (by omega) h4 (by simp only [List.length_append, List.length_cons, List.length_nil]; omega) h6 (by simp [h7]) (by simp only [List.length_append, List.length_cons, List.length_nil]; omega) h9 h10 (by simp only [List.length_append, List.length_cons, List.length_nil]; omega) h12 pA' pB' (fun u hu => cr u (List.mem_cons_of_mem _ hu))
        refine ⟨a :: Q, one, two, by simpa using q1.cons a, by simpa using q2, ?_⟩
        show iterS s (c + 1) _ = _
        rw [show ({ endS { x with ord := pre ++ (P ++ [a]) ++ J' ++ B ++ post, one := x.one + 1 } false with steps := x.steps + 1 } : SS) = { x with ord := pre ++ (P ++ [a]) ++ J' ++ B ++ post, one := x.one + 1, steps := x.steps + 1 } from rfl, q3]
        simp [Nat.add_assoc, Nat.add_comm, Nat.add_left_comm]
    have second : ∀ b B', B = b :: B' → takeS s x = false → (∀ a ∈ A, Rk k b a) → ∃ Q one two, Q.Perm (A ++ B) ∧ (P ++ Q).Pairwise (Rk k) ∧ iterS s (c + 1) x = { x with ord := pre ++ P ++ Q ++ post, lo := 0, mid := 0, hi := 0, one := one, two := two, steps := x.steps + (c + 1) } := by
      intro b B' eB ht hab
      subst eB
      simp only [List.length_cons] at *
      obtain ⟨J', eJ, hJ'⟩ : ∃ J', x.ord.set (toS x) b = pre ++ (P ++ [b]) ++ J' ++ B' ++ post ∧ J'.length = J.length := by
        cases J with
        | nil => exact ⟨[], by rw [hto, h1, show pre ++ P ++ [] ++ b :: B' ++ post = (pre ++ P) ++ b :: (B' ++ post) by simp, set_mid]; simp, rfl⟩
        | cons j J' => exact ⟨J' ++ [b], by rw [hto, h1, show pre ++ P ++ j :: J' ++ b :: B' ++ post = (pre ++ P) ++ j :: (J' ++ b :: B' ++ post) by simp, set_mid]; simp, by simp⟩
      have hput : putS s x = endS { x with ord := pre ++ (P ++ [b]) ++ J' ++ B' ++ post, two := x.two + 1 } (decide (c = 0)) := by
        unfold putS; rw [if_neg (by simp [ht]), gb b B' rfl, eJ, hend]
      have pB' : ((P ++ [b]) ++ B').Pairwise (Rk k) := by simpa using pB
      have pA' : ((P ++ [b]) ++ A).Pairwise (Rk k) := by
        rw [List.pairwise_append] at pA pB ⊢
        refine ⟨?_, pA.2.1, fun p hp a ha => ?_⟩
        · rw [List.pairwise_append]
          exact ⟨pA.1, by simp, fun p hp q hq => pB.2.2 p hp q (by simp at hq; simp [hq])⟩
        · rw [List.mem_append] at hp
          rcases hp with hp | hp
          · exact pA.2.2 p hp a ha
          · simp at hp; subst hp; exact hab a ha
      show ∃ Q one two, _ ∧ _ ∧ iterS s c (stepS s x) = _
      rw [hstep, hput]
      cases c with
      | zero =>
        have e1 : A = [] := List.eq_nil_of_length_eq_zero (by omega)
        have e2 : B' = [] := List.eq_nil_of_length_eq_zero (by omega)
        subst e1 e2
        have e3 : J' = [] := List.eq_nil_of_length_eq_zero (by rw [hJ']; simpa using h3)
        subst e3
        refine ⟨[b], x.one, x.two + 1, by simp, by simpa using pB', ?_⟩
        simp [iterS, endS]
      | succ c =>
        rw [show decide (c + 1 = 0) = false by simp]
        obtain ⟨Q, one, two, q1, q2, q3⟩ := merge_run s k (c + 1) { x with ord := pre ++ (P ++ [b]) ++ J' ++ B' ++ post, two := x.two + 1, steps := x.steps + 1 } pre (P ++ [b]) J' B' post D A E (by omega) (by omega) hk rfl h2 (by omega) h4 (by simp only [List.length_append, List.length_cons, List.length_nil]; omega) (by simp only; omega) h7 h8 h9 (by simp only; omega) (by simp only [List.length_append, List.length_cons, List.length_nil]; omega) h12 pA' pB' (fun u hu v hv => cr u hu v (List.mem_cons_of_mem _ hv))
        refine ⟨b :: Q, one, two, ((q1.cons b).trans List.perm_middle.symm), by simpa using q2, ?_⟩
        show iterS s (c + 1) _ = _
        rw [show ({ endS { x with ord := pre ++ (P ++ [b]) ++ J' ++ B' ++ post, two := x.two + 1 } false with steps := x.steps + 1 } : SS) = { x with ord := pre ++ (P ++ [b]) ++ J' ++ B' ++ post, two := x.two + 1, steps := x.steps + 1 } from rfl, q3]
        simp [Nat.add_assoc, Nat.add_comm, Nat.add_left_comm]
    cases hB : B with
    | nil =>
      cases hA : A with
      | nil => rw [hA, hB] at hc; simp at hc
      | cons a A' =>
        rw [← hA, ← hB]
        refine first a A' hA ?_ (by rw [hB]; simp)
        unfold takeS
        rw [show (x.two == x.hi) = true by rw [hB] at h6; simpa using h6]; rfl
    | cons b B' =>
      have h2l : (x.two == x.hi) = false := by rw [hB] at h6; simp at h6 ⊢; omega
      rw [← hB]
      cases hA : A with
      | nil =>
        rw [← hA]
        refine second b B' hB ?_ (by rw [hA]; simp)
        unfold takeS
        rw [h2l, Bool.false_or]
        rw [show decide (x.one < x.laid) = false by rw [hA] at h8; simp at h8 ⊢; omega]; rfl
      | cons a A' =>
        rw [← hA]
        have habs : abS s x (x.asd.getD x.one 0) (x.ord.getD x.two 0) = gtP (k a) (k b) := by unfold abS; rw [ga a A' hA, gb b B' hB, hk, hk]
        have htk : takeS s x = !gtP (k a) (k b) := by
          unfold takeS
          rw [h2l, Bool.false_or, show decide (x.one < x.laid) = true by rw [hA] at h8; simp at h8 ⊢; omega, Bool.true_and, habs]
        rw [List.pairwise_append] at pA pB
        have sB := pB.2.1
        have sA := pA.2.1
        rw [hB, List.pairwise_cons] at sB
        rw [hA, List.pairwise_cons] at sA
        cases hg : gtP (k a) (k b) with
        | false =>
          refine first a A' hA (by rw [htk, hg]; rfl) fun v hv => ?_
          have hx := cr a (by rw [hA]; simp) v hv
          rw [hB, List.mem_cons] at hv
          rcases hv with rfl | hv
          · rw [gtP_not] at hg
            rcases hg with hg | hg
            · exact .inl hg
            · exact .inr ⟨hg, hx hg⟩
          · rw [gtP_not, gtP_iff, Prod.ext_iff] at hg
            have h5 := sB.1 v hv
            unfold Rk at h5 ⊢
            rw [gtP_iff, Prod.ext_iff] at h5 ⊢
            by_cases he : k a = k v
            · rw [Prod.ext_iff] at he; exact .inr ⟨he, hx (Prod.ext he.1 he.2)⟩
            · rw [Prod.ext_iff] at he; left; omega
        | true =>
          refine second b B' hB (by rw [htk, hg]; rfl) fun v hv => ?_
          rw [hA, List.mem_cons] at hv
          rcases hv with rfl | hv
          · exact .inl hg
          · have h5 := sA.1 v hv
            unfold Rk at h5 ⊢
            rw [gtP_iff] at hg
            rw [gtP_iff, Prod.ext_iff] at h5 ⊢
            left; omega

theorem perm_pw {R : Nat → Nat → Prop} {a a' b b' : List Nat} (h : (a ++ b).Pairwise R) (ha : a'.Perm a) (hb : b'.Perm b) : ∀ u ∈ a', ∀ v ∈ b', R u v := by
  rw [List.pairwise_append] at h
  exact fun u hu v hv => h.2.2 u (ha.mem_iff.1 hu) v (hb.mem_iff.1 hv)

/-- a part that waits is sorted -/
theorem sort_run (s : ByteArray) (k : Nat → Nat × Nat) : ∀ (f m : Nat), m ≤ f → ∀ (x : SS) (pre seg post : List Nat) (rest : List (Nat × Nat × Nat)), seg.length = m → (∀ a, k a = keyS s x.reach x.cls a) → x.ord = pre ++ seg ++ post → x.asd.length = x.ord.length → x.stk = (pre.length, 0, pre.length + m) :: rest → x.hi = 0 →
    seg.Pairwise (fun a b => k a = k b → a < b) →
    ∃ seg' asd' lo mid laid one two, seg'.Perm seg ∧ seg'.Pairwise (Rk k) ∧ asd'.length = x.asd.length ∧ iterS s (costT m) x = { x with ord := pre ++ seg' ++ post, asd := asd', stk := rest, lo := lo, mid := mid, hi := 0, laid := laid, one := one, two := two, steps := x.steps + costT m }
  | f, m, hf, x, pre, seg, post, rest, hl, hk, h1, h2, h3, h4, hst => by
    have hj : joinS x = x := by unfold joinS; rw [h3]; simp
    by_cases hm : m < 2
    · rw [costT_small hm]
      refine ⟨seg, x.asd, x.lo, x.mid, x.laid, x.one, x.two, List.Perm.refl _, ?_, rfl, ?_⟩
      · match seg, hl with
        | [], _ => exact List.Pairwise.nil
        | [a], _ => exact List.pairwise_singleton _ _
        | a :: b :: r, hl => simp at hl; omega
      · show iterS s 0 (stepS s x) = _
        show stepS s x = _
        unfold stepS
        rw [hj]
        unfold actS
        rw [if_neg (by omega), h3]
        simp only
        unfold beginS
        rw [h3]
        simp only
        rw [if_pos (by omega), ← h1, ← h4]
    · match f, hf with
      | 0, hf => omega
      | f + 1, hf =>
        have hm1 : 1 ≤ m / 2 := by omega
        rw [costT_big (by omega)]
        obtain ⟨A, B, hA, hB, hseg⟩ : ∃ A B, A.length = m / 2 ∧ B.length = m - m / 2 ∧ seg = A ++ B := ⟨seg.take (m / 2), seg.drop (m / 2), by rw [List.length_take]; omega, by rw [List.length_drop]; omega, (List.take_append_drop _ _).symm⟩
        subst hseg
        have hst0 := hst
        rw [List.pairwise_append] at hst
        have hs1 : stepS s x = { x with stk := (pre.length, 0, pre.length + m / 2) :: ((pre ++ A).length, 0, (pre ++ A).length + (m - m / 2)) :: (pre.length, pre.length + m / 2, pre.length + m) :: rest, steps := x.steps + 1 } := by
          unfold stepS
          rw [hj]
          unfold actS
          rw [if_neg (by omega), h3]
          simp only
          unfold beginS
          rw [h3]
          simp only
          rw [if_neg (by omega), show (pre.length + (pre.length + m)) / 2 = pre.length + m / 2 by omega, List.length_append, hA, show pre.length + m / 2 + (m - m / 2) = pre.length + m by omega]
        rw [show 1 + costT (m / 2) + costT (m - m / 2) + m / 2 + m = 1 + (costT (m / 2) + (costT (m - m / 2) + (m / 2 + m))) by omega, iter_add]
        show ∃ seg' asd' lo mid laid one two, _ ∧ _ ∧ _ ∧ iterS s _ (stepS s x) = _
        rw [hs1, iter_add]
        obtain ⟨A', asd1, lo1, mid1, laid1, one1, two1, a1, a2, a3, a4⟩ := sort_run s k f (m / 2) (by omega) { x with stk := (pre.length, 0, pre.length + m / 2) :: ((pre ++ A).length, 0, (pre ++ A).length + (m - m / 2)) :: (pre.length, pre.length + m / 2, pre.length + m) :: rest, steps := x.steps + 1 } pre A (B ++ post) _ hA hk (by simp [h1]) h2 rfl h4 hst.1
        rw [a4, iter_add]
        obtain ⟨B', asd2, lo2, mid2, laid2, one2, two2, b1, b2, b3, b4⟩ := sort_run s k f (m - m / 2) (by omega) { x with ord := pre ++ A' ++ (B ++ post), asd := asd1, stk := ((pre ++ A).length, 0, (pre ++ A).length + (m - m / 2)) :: (pre.length, pre.length + m / 2, pre.length + m) :: rest, lo := lo1, mid := mid1, hi := 0, laid := laid1, one := one1, two := two1, steps := x.steps + 1 + costT (m / 2) } (pre ++ A') B post ((pre.length, pre.length + m / 2, pre.length + m) :: rest) hB hk (by simp) (by
            have := a1.length_eq
            simp only [List.length_append] at *; rw [a3, h2, h1]; simp only [List.length_append]; omega) (by simp only [List.length_append, a1.length_eq]) rfl hst.2.1
        simp only [List.append_assoc] at b4 ⊢
        rw [b4]
        have lA := a1.length_eq
        have lB := b1.length_eq
        have hlen : asd2.length = (pre ++ (A' ++ B' ++ post)).length := by
          rw [b3]; simp only [a3, h2, h1, List.length_append]; omega
        -- the parts are joined, and the first one is laid aside
        rw [show m / 2 + m = (m / 2 - 1) + 1 + m by omega, iter_add]
        have hjn : ∀ (y : SS), y.hi = 0 → y.stk = (pre.length, pre.length + m / 2, pre.length + m) :: rest → joinS y = { y with lo := pre.length, mid := pre.length + m / 2, hi := pre.length + m, stk := rest, laid := 0, one := 0, two := pre.length + m / 2 } := by
          intro y e1 e2
          unfold joinS
          rw [e2]
          simp only
          rw [if_pos ⟨e1, by omega⟩]
        rw [iter_join s (m / 2 - 1) _ (by rw [hjn _ rfl rfl]; simp only; omega) (by rw [hjn _ rfl rfl])]
        rw [hjn _ rfl rfl]
        rw [show m / 2 - 1 + 1 = A'.length by omega]
        rw [lay_run s A' [] asd2 { x with ord := pre ++ (A' ++ (B' ++ post)), asd := asd2, stk := rest, lo := pre.length, mid := pre.length + m / 2, hi := pre.length + m, laid := 0, one := 0, two := pre.length + m / 2, steps := x.steps + 1 + costT (m / 2) + costT (m - m / 2) } pre B' post (by simp) rfl (by simp only [List.length_nil]; omega) (by simp only; omega) rfl rfl (by rw [hlen]; simp only [List.length_append]; omega)]
        obtain ⟨Q, one3, two3, c1, c2, c3⟩ := merge_run s k m { x with ord := pre ++ (A' ++ (B' ++ post)), asd := [] ++ A' ++ asd2.drop A'.length, stk := rest, lo := pre.length, mid := pre.length + m / 2, hi := pre.length + m, laid := [].length + A'.length, one := 0, two := pre.length + m / 2, steps := x.steps + 1 + costT (m / 2) + costT (m - m / 2) + A'.length } pre [] A' B' post [] A' (asd2.drop A'.length) (by omega) (by omega) hk (by simp) rfl rfl rfl (by simp only [List.length_nil]; omega) (by simp only; omega) rfl (by simp) (by simp only [List.length_nil]; omega) (by simp only; omega) (by simp) (by simp only [List.length_nil]; omega) (by simpa using a2) (by simpa using b2) (perm_pw hst0 a1 b1)
        rw [c3]
        refine ⟨Q, A' ++ asd2.drop A'.length, 0, 0, A'.length, one3, two3, c1.trans (a1.append b1), by simpa using c2, ?_, ?_⟩
        · rw [List.length_append, List.length_drop, hlen, h2, h1]; simp only [List.length_append]; omega
        · rw [show x.steps + 1 + costT (m / 2) + costT (m - m / 2) + A'.length + m = x.steps + (1 + (costT (m / 2) + (costT (m - m / 2) + (A'.length + m)))) by omega]
          simp
end Sp
end Go.Proofs.Ytbakfaihnecmoaa

/- Trees that are joined two by two, in plain Lean: the two rows of the package (leaves in order, joined ones in order). No program in sight. -/
import Derived.WideShapes
import Derived.WalkLawsBesides
namespace Go.Proofs.Ytapdcejhfooahaa.Hu
set_option linter.unusedVariables false
set_option linter.unusedSimpArgs false

structure HT where
  weight : List Int
  into : List Int
  leaves : List Nat
  joined : Nat

def wAt (t : HT) (i : Nat) : Int := t.weight.getD i 0
/-- is the least tree a leaf? -/
def isLeaf (t : HT) : Bool := t.joined == t.weight.length || (decide (0 < t.leaves.length) && decide (wAt t (t.leaves.getD 0 0) ≤ wAt t t.joined))
def leastOf (t : HT) : Nat := if isLeaf t then t.leaves.getD 0 0 else t.joined
def taken (t : HT) : HT := if isLeaf t then { t with leaves := t.leaves.tail } else { t with joined := t.joined + 1 }
def joinH (t : HT) (a b : Nat) : HT := { t with weight := t.weight ++ [wAt t a + wAt t b], into := ((t.into.set a t.weight.length).set b t.weight.length) ++ [-1] }
def stepH (t : HT) : HT := joinH (taken (taken t)) (leastOf t) (leastOf (taken t))
def runH : Nat → HT → HT
  | 0, t => t
  | k + 1, t => runH k (stepH t)
theorem run_succ : ∀ (k : Nat) (t : HT), runH (k + 1) t = stepH (runH k t)
  | 0, _ => rfl
  | k + 1, t => by
    show runH (k + 1) (stepH t) = _
    rw [run_succ k (stepH t)]
    rfl

theorem getD_app_left (l r : List Int) (i : Nat) (h : i < l.length) : (l ++ r).getD i 0 = l.getD i 0 := by
  rw [List.getD_eq_getElem?_getD, List.getElem?_append_left h, List.getD_eq_getElem?_getD]
theorem getD_setI (l : List Int) (i j : Nat) (v : Int) : (l.set i v).getD j 0 = if i = j ∧ i < l.length then v else l.getD j 0 := by
  simp only [List.getD_eq_getElem?_getD, List.getElem?_set]
  by_cases h : i = j
  · subst h
    by_cases h2 : i < l.length
    · simp [h2]
    · simp [h2, List.getElem?_eq_none (show l.length ≤ i by omega)]
  · simp [h]

def sumI : List Int → Int
  | [] => 0
  | x :: xs => x + sumI xs
theorem sumI_app : ∀ a b : List Int, sumI (a ++ b) = sumI a + sumI b
  | [], b => by simp [sumI]
  | x :: a, b => by simp only [List.cons_append, sumI, sumI_app a b]; omega
theorem sumI_le : ∀ (l : List Int), (∀ x ∈ l, 0 ≤ x) → 0 ≤ sumI l ∧ ∀ x ∈ l, x ≤ sumI l
  | [], _ => ⟨Int.le_refl _, fun x h => by simp at h⟩
  | y :: l, h => by
    have ih := sumI_le l (fun x hx => h x (by simp [hx]))
    have hy := h y (by simp)
    refine ⟨by simp only [sumI]; omega, fun x hx => ?_⟩
    simp only [sumI]
    rcases List.mem_cons.1 hx with e | e
    · subst e; omega
    · have := ih.2 x e; omega

/-- the trees that wait, those that were just taken last -/
def waitH (n k : Nat) (P : List Nat) (t : HT) : List Nat := P ++ t.leaves ++ List.range' t.joined (n + k - t.joined)
/-- what is kept while trees are joined: of n symbols, of which k were joined; P were taken and are not joined yet; S is the weight of all -/
structure OkH (n k : Nat) (P : List Nat) (S : Int) (t : HT) : Prop where
  wl : t.weight.length = n + k
  il : t.into.length = n + k
  leaf : ∀ i ∈ t.leaves, i < n
  pl : ∀ i ∈ P, i < n + k
  jl : n ≤ t.joined
  jh : t.joined ≤ n + k
  left : t.leaves.length + (n + k - t.joined) + k + P.length = n
  pos : ∀ i, i < n + k → 0 ≤ wAt t i ∧ wAt t i ≤ S
  sum : sumI ((waitH n k P t).map (wAt t)) = S
  /-- whatever waits no more was joined into a later one -/
  into : ∀ i, i < n + k → i ∉ t.leaves → i < t.joined → i ∉ P → (i : Int) < t.into.getD i 0 ∧ t.into.getD i 0 < ((n + k : Nat) : Int)

theorem isLeaf_true {n k : Nat} {P : List Nat} {S : Int} {t : HT} (h : OkH n k P S t) (h1 : 1 ≤ t.leaves.length + (n + k - t.joined)) (hl : isLeaf t = true) : ∃ r, t.leaves = leastOf t :: r ∧ taken t = { t with leaves := r } ∧ leastOf t < n := by
  have hne : t.leaves ≠ [] := by
    intro e
    unfold isLeaf at hl
    rw [e] at hl
    simp at hl
    have := h.wl
    rw [e] at h1
    simp at h1
    omega
  obtain ⟨i, r, e⟩ := List.exists_cons_of_ne_nil hne
  have e2 : leastOf t = i := by unfold leastOf; rw [if_pos hl, e]; rfl
  refine ⟨r, by rw [e2]; exact e, by unfold taken; rw [if_pos hl, e]; rfl, ?_⟩
  rw [e2]
  exact h.leaf i (by rw [e]; simp)
theorem isLeaf_false {n k : Nat} {P : List Nat} {S : Int} {t : HT} (h : OkH n k P S t) (hl : isLeaf t = false) : leastOf t = t.joined ∧ t.joined < n + k ∧ taken t = { t with joined := t.joined + 1 } := by
  refine ⟨by unfold leastOf; rw [hl]; rfl, ?_, by unfold taken; rw [hl]; rfl⟩
  unfold isLeaf at hl
  rw [Bool.or_eq_false_iff, beq_eq_false_iff_ne] at hl
  have := h.wl
  have := h.jh
  omega
theorem OkH.take {n k : Nat} {P : List Nat} {S : Int} {t : HT} (h : OkH n k P S t) (h1 : 1 ≤ t.leaves.length + (n + k - t.joined)) : OkH n k (P ++ [leastOf t]) S (taken t) ∧ leastOf t < n + k := by
  cases hl : isLeaf t with
  | true =>
    obtain ⟨r, e1, e2, e3⟩ := isLeaf_true h h1 hl
    generalize leastOf t = a at *
    rw [e2]
    have hleft := h.left
    rw [e1] at hleft
    simp only [List.length_cons] at hleft
    refine ⟨⟨h.wl, h.il, fun i hi => h.leaf i (by rw [e1]; simp [hi]), fun i hi => ?_, h.jl, h.jh, by simp only [List.length_append, List.length_cons, List.length_nil]; omega, h.pos, ?_, fun i hi h2 h3 h4 => ?_⟩, by omega⟩
    · rcases List.mem_append.1 hi with h2 | h2
      · exact h.pl i h2
      · simp at h2; omega
    · have := h.sum
      unfold waitH at this ⊢
      rw [e1] at this
      simp only [List.map_append, List.map_cons, List.map_nil, sumI_app, sumI] at this ⊢
      show sumI (P.map (wAt t)) + _ + _ + _ = S
      have e9 : wAt { t with leaves := r } = wAt t := rfl
      rw [e9]
      omega
    · refine h.into i hi (fun hm => ?_) h3 (fun hp => h4 (by simp [hp]))
      rw [e1] at hm
      rcases List.mem_cons.1 hm with e | e
      · exact h4 (by simp [e])
      · exact h2 e
  | false =>
    obtain ⟨e1, e2, e3⟩ := isLeaf_false h hl
    rw [e3, e1]
    have hleft := h.left
    refine ⟨⟨h.wl, h.il, h.leaf, fun i hi => ?_, Nat.le_succ_of_le h.jl, e2, by simp only [List.length_append, List.length_cons, List.length_nil]; omega, h.pos, ?_, fun i hi h2 h3 h4 => ?_⟩, e2⟩
    · rcases List.mem_append.1 hi with h2 | h2
      · exact h.pl i h2
      · simp at h2; omega
    · have := h.sum
      unfold waitH at this ⊢
      obtain ⟨d, hd⟩ : ∃ d, n + k - t.joined = d + 1 := ⟨n + k - t.joined - 1, by omega⟩
      rw [hd, List.range'_succ] at this
      show sumI (List.map _ (P ++ [t.joined] ++ t.leaves ++ List.range' (t.joined + 1) (n + k - (t.joined + 1)))) = S
      rw [show n + k - (t.joined + 1) = d by omega]
      simp only [List.map_append, List.map_cons, List.map_nil, sumI_app, sumI] at this ⊢
      have e9 : wAt { t with joined := t.joined + 1 } = wAt t := rfl
      rw [e9]
      omega
    · have h3 : i < t.joined + 1 := h3
      refine h.into i hi h2 ?_ (fun hp => h4 (by simp [hp]))
      have : i ≠ t.joined := fun e => h4 (by simp [e])
      omega
theorem OkH.join {n k a b : Nat} {S : Int} {t : HT} (h : OkH n k [a, b] S t) : OkH n (k + 1) [] S (joinH t a b) := by
  have ha := h.pl a (by simp)
  have hb := h.pl b (by simp)
  have hleft := h.left
  have hjh := h.jh
  have hjl := h.jl
  have hsum := h.sum
  simp only [List.length_cons, List.length_nil] at hleft
  have hlt : ∀ i, i < n + k → wAt (joinH t a b) i = wAt t i := fun i hi => getD_app_left _ _ _ (by rw [h.wl]; exact hi)
  have hnew : wAt (joinH t a b) (n + k) = wAt t a + wAt t b := by
    unfold wAt joinH
    rw [List.getD_eq_getElem?_getD, List.getElem?_append_right (by rw [h.wl]; exact Nat.le_refl _), h.wl, Nat.sub_self]
    rfl
  have hmap : ∀ l : List Nat, (∀ i ∈ l, i < n + k) → l.map (wAt (joinH t a b)) = l.map (wAt t) := fun l hl => List.map_congr_left fun i hi => hlt i (hl i hi)
  have hr : ∀ i ∈ List.range' t.joined (n + k - t.joined), i < n + k := fun i hi => by rw [List.mem_range'_1] at hi; omega
  have hpos0 : ∀ i ∈ waitH n k [a, b] t, i < n + k := by
    intro i hi
    unfold waitH at hi
    rcases List.mem_append.1 hi with h2 | h2
    · rcases List.mem_append.1 h2 with h3 | h3
      · exact h.pl i h3
      · have := h.leaf i h3; omega
    · exact hr i h2
  have hsl := sumI_le ((waitH n k [a, b] t).map (wAt t)) (fun x hx => by
    rw [List.mem_map] at hx
    obtain ⟨i, hi, rfl⟩ := hx
    exact (h.pos i (hpos0 i hi)).1)
  rw [hsum] at hsl
  have hab : wAt t a + wAt t b ≤ S := by
    have h2 := sumI_le ((t.leaves ++ List.range' t.joined (n + k - t.joined)).map (wAt t)) (fun x hx => by
      rw [List.mem_map] at hx
      obtain ⟨i, hi, rfl⟩ := hx
      refine (h.pos i ?_).1
      rcases List.mem_append.1 hi with h3 | h3
      · have := h.leaf i h3; omega
      · exact hr i h3)
    have h3 := hsum
    unfold waitH at h3
    simp only [List.map_append, List.map_cons, List.map_nil, sumI_app, sumI] at h3 h2
    omega
  refine ⟨by simp [joinH, h.wl]; omega, by simp [joinH, h.il]; omega, h.leaf, fun i hi => by simp at hi, hjl, by show t.joined ≤ _; omega, by show t.leaves.length + (n + (k + 1) - t.joined) + (k + 1) + 0 = n; omega, fun i hi => ?_, ?_, fun i hi h2 h3 _ => ?_⟩
  · by_cases e : i < n + k
    · rw [hlt i e]; exact h.pos i e
    · obtain rfl : i = n + k := by omega
      rw [hnew]
      have := (h.pos a ha).1
      have := (h.pos b hb).1
      omega
  · unfold waitH at hsum ⊢
    show sumI (List.map _ ([] ++ t.leaves ++ List.range' t.joined (n + (k + 1) - t.joined))) = S
    rw [show n + (k + 1) - t.joined = (n + k - t.joined) + 1 by omega, List.range'_concat]
    simp only [List.nil_append, List.map_append, List.map_cons, List.map_nil, sumI_app, sumI] at hsum ⊢
    rw [hmap t.leaves (fun i hi => by have := h.leaf i hi; omega), hmap _ hr]
    rw [show t.joined + 1 * (n + k - t.joined) = n + k by omega, hnew]
    omega
  · have h3 : i < t.joined := h3
    have hil := h.il
    have e1 : (joinH t a b).into.getD i 0 = if i = a ∨ i = b then ((n + k : Nat) : Int) else t.into.getD i 0 := by
      unfold joinH
      rw [getD_app_left _ _ _ (by simp; omega), getD_setI, List.length_set, getD_setI, h.wl]
      by_cases eb : b = i
      · subst eb; rw [if_pos ⟨rfl, by omega⟩, if_pos (.inr rfl)]
      · rw [if_neg (fun e => eb e.1)]
        by_cases ea : a = i
        · subst ea; rw [if_pos ⟨rfl, by omega⟩, if_pos (.inl rfl)]
        · rw [if_neg (fun e => ea e.1), if_neg (fun e => by rcases e with e | e; exact ea e.symm; exact eb e.symm)]
    rw [e1]
    split
    · omega
    · rename_i hn
      have := h.into i (by omega) h2 h3 (fun e => by simp at e; exact hn e)
      omega

end Go.Proofs.Ytapdcejhfooahaa.Hu

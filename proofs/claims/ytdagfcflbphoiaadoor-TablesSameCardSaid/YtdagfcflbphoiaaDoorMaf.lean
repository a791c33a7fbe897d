/- Trees that are joined two by two, in plain Lean: the two rows of the package (leaves in order, joined ones in order). No program in sight. -/
import Derived.WideShapes
import Derived.WalkLawsBesides
import Derived.Test.YtdagfcflbphoiaaDoorMae
import Derived.Test.YtdagfcflbphoiaaDoorMad
import Derived.WalkKit
namespace Go.Proofs.YtdagfcflbphoiaaDoor.Hu
set_option linter.unusedVariables false
set_option linter.unusedSimpArgs false

structure HT where
  weight : List Int
  into : List Int
  leaves : List Nat
  joined : Nat

def wAt (t : HT) (i : Nat) : Int := t.weight.getD i 0
/-- is the least tree a leaf? -/
def isLeaf (t : HT) : Bool := t.joined == t.weight.length || (decide (0 < t.leaves.length) && decide (wAt t (t.leaves.getD 0 0) ≤ wAt t t.joined))
def leastOf (t : HT) : Nat := if isLeaf t then t.leaves.getD 0 0 else t.joined
def taken (t : HT) : HT := if isLeaf t then { t with leaves := t.leaves.tail } else { t with joined := t.joined + 1 }
def joinH (t : HT) (a b : Nat) : HT := { t with weight := t.weight ++ [wAt t a + wAt t b], into := ((t.into.set a t.weight.length).set b t.weight.length) ++ [-1] }
def stepH (t : HT) : HT := joinH (taken (taken t)) (leastOf t) (leastOf (taken t))
def runH : Nat → HT → HT
  | 0, t => t
  | k + 1, t => runH k (stepH t)
theorem run_succ : ∀ (k : Nat) (t : HT), runH (k + 1) t = stepH (runH k t)
  | 0, _ => rfl
  | k + 1, t => by
    show runH (k + 1) (stepH t) = _
    rw [run_succ k (stepH t)]
    rfl

theorem getD_app_left (l r : List Int) (i : Nat) (h : i < l.length) : (l ++ r).getD i 0 = l.getD i 0 := by
  rw [List.getD_eq_getElem?_getD, List.getElem?_append_left h, List.getD_eq_getElem?_getD]
theorem getD_setI (l : List Int) (i j : Nat) (v : Int) : (l.set i v).getD j 0 = if i = j ∧ i < l.length then v else l.getD j 0 := by
  simp only [List.getD_eq_getElem?_getD, List.getElem?_set]
  by_cases h : i = j
  · subst h
    by_cases h2 : i < l.length
    · simp [h2]
    · simp [h2, List.getElem?_eq_none (show l.length ≤ i by omega)]
  · simp [h]

def sumI : List Int → Int
  | [] => 0
  | x :: xs => x + sumI xs
theorem sumI_app : ∀ a b : List Int, sumI (a ++ b) = sumI a + sumI b
  | [], b => by simp [sumI]
  | x :: a, b => by simp only [List.cons_append, sumI, sumI_app a b]; omega
theorem sumI_le : ∀ (l : List Int), (∀ x ∈ l, 0 ≤ x) → 0 ≤ sumI l ∧ ∀ x ∈ l, x ≤ sumI l
  | [], _ => ⟨Int.le_refl _, fun x h => by simp at h⟩
  | y :: l, h => by
    have ih := sumI_le l (fun x hx => h x (by simp [hx]))
    have hy := h y (by simp)
    refine ⟨by simp only [sumI]; omega, fun x hx => ?_⟩
    simp only [sumI]
    rcases List.mem_cons.1 hx with e | e
    · subst e; omega
    · have := ih.2 x e; omega

/-- the trees that wait, those that were just taken last -/
def waitH (n k : Nat) (P : List Nat) (t : HT) : List Nat := P ++ t.leaves ++ List.range' t.joined (n + k - t.joined)
/-- what is kept while trees are joined: of n symbols, of which k were joined; P were taken and are not joined yet; S is the weight of all -/
structure OkH (n k : Nat) (P : List Nat) (S : Int) (t : HT) : Prop where
  wl : t.weight.length = n + k
  il : t.into.length = n + k
  leaf : ∀ i ∈ t.leaves, i < n
  pl : ∀ i ∈ P, i < n + k
  jl : n ≤ t.joined
  jh : t.joined ≤ n + k
  left : t.leaves.length + (n + k - t.joined) + k + P.length = n
  pos : ∀ i, i < n + k → 0 ≤ wAt t i ∧ wAt t i ≤ S
  sum : sumI ((waitH n k P t).map (wAt t)) = S
  /-- whatever waits no more was joined into a later one -/
  into : ∀ i, i < n + k → i ∉ t.leaves → i < t.joined → i ∉ P → (i : Int) < t.into.getD i 0 ∧ t.into.getD i 0 < ((n + k : Nat) : Int)

theorem isLeaf_true {n k : Nat} {P : List Nat} {S : Int} {t : HT} (h : OkH n k P S t) (h1 : 1 ≤ t.leaves.length + (n + k - t.joined)) (hl : isLeaf t = true) : ∃ r, t.leaves = leastOf t :: r ∧ taken t = { t with leaves := r } ∧ leastOf t < n := by
  have hne : t.leaves ≠ [] := by
    intro e
    unfold isLeaf at hl
    rw [e] at hl
    simp at hl
    have := h.wl
    rw [e] at h1
    simp at h1
    omega
  obtain ⟨i, r, e⟩ := List.exists_cons_of_ne_nil hne
  have e2 : leastOf t = i := by unfold leastOf; rw [if_pos hl, e]; rfl
  refine ⟨r, by rw [e2]; exact e, by unfold taken; rw [if_pos hl, e]; rfl, ?_⟩
  rw [e2]
  exact h.leaf i (by rw [e]; simp)
theorem isLeaf_false {n k : Nat} {P : List Nat} {S : Int} {t : HT} (h : OkH n k P S t) (hl : isLeaf t = false) : leastOf t = t.joined ∧ t.joined < n + k ∧ taken t = { t with joined := t.joined + 1 } := by
  refine ⟨by unfold leastOf; rw [hl]; rfl, ?_, by unfold taken; rw [hl]; rfl⟩
  unfold isLeaf at hl
  rw [Bool.or_eq_false_iff, beq_eq_false_iff_ne] at hl
  have := h.wl
  have := h.jh
  omega
theorem OkH.take {n k : Nat} {P : List Nat} {S : Int} {t : HT} (h : OkH n k P S t) (h1 : 1 ≤ t.leaves.length + (n + k - t.joined)) : OkH n k (P ++ [leastOf t]) S (taken t) ∧ leastOf t < n + k := by
  cases hl : isLeaf t with
  | true =>
    obtain ⟨r, e1, e2, e3⟩ := isLeaf_true h h1 hl
    generalize leastOf t = a at *
    rw [e2]
    have hleft := h.left
    rw [e1] at hleft
    simp only [List.length_cons] at hleft
    refine ⟨⟨h.wl, h.il, fun i hi => h.leaf i (by rw [e1]; simp [hi]), fun i hi => ?_, h.jl, h.jh, by simp only [List.length_append, List.length_cons, List.length_nil]; omega, h.pos, ?_, fun i hi h2 h3 h4 => ?_⟩, by omega⟩
    · rcases List.mem_append.1 hi with h2 | h2
      · exact h.pl i h2
      · simp at h2; omega
    · have := h.sum
      unfold waitH at this ⊢
      rw [e1] at this
      simp only [List.map_append, List.map_cons, List.map_nil, sumI_app, sumI] at this ⊢
      show sumI (P.map (wAt t)) + _ + _ + _ = S
      have e9 : wAt { t with leaves := r } = wAt t := rfl
      rw [e9]
      omega
    · refine h.into i hi (fun hm => ?_) h3 (fun hp => h4 (by simp [hp]))
      rw [e1] at hm
      rcases List.mem_cons.1 hm with e | e
      · exact h4 (by simp [e])
      · exact h2 e
  | false =>
    obtain ⟨e1, e2, e3⟩ := isLeaf_false h hl
    rw [e3, e1]
    have hleft := h.left
    refine ⟨⟨h.wl, h.il, h.leaf, fun i hi => ?_, Nat.le_succ_of_le h.jl, e2, by simp only [List.length_append, List.length_cons, List.length_nil]; omega, h.pos, ?_, fun i hi h2 h3 h4 => ?_⟩, e2⟩
    · rcases List.mem_append.1 hi with h2 | h2
      · exact h.pl i h2
      · simp at h2; omega
    · have := h.sum
      unfold waitH at this ⊢
      obtain ⟨d, hd⟩ : ∃ d, n + k - t.joined = d + 1 := ⟨n + k - t.joined - 1, by omega⟩
      rw [hd, List.range'_succ] at this
      show sumI (List.map _ (P ++ [t.joined] ++ t.leaves ++ List.range' (t.joined + 1) (n + k - (t.joined + 1)))) = S
      rw [show n + k - (t.joined + 1) = d by omega]
      simp only [List.map_append, List.map_cons, List.map_nil, sumI_app, sumI] at this ⊢
      have e9 : wAt { t with joined := t.joined + 1 } = wAt t := rfl
      rw [e9]
      omega
    · have h3 : i < t.joined + 1 := h3
      refine h.into i hi h2 ?_ (fun hp => h4 (by simp [hp]))
      have : i ≠ t.joined := fun e => h4 (by simp [e])
      omega
theorem OkH.join {n k a b : Nat} {S : Int} {t : HT} (h : OkH n k [a, b] S t) : OkH n (k + 1) [] S (joinH t a b) := by
  have ha := h.pl a (by simp)
  have hb := h.pl b (by simp)
  have hleft := h.left
  have hjh := h.jh
  have hjl := h.jl
  have hsum := h.sum
  simp only [List.length_cons, List.length_nil] at hleft
  have hlt : ∀ i, i < n + k → wAt (joinH t a b) i = wAt t i := fun i hi => getD_app_left _ _ _ (by rw [h.wl]; exact hi)
  have hnew : wAt (joinH t a b) (n + k) = wAt t a + wAt t b := by
    unfold wAt joinH
    rw [List.getD_eq_getElem?_getD, List.getElem?_append_right (by rw [h.wl]; exact Nat.le_refl _), h.wl, Nat.sub_self]
    rfl
  have hmap : ∀ l : List Nat, (∀ i ∈ l, i < n + k) → l.map (wAt (joinH t a b)) = l.map (wAt t) := fun l hl => List.map_congr_left fun i hi => hlt i (hl i hi)
  have hr : ∀ i ∈ List.range' t.joined (n + k - t.joined), i < n + k := fun i hi => by rw [List.mem_range'_1] at hi; omega
  have hpos0 : ∀ i ∈ waitH n k [a, b] t, i < n + k := by
    intro i hi
    unfold waitH at hi
    rcases List.mem_append.1 hi with h2 | h2
    · rcases List.mem_append.1 h2 with h3 | h3
      · exact h.pl i h3
      · have := h.leaf i h3; omega
    · exact hr i h2
  have hsl := sumI_le ((waitH n k [a, b] t).map (wAt t)) (fun x hx => by
    rw [List.mem_map] at hx
    obtain ⟨i, hi, rfl⟩ := hx
    exact (h.pos i (hpos0 i hi)).1)
  rw [hsum] at hsl
  have hab : wAt t a + wAt t b ≤ S := by
    have h2 := sumI_le ((t.leaves ++ List.range' t.joined (n + k - t.joined)).map (wAt t)) (fun x hx => by
      rw [List.mem_map] at hx
      obtain ⟨i, hi, rfl⟩ := hx
      refine (h.pos i ?_).1
      rcases List.mem_append.1 hi with h3 | h3
      · have := h.leaf i h3; omega
      · exact hr i h3)
    have h3 := hsum
    unfold waitH at h3
    simp only [List.map_append, List.map_cons, List.map_nil, sumI_app, sumI] at h3 h2
    omega
  refine ⟨by simp [joinH, h.wl]; omega, by simp [joinH, h.il]; omega, h.leaf, fun i hi => by simp at hi, hjl, by show t.joined ≤ _; omega, by show t.leaves.length + (n + (k + 1) - t.joined) + (k + 1) + 0 = n; omega, fun i hi => ?_, ?_, fun i hi h2 h3 _ => ?_⟩
  · by_cases e : i < n + k
    · rw [hlt i e]; exact h.pos i e
    · obtain rfl : i = n + k := by omega
      rw [hnew]
      have := (h.pos a ha).1
      have := (h.pos b hb).1
      omega
  · unfold waitH at hsum ⊢
    show sumI (List.map _ ([] ++ t.leaves ++ List.range' t.joined (n + (k + 1) - t.joined))) = S
    rw [show n + (k + 1) - t.joined = (n + k - t.joined) + 1 by omega, List.range'_concat]
    simp only [List.nil_append, List.map_append, List.map_cons, List.map_nil, sumI_app, sumI] at hsum ⊢
    rw [hmap t.leaves (fun i hi => by have := h.leaf i hi; omega), hmap _ hr]
    rw [show t.joined + 1 * (n + k - t.joined) = n + k by omega, hnew]
    omega
  · have h3 : i < t.joined := h3
    have hil := h.il
    have e1 : (joinH t a b).into.getD i 0 = if i = a ∨ i = b then ((n + k : Nat) : Int) else t.into.getD i 0 := by
      unfold joinH
      rw [getD_app_left _ _ _ (by simp; omega), getD_setI, List.length_set, getD_setI, h.wl]
      by_cases eb : b = i
      · subst eb; rw [if_pos ⟨rfl, by omega⟩, if_pos (.inr rfl)]
      · rw [if_neg (fun e => eb e.1)]
        by_cases ea : a = i
        · subst ea; rw [if_pos ⟨rfl, by omega⟩, if_pos (.inl rfl)]
        · rw [if_neg (fun e => ea e.1), if_neg (fun e => by rcases e with e | e; exact ea e.symm; exact eb e.symm)]
    rw [e1]
    split
    · omega
    · rename_i hn
      have := h.into i (by omega) h2 h3 (fun e => by simp at e; exact hn e)
      omega

end Go.Proofs.YtdagfcflbphoiaaDoor.Hu
/- The trees of the lens package, by the second form: how they lie; the least one. -/
namespace Go.Proofs.YtdagfcflbphoiaaDoor
set_option linter.unusedVariables false
set_option linter.unusedSimpArgs false
open Go.RowKit Ev Hu

theorem wrap_succ {x : Nat} (h : x < 9223372036854775807) : IntKind.i64.wrap ((x : Int) + 1) = ((x + 1 : Nat) : Int) := by rw [wrap_id (by omega) (by omega)]; rfl
theorem wrap_pred {x : Nat} (h : x < 9223372036854775807) : IntKind.i64.wrap (((x + 1 : Nat) : Int) - 1) = ((x : Nat) : Int) := by rw [wrap_id (by omega) (by omega)]; omega
def ints (xs : List Int) : List Value := xs.map (Value.int .i64)
def nats (xs : List Nat) : List Value := xs.map fun (x : Nat) => Value.int .i64 x
structure TreesAt (h : H) (n g : Nat) (t : HT) (bw bi bl off cl : Nat) (cs : List Value) : Prop where
  hg : h.get g = some ⟨72, true, [.slice (some ⟨bw, 0, none⟩) t.weight.length (CAP + t.weight.length), .slice (some ⟨bi, 0, none⟩) t.into.length (CAP + t.into.length), .slice (some ⟨bl, off, none⟩) t.leaves.length cl, .int .i64 (t.joined : Nat)]⟩
  hw : h.get bw = some ⟨3, true, ints t.weight⟩
  hi : h.get bi = some ⟨3, true, ints t.into⟩
  hl : h.get bl = some ⟨3, true, cs⟩
  hlen : off + t.leaves.length ≤ cs.length
  hcs : (cs.drop off).take t.leaves.length = nats t.leaves
  hcl : t.leaves.length ≤ cl
  d : g ≠ bw ∧ g ≠ bi ∧ g ≠ bl ∧ bw ≠ bi ∧ bw ≠ bl ∧ bi ≠ bl ∧ g < n ∧ bw < n ∧ bi < n ∧ bl < n

theorem TreesAt.leaf {h : H} {n g : Nat} {t : HT} {bw bi bl off cl : Nat} {cs : List Value} (hT : TreesAt h n g t bw bi bl off cl cs) (hil : isLeaf t = true) (h0 : 0 < t.leaves.length) {off' : Nat} (ho : off' = off + 1 ∨ t.leaves.length = 1 ∧ off' = off) {x : H}
    (hx : x = h.set g (some ⟨72, true, [.slice (some ⟨bw, 0, none⟩) t.weight.length (CAP + t.weight.length), .slice (some ⟨bi, 0, none⟩) t.into.length (CAP + t.into.length), .slice (some ⟨bl, off', none⟩) (t.leaves.length - 1) (cl - 1), .int .i64 (t.joined : Nat)]⟩)) : TreesAt x n g (taken t) bw bi bl off' (cl - 1) cs := by
  obtain ⟨hg, hbw, hbi, hbl, hlen, hcs, hcl, hd⟩ := hT
  subst hx
  have e : taken t = { t with leaves := t.leaves.tail } := by unfold taken; rw [if_pos hil]
  rw [e]
  refine ⟨?_, ?_, ?_, ?_, ?_, ?_, ?_, hd⟩
  · rw [get_eq]; simp
  · rw [get_ne _ _ (by omega)]; exact hbw
  · rw [get_ne _ _ (by omega)]; exact hbi
  · rw [get_ne _ _ (by omega)]; exact hbl
  · simp only [List.length_tail]; omega
  · simp only [List.length_tail]
    rcases ho with ho | ⟨ho, _⟩
    · subst ho
      have := congrArg List.tail hcs
      unfold nats at this ⊢
      rw [← List.map_tail] at this
      rw [← this, ← List.drop_one, List.drop_take, List.drop_drop]
    · have : t.leaves.tail = [] := by rw [← List.length_eq_zero_iff, List.length_tail]; omega
      rw [this, ho]
      simp [nats]
  · simp only [List.length_tail]; omega
theorem TreesAt.joined {h : H} {n g : Nat} {t : HT} {bw bi bl off cl : Nat} {cs : List Value} (hT : TreesAt h n g t bw bi bl off cl cs) (hil : isLeaf t = false) {x : H}
    (hx : x = h.set g (some ⟨72, true, [.slice (some ⟨bw, 0, none⟩) t.weight.length (CAP + t.weight.length), .slice (some ⟨bi, 0, none⟩) t.into.length (CAP + t.into.length), .slice (some ⟨bl, off, none⟩) t.leaves.length cl, .int .i64 ((t.joined + 1 : Nat) : Int)]⟩)) : TreesAt x n g (taken t) bw bi bl off cl cs := by
  obtain ⟨hg, hbw, hbi, hbl, hlen, hcs, hcl, hd⟩ := hT
  subst hx
  have e : taken t = { t with joined := t.joined + 1 } := by unfold taken; rw [hil]; rfl
  rw [e]
  refine ⟨?_, ?_, ?_, ?_, hlen, hcs, hcl, hd⟩
  · rw [get_eq]
  · rw [get_ne _ _ (by omega)]; exact hbw
  · rw [get_ne _ _ (by omega)]; exact hbi
  · rw [get_ne _ _ (by omega)]; exact hbl
end Go.Proofs.YtdagfcflbphoiaaDoor
/- Plain facts on sorted rows: insertion, merging in place, stable order. No program in sight. -/
namespace Go.Proofs.YtdagfcflbphoiaaDoor
set_option linter.unusedVariables false
set_option linter.unusedSimpArgs false
open Go.RowKit Hu

def cmp3 (x y : Int) : Int := if x < y then -1 else if y < x then 1 else 0
/-- to stand ahead: the key is less, or the keys are the same and the place is less -/
def RI (k : Nat → Int) (a b : Nat) : Prop := k a < k b ∨ k a = k b ∧ a < b
def keyW (ws : List Int) (i : Nat) : Int := ws.getD i 0
theorem getD_cons_at (pre : List Nat) (v : Nat) (post : List Nat) : (pre ++ v :: post).getD pre.length 0 = v := by
  simp [List.getD_eq_getElem?_getD]
theorem cmp3_neg (x y : Int) : decide (cmp3 x y < 0) = decide (x < y) := by
  unfold cmp3
  by_cases h : x < y
  · simp [h]
  · by_cases h2 : y < x
    · simp [h, h2]
    · simp [h, h2]
theorem getD_at (pre : List Nat) (v : Nat) (post : List Nat) (j : Nat) (hj : j = pre.length) : (pre ++ v :: post).getD j 0 = v := by subst hj; exact getD_cons_at _ _ _
theorem set_at (pre : List Nat) (v u : Nat) (post : List Nat) (j : Nat) (hj : j = pre.length) : (pre ++ v :: post).set j u = pre ++ u :: post := by
  subst hj
  rw [List.set_append_right (h := Nat.le_refl _), Nat.sub_self]; rfl
/-- every block of c is sorted, and what stands ahead of a block's start is less than what stands behind -/
def BS (k : Nat → Int) (c : Nat) (D : List Nat) : Prop := ∀ i, ((D.drop (i * c)).take c).Pairwise (RI k) ∧ ∀ x ∈ D.take (i * c), ∀ y ∈ D.drop (i * c), x < y
theorem BS.nil (k : Nat → Int) (c : Nat) : BS k c [] := fun i => ⟨by simp, fun x hx => by simp at hx⟩
theorem BS.drop {k : Nat → Int} {c : Nat} {D : List Nat} (h : BS k c D) (m : Nat) : BS k c (D.drop (m * c)) := by
  intro i
  have h1 := h (m + i)
  rw [Nat.add_mul] at h1
  rw [List.drop_drop]
  refine ⟨h1.1, fun x hx y hy => h1.2 x ?_ y hy⟩
  rw [List.take_drop] at hx
  exact List.mem_of_mem_drop hx
theorem BS.first {k : Nat → Int} {c : Nat} {D : List Nat} (h : BS k c D) : (D.take c).Pairwise (RI k) := by
  have := (h 0).1
  rw [Nat.zero_mul, List.drop_zero] at this
  exact this
theorem BS.snoc {k : Nat → Int} {c t : Nat} {U Z : List Nat} (h : BS k c U) (hl : U.length = t * c) (hz : Z.length ≤ c) (hs : Z.Pairwise (RI k)) (hc : ∀ x ∈ U, ∀ z ∈ Z, x < z) : BS k c (U ++ Z) := by
  intro i
  rcases Nat.lt_trichotomy i t with hlt | heq | hgt
  · have hi : i * c + c ≤ U.length := by
      rw [hl]
      have := Nat.mul_le_mul_right c (show i + 1 ≤ t by omega)
      rw [Nat.add_mul] at this
      omega
    have h1 := h i
    rw [List.drop_append_of_le_length (by omega), List.take_append_of_le_length (by rw [List.length_drop]; omega), List.take_append_of_le_length (by omega)]
    refine ⟨h1.1, fun x hx y hy => ?_⟩
    rcases List.mem_append.1 hy with hy | hy
    · exact h1.2 x hx y hy
    · exact hc x (List.mem_of_mem_take hx) y hy
  · subst heq
    rw [← hl, List.drop_left, List.take_left, List.take_of_length_le hz]
    exact ⟨hs, hc⟩
  · have hi : (U ++ Z).length ≤ i * c := by
      rw [List.length_append, hl]
      have := Nat.mul_le_mul_right c (show t + 1 ≤ i by omega)
      rw [Nat.add_mul] at this
      omega
    rw [List.drop_of_length_le hi]
    exact ⟨by simp, fun x hx y hy => by simp at hy⟩
theorem BS.all {k : Nat → Int} {c : Nat} {D : List Nat} (h : BS k c D) (hl : D.length ≤ c) : D.Pairwise (RI k) := by
  have := h.first
  rwa [List.take_of_length_le hl] at this

def St1 (k : Nat → Int) (xs : List Nat) (t : Nat) (U V : List Nat) : Prop := U.length = t * 20 ∧ BS k 20 U ∧ V.Pairwise (fun a b => a < b) ∧ (∀ x ∈ U, ∀ y ∈ V, x < y) ∧ (U ++ V).Perm xs
theorem St1.start (k : Nat → Int) {xs : List Nat} (h : xs.Pairwise (fun a b => a < b)) : St1 k xs 0 [] xs := ⟨by simp, BS.nil k 20, h, fun x hx => by simp at hx, List.Perm.refl _⟩
theorem perm_mid {U V Z : List Nat} {n : Nat} (p : Z.Perm (V.take n)) : (U ++ Z ++ V.drop n).Perm (U ++ V) := by
  have h := ((p.append_left U).append_right (V.drop n))
  rw [List.append_assoc U (V.take n), List.take_append_drop] at h
  exact h
theorem St1.next {k : Nat → Int} {xs U V Z : List Nat} {t : Nat} (h : St1 k xs t U V) (hV : 20 ≤ V.length) (p : Z.Perm (V.take 20)) (s : Z.Pairwise (RI k)) : St1 k xs (t + 1) (U ++ Z) (V.drop 20) := by
  obtain ⟨h1, h2, h3, h4, h5⟩ := h
  have hz : Z.length = 20 := by rw [p.length_eq, List.length_take]; omega
  have hm : ∀ z ∈ Z, z ∈ V.take 20 := fun z hz => p.mem_iff.1 hz
  have h3' : (V.take 20 ++ V.drop 20).Pairwise (fun a b => a < b) := by rw [List.take_append_drop]; exact h3
  rw [List.pairwise_append] at h3'
  refine ⟨by rw [List.length_append, h1, hz, Nat.add_mul], h2.snoc h1 (by omega) s fun x hx z hz => h4 x hx z (List.mem_of_mem_take (hm z hz)), h3'.2.1, fun x hx y hy => ?_, (perm_mid p).trans h5⟩
  rcases List.mem_append.1 hx with hx | hx
  · exact h4 x hx y (List.mem_of_mem_drop hy)
  · exact h3'.2.2 x (hm x hx) y hy
theorem St1.last {k : Nat → Int} {xs U V Z : List Nat} {t : Nat} (h : St1 k xs t U V) (hV : V.length < 20) (p : Z.Perm V) (s : Z.Pairwise (RI k)) : BS k 20 (U ++ Z) ∧ (U ++ Z).Perm xs := by
  obtain ⟨h1, h2, h3, h4, h5⟩ := h
  exact ⟨h2.snoc h1 (by rw [p.length_eq]; omega) s fun x hx z hz => h4 x hx z (p.mem_iff.1 hz), (p.append_left U).trans h5⟩
def St3 (k : Nat → Int) (xs : List Nat) (C t : Nat) (U V : List Nat) : Prop := U.length = t * (2 * C) ∧ BS k (2 * C) U ∧ BS k C V ∧ (∀ x ∈ U, ∀ y ∈ V, x < y) ∧ (U ++ V).Perm xs
theorem St3.start {k : Nat → Int} {xs D : List Nat} {C : Nat} (h : BS k C D) (p : D.Perm xs) : St3 k xs C 0 [] D := ⟨by simp, BS.nil k _, h, fun x hx => by simp at hx, p⟩
theorem two_takes (V : List Nat) (C : Nat) : V.take C ++ (V.drop C).take C = V.take (2 * C) := by
  rw [Nat.two_mul, List.take_add]
theorem St3.next {k : Nat → Int} {xs U V Z : List Nat} {C t : Nat} (h : St3 k xs C t U V) (hV : 2 * C ≤ V.length) (p : Z.Perm (V.take C ++ (V.drop C).take C)) (s : Z.Pairwise (RI k)) : St3 k xs C (t + 1) (U ++ Z) (V.drop (2 * C)) := by
  obtain ⟨h1, h2, h3, h4, h5⟩ := h
  rw [two_takes] at p
  have hz : Z.length = 2 * C := by rw [p.length_eq, List.length_take]; omega
  have hm : ∀ z ∈ Z, z ∈ V.take (2 * C) := fun z hz => p.mem_iff.1 hz
  refine ⟨by rw [List.length_append, h1, hz, Nat.add_mul, Nat.one_mul], h2.snoc h1 (by omega) s fun x hx z hz => h4 x hx z (List.mem_of_mem_take (hm z hz)), h3.drop 2, fun x hx y hy => ?_, (perm_mid p).trans h5⟩
  rcases List.mem_append.1 hx with hx | hx
  · exact h4 x hx y (List.mem_of_mem_drop hy)
  · exact (h3 2).2 x (hm x hx) y hy
theorem St3.last {k : Nat → Int} {xs U V Z : List Nat} {C t : Nat} (h : St3 k xs C t U V) (hV : V.length < 2 * C) (p : Z.Perm (V.take C ++ V.drop C)) (s : Z.Pairwise (RI k)) : BS k (2 * C) (U ++ Z) ∧ (U ++ Z).Perm xs := by
  obtain ⟨h1, h2, h3, h4, h5⟩ := h
  rw [List.take_append_drop] at p
  exact ⟨h2.snoc h1 (by rw [p.length_eq]; omega) s fun x hx z hz => h4 x hx z (p.mem_iff.1 hz), (p.append_left U).trans h5⟩
theorem St3.none {k : Nat → Int} {xs U V : List Nat} {C t : Nat} (h : St3 k xs C t U V) (hV : V.length ≤ C) : BS k (2 * C) (U ++ V) ∧ (U ++ V).Perm xs := by
  obtain ⟨h1, h2, h3, h4, h5⟩ := h
  exact ⟨h2.snoc h1 (by omega) (h3.all hV) fun x hx z hz => h4 x hx z hz, h5⟩

end Go.Proofs.YtdagfcflbphoiaaDoor
/- The library's stable sort by the second form: the comparison; insertion. -/
namespace Go.Proofs.YtdagfcflbphoiaaDoor
set_option linter.unusedVariables false
set_option linter.unusedSimpArgs false
open Go.RowKit Ev Hu

theorem callV2 {β : Type} {rec : FuncId → Array Value → M Value} (g : FuncId) (hb : hasBody Tryd.prog g = true) (c : Value) (a b : Value) (k : Value → M β) : callV Tryd.prog rec (.func (.func g) #[] #[c]) [a, b] k = (inside (rec g #[a, b, c])).bind k := by
  unfold callV
  show optK (some _) _ = _
  rw [optK_some_eq]
  simp only [hb]
  rfl
theorem callT {β : Type} {rec : FuncId → Array Value → M Value} (c : Value) (a b : Value) (k : Value → M β) : callV Tryd.prog rec (.func (.func 70) #[] #[c]) [a, b] k = (inside (rec 70 #[a, b, c])).bind k := callV2 _ (by kernel_rfl) c a b k
theorem run_same {β : Type} {W : Nat → Prop} {n0 : Nat} {h : H} {n : Nat} {Q : β → H → Nat → Prop} {lf d : Nat} {f : FuncId} {args : Array Value} {v : Value} {W' : Nat → Prop} (s : Run W' n (evCall2 Tryd.prog gt lf d f args) h n fun v' h' n' => v' = v ∧ h' = h ∧ n' = n) (hn : n0 ≤ n) (hW : ∀ b, b < n → W' b → n0 ≤ b ∨ W b) {k : Value → M β} (x : Run W n0 (k v) h n Q) : Run W n0 ((inside (evCall2 Tryd.prog gt lf d f args)).bind k) h n Q := by
  refine run_call okd s hn hW fun v' h' n' _ _ hq => ?_
  obtain ⟨rfl, rfl, rfl⟩ := hq
  exact x

theorem s_isNaN (lf d : Nat) (h : H) (n : Nat) (x : Int) : Run (fun _ => False) n (evCall2 Tryd.prog gt lf (d + 1) 74 #[.int .i64 x]) h n fun v h' n' => v = .bool false ∧ h' = h ∧ n' = n := by
  rw [sh_cmp_isNaN_int]
  refine Run.inside_ ?_
  unfold b_cmp_isNaN_int
  have e : (x != x) = false := by simp
  try simp (disch := first | omega | assumption | exact one_int _ _ | exact one_slice _ _ _ | exact one_ptr _ | exact one_bool _ | exact one_string _) only [RXA, RXB, Nat.reduceAdd, Nat.reduceLT, wrap_id, wrap_succ, wrap_pred, FX1, e]
theorem s_Compare (lf d : Nat) (h : H) (n : Nat) (x y : Int) : Run (fun _ => False) n (evCall2 Tryd.prog gt lf (d + 2) 71 #[.int .i64 x, .int .i64 y]) h n fun v h' n' => v = .int .i64 (cmp3 x y) ∧ h' = h ∧ n' = n := by
  rw [sh_cmp_Compare_int]
  refine Run.inside_ ?_
  unfold b_cmp_Compare_int
  refine run_same (s_isNaN _ _ _ _ _) (Nat.le_refl _) (fun _ _ h => h.elim) ?_
  refine run_same (s_isNaN _ _ _ _ _) (Nat.le_refl _) (fun _ _ h => h.elim) ?_
  unfold cmp3
  try simp (disch := first | omega | assumption | exact one_int _ _ | exact one_slice _ _ _ | exact one_ptr _ | exact one_bool _ | exact one_string _) only [RXA, RXB, Nat.reduceAdd, Nat.reduceLT, wrap_id, wrap_succ, wrap_pred, FX1]
  by_cases h1 : x < y
  · simp [h1]
  · by_cases h2 : y < x
    · simp [h1, h2]
    · simp [h1, h2]

/-- what a comparison reads: the weights, in a variable that it has captured -/
structure EnvT (h : H) (n g pw : Nat) (ws : List Int) : Prop where
  ex : ∃ wb off cap e1 o1 e2 o2 cs, h.get pw = some ⟨e1, o1, [.slice (some ⟨wb, off, none⟩) ws.length cap]⟩ ∧ h.get wb = some ⟨e2, o2, cs⟩ ∧ wb < n ∧ wb ≠ g ∧ ∀ i, i < ws.length → cs[off + i]? = some (.int .i64 (ws.getD i 0))
  pn : pw < n
  pg : pw ≠ g
theorem EnvT.keeps {h h' : H} {n g pw : Nat} {ws : List Int} (e : EnvT h n g pw ws) (k : ∀ b, b ≠ g → h'.get b = h.get b) : EnvT h' n g pw ws := by
  obtain ⟨⟨wb, off, cap, e1, o1, e2, o2, cs, h1, h2, h3, h4, h5⟩, h6, h7⟩ := e
  exact ⟨⟨wb, off, cap, e1, o1, e2, o2, cs, by rw [k pw h7]; exact h1, by rw [k wb h4]; exact h2, h3, h4, h5⟩, h6, h7⟩
theorem s_cmp (lf d a b : Nat) (h : H) (n g pw : Nat) (ws : List Int) (hE : EnvT h n g pw ws) (ha : a < ws.length) (hb : b < ws.length) : Run (fun _ => False) n (evCall2 Tryd.prog gt lf (d + 3) 70 #[.int .i64 (a : Nat), .int .i64 (b : Nat), .pointer (some ⟨pw, 0, none⟩)]) h n fun v h' n' => v = .int .i64 (cmp3 (keyW ws a) (keyW ws b)) ∧ h' = h ∧ n' = n := by
  obtain ⟨⟨wb, off, cap, e1, o1, e2, o2, cs, h1, h2, h3, h4, h5⟩, h6, h7⟩ := hE
  have c1 : cs[off + a]? = some (.int .i64 (keyW ws a)) := h5 a ha
  have c2 : cs[off + b]? = some (.int .i64 (keyW ws b)) := h5 b hb
  rw [sh_lens_treesOf_1]
  refine Run.inside_ ?_
  unfold b_lens_treesOf_1
  try simp (disch := first | omega | assumption | exact one_int _ _ | exact one_slice _ _ _ | exact one_ptr _ | exact one_bool _ | exact one_string _) only [RXA, RXB, Nat.reduceAdd, Nat.reduceLT, wrap_id, wrap_succ, wrap_pred, FX1, h1, h2, c1, c2]
  refine run_same (s_Compare _ _ _ _ _ _) (Nat.le_refl _) (fun _ _ h => h.elim) ?_
  try simp (disch := first | omega | assumption | exact one_int _ _ | exact one_slice _ _ _ | exact one_ptr _ | exact one_bool _ | exact one_string _) only [RXA, RXB, Nat.reduceAdd, Nat.reduceLT, wrap_id, wrap_succ, wrap_pred, FX1]
theorem nats_get {xs : List Nat} {i : Nat} (h : i < xs.length) : (nats xs)[i]? = some (.int .i64 (xs.getD i 0 : Nat)) := by unfold nats; simp [h]
theorem nats_len (xs : List Nat) : (nats xs).length = xs.length := by unfold nats; simp
theorem nats_set (xs : List Nat) (i v : Nat) : (nats xs).set i (.int .i64 (v : Nat)) = nats (xs.set i v) := by unfold nats; rw [List.map_set]
/-- the leaves' block and nothing else has changed -/
def At (h hr : H) (g : Nat) (xs : List Nat) : Prop := hr.get g = some ⟨3, true, nats xs⟩ ∧ ∀ b, b ≠ g → hr.get b = h.get b
theorem At.set {h hr : H} {g : Nat} {xs ys : List Nat} (a : At h hr g xs) {e : TypeId} {o : Bool} (he : e = 3) (ho : o = true) : At h (hr.set g (some ⟨e, o, nats ys⟩)) g ys := by
  subst he ho
  exact ⟨get_eq _ _ _, fun b hb => by rw [get_ne _ _ hb]; exact a.2 b hb⟩

set_option maxHeartbeats 1000000 in
theorem insB (lf d g n cap pw : Nat) (ws : List Int) (h : H) (pre post Y : List Nat) (x : Nat) (D : List Nat) (N : Nat) (hN : (pre ++ (D ++ x :: Y) ++ post).length = N) (hNb : N ≤ 1000000) (hE : EnvT h n g pw ws) (hg : g < n) (hx : x < ws.length) (hD : ∀ z ∈ D, z < ws.length) {W : Nat → Prop} {n0 : Nat} (hn0 : n0 ≤ n) (hW : n0 ≤ g ∨ W g) {Q : Value → H → Nat → Prop} (k : Ex → Fr → M Value) (x2 x8 x14 : Value)
    (hK : ∀ L R J hr y34, L ++ R = D → (∀ r ∈ R, keyW ws x < keyW ws r) → (L = [] ∨ ¬ keyW ws x < keyW ws (L.getD (L.length - 1) 0)) → At h hr g (pre ++ (L ++ x :: R ++ Y) ++ post) → Run W n0 (k (Ex.exit 2) [(0, .slice (some ⟨g, 0, none⟩) N cap), (1, .int .i64 (pre.length : Nat)), (2, x2), (3, .func (.func 70) #[] #[.pointer (some ⟨pw, 0, none⟩)]), (8, x8), (9, J), (14, x14), (34, y34)]) hr n Q) :
    ∀ (m : Nat) (L R : List Nat) (fu : Nat) (hr : H), L.length = m → m < fu → L ++ R = D → (∀ r ∈ R, keyW ws x < keyW ws r) → At h hr g (pre ++ (L ++ x :: R ++ Y) ++ post) →
      Run W n0 (lpB_slices_insertionSortCmpFunc_int lf (d + 3) fu k (.slice (some ⟨g, 0, none⟩) N cap) (.int .i64 (pre.length : Nat)) x2 (.func (.func 70) #[] #[.pointer (some ⟨pw, 0, none⟩)]) x8 (.int .i64 ((pre.length + m : Nat) : Int)) x14) hr n Q := by
  intro m
  induction m with
  | zero =>
    intro L R fu hr hL hfu hLR hR hA
    obtain ⟨fu, rfl⟩ : ∃ f, fu = f + 1 := ⟨fu - 1, by omega⟩
    have : L = [] := List.length_eq_zero_iff.1 hL
    subst this
    rw [succB_slices_insertionSortCmpFunc_int]
    try simp (disch := first | omega | assumption | exact one_int _ _ | exact one_slice _ _ _ | exact one_ptr _ | exact one_bool _ | exact one_string _) only [RXA, RXB, Nat.reduceAdd, Nat.reduceLT, wrap_id, wrap_succ, wrap_pred, FX1, Int.lt_irrefl]
    exact hK [] R _ hr _ hLR hR (.inl rfl) hA
  | succ m ih =>
    intro L R fu hr hL hfu hLR hR hA
    obtain ⟨fu, rfl⟩ : ∃ f, fu = f + 1 := ⟨fu - 1, by omega⟩
    obtain ⟨L', y, rfl⟩ : ∃ L' y, L = L' ++ [y] := ⟨L.dropLast, L.getLast (by intro e; rw [e] at hL; simp at hL), (List.dropLast_concat_getLast _).symm⟩
    have hL' : L'.length = m := by simp at hL; exact hL
    have hlen : pre.length + (m + 1) < N := by rw [← hN, ← hLR]; simp; omega
    have e1 : ((pre.length : Nat) : Int) < ((pre.length + (m + 1) : Nat) : Int) := by omega
    have e2 : pre ++ (L' ++ [y] ++ x :: R ++ Y) ++ post = (pre ++ L') ++ y :: (x :: R ++ Y ++ post) := by simp
    have e3 : pre ++ (L' ++ [y] ++ x :: R ++ Y) ++ post = (pre ++ L' ++ [y]) ++ x :: (R ++ Y ++ post) := by simp
    have hlx : (pre ++ (L' ++ [y] ++ x :: R ++ Y) ++ post).length = N := by rw [← hN, ← hLR]; simp; omega
    have g1 : (nats (pre ++ (L' ++ [y] ++ x :: R ++ Y) ++ post))[pre.length + (m + 1)]? = some (.int .i64 (x : Nat)) := by
      rw [nats_get (by omega), e3, getD_at _ _ _ _ (by simp; omega)]
    have g2 : (nats (pre ++ (L' ++ [y] ++ x :: R ++ Y) ++ post))[pre.length + m]? = some (.int .i64 (y : Nat)) := by
      rw [nats_get (by omega), e2, getD_at _ _ _ _ (by simp; omega)]
    have hy : y < ws.length := hD y (by rw [← hLR]; simp)
    have w1 : IntKind.i64.wrap (((pre.length + (m + 1) : Nat) : Int) - 1) = ((pre.length + m : Nat) : Int) := by rw [wrap_id (by omega) (by omega)]; omega
    have c0 := hA.1
    have hset : ((pre ++ (L' ++ [y] ++ x :: R ++ Y) ++ post).set (pre.length + (m + 1)) y).set (pre.length + m) x = pre ++ (L' ++ x :: (y :: R) ++ Y) ++ post := by
      rw [e3, set_at _ _ _ _ _ (by simp; omega)]
      have : pre ++ L' ++ [y] ++ y :: (R ++ Y ++ post) = (pre ++ L') ++ y :: (y :: (R ++ Y ++ post)) := by simp
      rw [this, set_at _ _ _ _ _ (by simp; omega)]
      simp
    rw [succB_slices_insertionSortCmpFunc_int]
    try simp (disch := first | omega | assumption | exact one_int _ _ | exact one_slice _ _ _ | exact one_ptr _ | exact one_bool _ | exact one_string _) only [RXA, RXB, Nat.reduceAdd, Nat.reduceLT, wrap_id, wrap_succ, wrap_pred, FX1, e1, c0, g1, g2, w1, callT]
    refine run_same (s_cmp lf d x y hr n g pw ws (hE.keeps hA.2) hx hy) hn0 (fun _ _ h => h.elim) ?_
    have e4 := cmp3_neg (keyW ws x) (keyW ws y)
    try simp (disch := first | omega | assumption | exact one_int _ _ | exact one_slice _ _ _ | exact one_ptr _ | exact one_bool _ | exact one_string _) only [RXA, RXB, Nat.reduceAdd, Nat.reduceLT, wrap_id, wrap_succ, wrap_pred, FX1, e4]
    by_cases hlt : keyW ws x < keyW ws y
    · try simp (disch := first | omega | assumption | exact one_int _ _ | exact one_slice _ _ _ | exact one_ptr _ | exact one_bool _ | exact one_string _) only [RXA, RXB, Nat.reduceAdd, Nat.reduceLT, wrap_id, wrap_succ, wrap_pred, FX1, hlt, c0, g1, g2, w1, nats_len, nats_set, List.length_set, hset]
      refine ⟨by omega, hW, by omega, hW, ?_⟩
      exact ih L' (y :: R) fu _ hL' (by omega) (by rw [← hLR]; simp) (fun r hr => by
        rcases List.mem_cons.1 hr with rfl | hr
        · exact hlt
        · exact hR r hr) ((hA.set rfl rfl).set rfl rfl)
    · try simp (disch := first | omega | assumption | exact one_int _ _ | exact one_slice _ _ _ | exact one_ptr _ | exact one_bool _ | exact one_string _) only [RXA, RXB, Nat.reduceAdd, Nat.reduceLT, wrap_id, wrap_succ, wrap_pred, FX1, hlt]
      exact hK (L' ++ [y]) R _ hr _ hLR hR (.inr (by simpa using hlt)) hA

end Go.Proofs.YtdagfcflbphoiaaDoor
/- The library's swap of two stretches and its rotation, by the second form. -/
namespace Go.Proofs.YtdagfcflbphoiaaDoor
set_option linter.unusedVariables false
set_option linter.unusedSimpArgs false
open Go.RowKit Ev Hu

theorem At.trans {h h1 h2 : H} {g : Nat} {xs ys : List Nat} (a : At h h1 g xs) (b : At h1 h2 g ys) : At h h2 g ys := ⟨b.1, fun c hc => (b.2 c hc).trans (a.2 c hc)⟩
end Go.Proofs.YtdagfcflbphoiaaDoor
/- The library's merge in place, by the second form: one element ahead, one element behind. -/
namespace Go.Proofs.YtdagfcflbphoiaaDoor
set_option linter.unusedVariables false
set_option linter.unusedSimpArgs false
open Go.RowKit Ev Hu

end Go.Proofs.YtdagfcflbphoiaaDoor
/- The library's merge in place, by the second form: the whole. -/
namespace Go.Proofs.YtdagfcflbphoiaaDoor
set_option linter.unusedVariables false
set_option linter.unusedSimpArgs false
open Go.RowKit Ev Hu

/-- what a merge leaves -/
def SymQ (h : H) (g n : Nat) (ws : List Int) (P XY Q : List Nat) (h' : H) (n' : Nat) : Prop := n' = n ∧ ∃ Z, Z.Perm XY ∧ Z.Pairwise (RI (keyW ws)) ∧ At h h' g (P ++ Z ++ Q)
end Go.Proofs.YtdagfcflbphoiaaDoor
/- The library's merge in place, by the second form: the general step, and the whole. -/
namespace Go.Proofs.YtdagfcflbphoiaaDoor
set_option linter.unusedVariables false
set_option linter.unusedSimpArgs false
open Go.RowKit Ev Hu

theorem SymQ.run {h hr : H} {g n : Nat} {ws : List Int} {P Z Q : List Nat} {QQ : H → Nat → Prop} (e : ∀ h', (∃ Z', Z'.Perm Z ∧ Z'.Pairwise (RI (keyW ws)) ∧ At hr h' g (P ++ Z' ++ Q)) → QQ h' n) {h' : H} {n' : Nat} (q : SymQ hr g n ws P Z Q h' n') : QQ h' n' := by
  obtain ⟨rfl, q⟩ := q
  exact e _ q

end Go.Proofs.YtdagfcflbphoiaaDoor
/- The library's stable sort, by the second form: the whole. -/
namespace Go.Proofs.YtdagfcflbphoiaaDoor
set_option linter.unusedVariables false
set_option linter.unusedSimpArgs false
open Go.RowKit Ev Hu

section
variable (lf g cap pw N : Nat) (ws : List Int) (hlf : 3000000 ≤ lf) (hNb : N ≤ 1000000) (d n : Nat) (h : H) (xs : List Nat) (hN : xs.length = N) (hE : EnvT h n g pw ws) (hg : g < n) (hin : ∀ z ∈ xs, z < ws.length)
variable {W : Nat → Prop} {n0 : Nat} (hn0 : n0 ≤ n) (hW : n0 ≤ g ∨ W g) {R : Value → H → Nat → Prop} (k : Ex → Fr → M Value)
include hlf hNb hN hE hg hin hn0 hW
end

end Go.Proofs.YtdagfcflbphoiaaDoor
/- Trees of weights, by the second form: cloned, made. -/
namespace Go.Proofs.YtdagfcflbphoiaaDoor
set_option linter.unusedVariables false
set_option linter.unusedSimpArgs false
open Go.RowKit Ev Hu

/-- the trees of weights by themselves, in order -/
def Start (ws : List Int) (D : List Nat) : HT := { weight := ws, into := List.replicate ws.length (-1), leaves := D, joined := ws.length }
end Go.Proofs.YtdagfcflbphoiaaDoor
/- Depths of weights, by the second form. -/
namespace Go.Proofs.YtdagfcflbphoiaaDoor
set_option linter.unusedVariables false
set_option linter.unusedSimpArgs false
open Go.RowKit Ev Hu

def fillD (into : List Int) : Nat → List Int → List Int
  | 0, out => out
  | i + 1, out => fillD into i (out.set i (out.getD (into.getD i 0).toNat 0 + 1))
def treeOf (ws : List Int) (D : List Nat) : HT := runH (ws.length - 1) (Start ws D)
def depthsP (ws : List Int) (D : List Nat) : List Int := (fillD (treeOf ws D).into (2 * ws.length - 2) (List.replicate (2 * ws.length - 1) 0)).take ws.length

theorem fillD_len (into : List Int) : ∀ (i : Nat) (out : List Int), (fillD into i out).length = out.length
  | 0, out => rfl
  | i + 1, out => by unfold fillD; rw [fillD_len into i]; simp
theorem depthsP_len (ws : List Int) (D : List Nat) (h : 1 ≤ ws.length) : (depthsP ws D).length = ws.length := by
  unfold depthsP
  rw [List.length_take, fillD_len, List.length_replicate]
  omega

theorem start_ok {ws : List Int} {D : List Nat} {S : Int} (hp : D.Perm (List.range ws.length)) (hw : ∀ x ∈ ws, 0 ≤ x) (hS : sumI ws = S) : OkH ws.length 0 [] S (Start ws D) := by
  have hlen := hp.length_eq
  rw [List.length_range] at hlen
  have hmem : ∀ i ∈ D, i < ws.length := fun i hi => List.mem_range.1 (hp.mem_iff.1 hi)
  have sle := sumI_le ws hw
  rw [hS] at sle
  have sumP : ∀ {a b : List Int}, a.Perm b → sumI a = sumI b := by
    intro a b h
    induction h with
    | nil => rfl
    | cons x _ ih => simp only [sumI, ih]
    | swap x y l => simp only [sumI]; omega
    | trans _ _ ih1 ih2 => exact ih1.trans ih2
  refine ⟨rfl, by simp [Start], hmem, fun i hi => by simp at hi, Nat.le_refl _, Nat.le_refl _, by simp [Start, hlen], fun i hi => ?_, ?_, fun i hi h2 => ?_⟩
  · have : ws.getD i 0 ∈ ws := by rw [List.getD_eq_getElem?_getD, List.getElem?_eq_getElem (by omega)]; exact List.getElem_mem _
    exact ⟨hw _ this, sle.2 _ this⟩
  · unfold waitH
    simp only [Start, Nat.add_zero, Nat.sub_self, List.range'_zero, List.append_nil, List.nil_append]
    rw [sumP (hp.map _), ← hS]
    congr 1
    apply List.ext_getElem
    · simp
    · intro i h1 h2
      simp [wAt, h2]
  · exact absurd (hp.mem_iff.2 (List.mem_range.2 (by omega))) h2
theorem step_ok {n k : Nat} {S : Int} {t : HT} (h : OkH n k [] S t) (hk : k + 2 ≤ n) : OkH n k [Hu.leastOf t] S (taken t) ∧ Hu.leastOf t < n + k ∧ OkH n k [Hu.leastOf t, Hu.leastOf (taken t)] S (taken (taken t)) ∧ Hu.leastOf (taken t) < n + k ∧ OkH n (k + 1) [] S (stepH t) ∧ (stepH t).joined ≤ n + k := by
  have hl := h.left
  simp only [List.length_nil] at hl
  obtain ⟨h1, a1⟩ := h.take (by omega)
  have hl1 := h1.left
  simp only [List.nil_append, List.length_cons, List.length_nil] at hl1
  obtain ⟨h2, a2⟩ := h1.take (by omega)
  exact ⟨h1, a1, h2, a2, h2.join, h2.jh⟩
end Go.Proofs.YtdagfcflbphoiaaDoor
/- Small functions of layer 9, by the second form: bounds, shares, the longest, lists held against one another. -/
namespace Go.Proofs.YtdagfcflbphoiaaDoor
set_option linter.unusedVariables false
set_option linter.unusedSimpArgs false
open Go.RowKit Ev Hu

def allIn (lo hi : Int) (xs : List Int) : Bool := xs.all fun x => decide (lo ≤ x) && decide (x ≤ hi)
theorem allIn_iff {lo hi : Int} {xs : List Int} : allIn lo hi xs = true ↔ ∀ x ∈ xs, lo ≤ x ∧ x ≤ hi := by unfold allIn; simp
theorem drop_next {α : Type} (d : α) {xs : List α} {i : Nat} (h : i < xs.length) : xs.drop i = xs.getD i d :: xs.drop (i + 1) := by
  rw [List.drop_eq_getElem_cons h, List.getD_eq_getElem?_getD, List.getElem?_eq_getElem h]
  rfl
def lngL : List Int → Int → Int
  | [], a => a
  | x :: l, a => lngL l (if a < x then x else a)
theorem lngL_le (B : Int) : ∀ (l : List Int) (a : Int), lngL l a ≤ B ↔ (a ≤ B ∧ ∀ x ∈ l, x ≤ B)
  | [], a => by simp [lngL]
  | x :: l, a => by
    unfold lngL
    rw [lngL_le B l]
    simp only [List.mem_cons, forall_eq_or_imp]
    by_cases h : a < x
    · rw [if_pos h]; constructor
      · rintro ⟨p, q⟩; exact ⟨by omega, p, q⟩
      · rintro ⟨p, q, r⟩; exact ⟨q, r⟩
    · rw [if_neg h]; constructor
      · rintro ⟨p, q⟩; exact ⟨p, by omega, q⟩
      · rintro ⟨p, q, r⟩; exact ⟨p, r⟩
end Go.Proofs.YtdagfcflbphoiaaDoor
/- Arguments opened: numbers, texts, structs of them. No program in sight. -/
namespace Go.Proofs.YtdagfcflbphoiaaDoor.Ev
set_option linter.unusedVariables false
set_option linter.unusedSimpArgs false
open Go Go.RowKit

section
variable {P : Program} {h : H} {n f : Nat} {t : TypeId} {v : Value}
theorem rep_int {k : IntKind} (hu : P.underlying t = some (.int k)) (x : RepH1 P h n (f + 1) t v) : ∃ i, v = .int k i ∧ (Lit.int k i).wf = true := by
  unfold RepH1 at x
  rw [hu] at x
  exact x
theorem argH_agg {ts : List TypeId} (hc : cellTs P 8 t = some ts) (hg : isAggT P t = true) (x : ArgH P h n t v) : ∃ cs : List Value, v = .agg cs.toArray ∧ All2 (RepH1 P h n 8) ts cs := by
  obtain ⟨ts', hts, q⟩ := x
  rw [hc] at hts
  cases hts
  rcases q with ⟨_, cs, hv, h2⟩ | ⟨h1, _⟩
  · exact ⟨cs.toList, by rw [hv], h2⟩
  · rw [hg] at h1; cases h1
theorem all2_2 {α β : Type} {R : α → β → Prop} {a a' : α} {l : List β} (x : All2 R [a, a'] l) : ∃ b b', l = [b, b'] ∧ R a b ∧ R a' b' := by
  match l, x with
  | [b, b'], x => exact ⟨b, b', rfl, x.1, x.2.1⟩
theorem wf64 {i : Int} (h : (Lit.int .i64 i).wf = true) : -9223372036854775808 ≤ i ∧ i ≤ 9223372036854775807 := by
  have e1 : IntKind.i64.min = -9223372036854775808 := by decide
  have e2 : IntKind.i64.max = 9223372036854775807 := by decide
  simp only [Lit.wf, e1, e2, Bool.and_eq_true, decide_eq_true_eq] at h
  exact h
end

end Go.Proofs.YtdagfcflbphoiaaDoor.Ev
/- A part of the second form that the kernel itself runs; statements whose arguments hold no slices. No program in sight. -/
namespace Go.Proofs.YtdagfcflbphoiaaDoor.Ev
set_option linter.unusedVariables false
set_option linter.unusedSimpArgs false
open Go Go.RowKit

section
variable {P : Program} {w : World} {f : Nat} {t : TypeId} {v : Value}
end

end Go.Proofs.YtdagfcflbphoiaaDoor.Ev
/- A slice of texts as an argument. No program in sight. -/
namespace Go.Proofs.YtdagfcflbphoiaaDoor.Ev
set_option linter.unusedVariables false
set_option linter.unusedSimpArgs false
open Go Go.RowKit

def SRow (h : H) (n : Nat) (v : Value) (ss : List (List UInt8)) : Prop := ∃ a c, v = .slice a ss.length c ∧ ∀ i (hi : i < ss.length), ∃ b B, a = some ⟨b, 0, none⟩ ∧ h.get b = some B ∧ b < n ∧ B.cells[i]? = some (.string ⟨(ss[i]).toArray⟩)
theorem SRow.keep {h h' : H} {n n' : Nat} {v : Value} {ss : List (List UInt8)} (r : SRow h n v ss) (hn : n ≤ n') (hk : ∀ b, b < n → h'.get b = h.get b) : SRow h' n' v ss := by
  obtain ⟨a, c, rfl, q⟩ := r
  refine ⟨a, c, rfl, fun i hi => ?_⟩
  obtain ⟨b, B, ha, hg, hb, hc⟩ := q i hi
  exact ⟨b, B, ha, (hk b hb).trans hg, by omega, hc⟩

end Go.Proofs.YtdagfcflbphoiaaDoor.Ev
/- Storing values of several cells; calls that are taken in; readings that do not touch one another. No program in sight. -/
namespace Go.Proofs.YtdagfcflbphoiaaDoor.Ev
set_option linter.unusedVariables false
set_option linter.unusedSimpArgs false
open Go Go.RowKit
section
variable {β : Type} {W : Nat → Prop} {n0 : Nat} {h : H} {n : Nat} {Q : β → H → Nat → Prop} {P : Program}
theorem wrN_run : ∀ (vs : List Value) (b off : Nat) (e : TypeId) (cs : List Value) (h : H) (n : Nat), h.get b = some ⟨e, true, cs⟩ → b < n → off + vs.length ≤ cs.length → vs.all one = true →
    ∃ h' L, wrN b off vs h n = some ⟨(), h', n, L⟩ ∧ h'.get b = some ⟨e, true, cs.take off ++ vs ++ cs.drop (off + vs.length)⟩ ∧ (∀ c, c ≠ b → h'.get c = h.get c) ∧ ∀ x ∈ L, x.b = b
  | [], b, off, e, cs, h, n, hg, hb, hl, _ => ⟨h, [], rfl, by simpa using hg, fun _ _ => rfl, by simp⟩
  | v :: vs, b, off, e, cs, h, n, hg, hb, hl, h1 => by
    simp only [List.all_cons, Bool.and_eq_true] at h1
    simp only [List.length_cons] at hl
    have hw : wr b off v h n = some ⟨(), h.set b (some ⟨e, true, cs.set off v⟩), n, [⟨false, b, some off⟩, ⟨true, b, some off⟩]⟩ := by
      unfold wr
      have : off < cs.length := by omega
      simp [hb, hg, this, h1.1]
    obtain ⟨h', L, e1, e2, e3, e4⟩ := wrN_run vs b (off + 1) e (cs.set off v) (h.set b (some ⟨e, true, cs.set off v⟩)) n (get_eq _ _ _) hb (by simp; omega) h1.2
    refine ⟨h', _, bind_run hw e1, ?_, fun c hc => (e3 c hc).trans (get_ne _ _ hc), fun x hx => ?_⟩
    · rw [e2]
      congr 2
      have ha : (cs.set off v).take (off + 1) = cs.take off ++ [v] := by
        rw [List.take_set, List.take_succ_eq_append_getElem (by omega), List.set_append_right _ _ (by simp; omega)]
        simp [Nat.min_eq_left (show off ≤ cs.length by omega)]
      have hd : (cs.set off v).drop (off + 1 + vs.length) = cs.drop (off + (v :: vs).length) := by
        rw [List.drop_set_of_lt (by omega)]
        congr 1
        simp only [List.length_cons]; omega
      rw [ha, hd]
      simp
    · rcases List.mem_append.1 hx with q | q
      · simp at q; rcases q with rfl | rfl <;> rfl
      · exact e4 x q
/-- a value of several cells is stored -/
theorem run_sta {t : TypeId} {sz : Nat} (hs : size? P t = some sz) {b off : Nat} {e : TypeId} {cs vs : List Value} {v : Value} (hv : v.cells.toList = vs) (hl : vs.length = sz) (h1 : vs.all one = true) (hg : h.get b = some ⟨e, true, cs⟩) (hb : b < n) (ho : off + sz ≤ cs.length) (hw : n0 ≤ b ∨ W b) (k : Value → M β)
    (x : ∀ h', h'.get b = some ⟨e, true, cs.take off ++ vs ++ cs.drop (off + sz)⟩ → (∀ c, c ≠ b → h'.get c = h.get c) → Run W n0 (k undef) h' n Q) : Run W n0 ((inside (evStore P t (.pointer (some ⟨b, off, none⟩)) v)).bind k) h n Q := by
  obtain ⟨h', L, e1, e2, e3, e4⟩ := wrN_run vs b off e cs h n hg hb (by omega) h1
  have e5 : evStore P t (.pointer (some ⟨b, off, none⟩)) v h n = some ⟨undef, h', n, L ++ []⟩ := by
    unfold evStore
    have hc : v.cells.size = sz := by rw [← hl, ← hv, Array.length_toList]
    simp only [hs, hc, if_true, hv]
    exact bind_run e1 rfl
  refine Run.step (inside_run e5) (Nat.le_refl _) (fun y hy hy2 => ?_) (x h' (by rw [e2, hl]) e3)
  have := (List.mem_filter.1 hy).1
  rw [List.append_nil] at this
  rw [e4 y this]
  exact hw
theorem run_lda0 {t : TypeId} {sz : Nat} (ha : agg? P t = some true) (hs : size? P t = some sz) (b off : Nat) (k : Value → M β) {B : AB} (hg : h.get b = some B) (hb : b < n) (hl : off + sz ≤ B.cells.length) (x : Run W n0 (k (.agg ((B.cells.drop off).take sz).toArray)) h n Q) : Run W n0 ((evLoad P t (.pointer (some ⟨b, off, none⟩))).bind k) h n Q := by
  obtain ⟨L, e1, e2⟩ := rdN_run hg hb sz off hl
  have e : evLoad P t (.pointer (some ⟨b, off, none⟩)) h n = some ⟨.agg ((B.cells.drop off).take sz).toArray, h, n, L ++ []⟩ := by
    unfold evLoad
    simp only [ha, hs]
    exact bind_run e1 rfl
  exact Run.step e (Nat.le_refl _) (fun y hy hw => by rw [List.append_nil] at hy; rw [e2 y hy] at hw; cases hw) x
/-- two that only read what was there ahead of them do not clash -/
theorem clash_ro {a b : Tk} (h1 : ∀ e ∈ a.log, e.wr = false) (h2 : ∀ e ∈ b.log, e.wr = false) (h3 : ∀ e ∈ a.log, e.b < b.n) (h4 : ∀ e ∈ b.log, e.b < a.n) : a.clash b = false := by
  unfold Tk.clash
  simp only [Bool.or_eq_false_iff, List.any_eq_false, Bool.and_eq_true, decide_eq_true_eq, not_and]
  refine ⟨⟨⟨fun x hx hw => ?_, fun x hx hw => ?_⟩, fun x hx hle => ?_⟩, fun x hx hle => ?_⟩
  · rw [h1 x hx] at hw; cases hw
  · rw [h2 x hx] at hw; cases hw
  · have := h3 x hx; omega
  · have := h4 x hx; omega
/-- of a step of which one may want the order: that it reads, and what was there -/
structure RO (t : Tk) (n : Nat) : Prop where
  wr : ∀ e ∈ t.log, e.wr = false
  lt : ∀ e ∈ t.log, e.b < n
  n : t.n = n
theorem RO.clash {a b : Tk} {m : Nat} (x : RO a m) (y : RO b m) : Tk.clash a b = false := clash_ro x.wr y.wr (fun e he => by rw [y.n]; exact x.lt e he) (fun e he => by rw [x.n]; exact y.lt e he)
end

end Go.Proofs.YtdagfcflbphoiaaDoor.Ev
/- Rows of bytes; appending to a row that was there ahead of the call. No program in sight. -/
namespace Go.Proofs.YtdagfcflbphoiaaDoor.Ev
set_option linter.unusedVariables false
set_option linter.unusedSimpArgs false
open Go Go.RowKit
section
variable {β : Type} {W : Nat → Prop} {n0 : Nat} {h : H} {n : Nat} {Q : β → H → Nat → Prop} {P : Program}
end

end Go.Proofs.YtdagfcflbphoiaaDoor.Ev
/- Structs that begin with an array; arrays that are filled place by place; steps whose order may matter. No program in sight. -/
namespace Go.Proofs.YtdagfcflbphoiaaDoor.Ev
set_option linter.unusedVariables false
set_option linter.unusedSimpArgs false
open Go Go.RowKit
section
variable {β : Type} {W : Nat → Prop} {n0 : Nat} {h : H} {n : Nat} {Q : β → H → Nat → Prop} {P : Program}
end

end Go.Proofs.YtdagfcflbphoiaaDoor.Ev
/- Steps whose order may matter, that read only what was there ahead of a place. No program in sight. -/
namespace Go.Proofs.YtdagfcflbphoiaaDoor.Ev
set_option linter.unusedVariables false
set_option linter.unusedSimpArgs false
open Go Go.RowKit
structure RB (t : Tk) (m : Nat) : Prop where
  wr : ∀ e ∈ t.log, e.wr = false
  lt : ∀ e ∈ t.log, e.b < m
  le : m ≤ t.n
theorem RB.clash {a b : Tk} {m : Nat} (x : RB a m) (y : RB b m) : Tk.clash a b = false := clash_ro x.wr y.wr (fun e he => Nat.lt_of_lt_of_le (x.lt e he) y.le) (fun e he => Nat.lt_of_lt_of_le (y.lt e he) x.le)
section
variable {β : Type} {W : Nat → Prop} {n0 : Nat} {h : H} {n m : Nat} {Q : β → H → Nat → Prop} {P : Program}
theorem timed_callB (hd : okDsts P = true) {gt : Nat → List Nat} {lf d : Nat} {f : FuncId} {args : Array Value} {Q' : Value → H → Nat → Prop} (s : Run (fun _ => False) n (evCall2 P gt lf d f args) h n Q') (hn : n0 ≤ n) {k : Value × Tk → M β}
    (x : ∀ v h1 n1 T, n ≤ n1 → (∀ b, b < n → h1.get b = h.get b) → Q' v h1 n1 → RB T n → Run W n0 (k (v, T)) h1 n1 Q) : Run W n0 ((timed ((inside (evCall2 P gt lf d f args)).bind fun v => M.ret v)).bind k) h n Q := by
  refine timed_call hd s hn (fun _ _ h => h.elim) fun v h1 n1 L hn1 fr hq hL hw => x v h1 n1 _ hn1 (fun b hb => fr b hb id) hq ⟨fun e he => ?_, hL, Nat.le_refl _⟩
  cases hq : e.wr with
  | false => rfl
  | true => exact (hw e he hq).elim
end

end Go.Proofs.YtdagfcflbphoiaaDoor.Ev
/- Loops by their steps; rows of rows of numbers. No program in sight. -/
namespace Go.Proofs.YtdagfcflbphoiaaDoor.Ev
set_option linter.unusedVariables false
set_option linter.unusedSimpArgs false
open Go Go.RowKit
theorem run_for {β σ : Type} {W : Nat → Prop} {n0 : Nat} {Q : β → H → Nat → Prop} (N : Nat) (lp : Nat → Nat → σ → M β) (I : Nat → σ → H → Nat → Prop)
    (last : ∀ fu s h n, I N s h n → Run W n0 (lp (fu + 1) N s) h n Q)
    (step : ∀ fu i s h n, i < N → I i s h n → (∀ s' h' n', I (i + 1) s' h' n' → Run W n0 (lp fu (i + 1) s') h' n' Q) → Run W n0 (lp (fu + 1) i s) h n Q) :
    ∀ (fu i : Nat) (s : σ) (h : H) (n : Nat), i ≤ N → N - i < fu → I i s h n → Run W n0 (lp fu i s) h n Q := by
  have key : ∀ (m fu i : Nat) (s : σ) (h : H) (n : Nat), N - i = m → i ≤ N → N - i < fu → I i s h n → Run W n0 (lp fu i s) h n Q := by
    intro m
    induction m with
    | zero =>
      intro fu i s h n hm hi hf x
      obtain ⟨fu, rfl⟩ : ∃ f, fu = f + 1 := ⟨fu - 1, by omega⟩
      obtain rfl : i = N := by omega
      exact last fu s h n x
    | succ m ih =>
      intro fu i s h n hm hi hf x
      obtain ⟨fu, rfl⟩ : ∃ f, fu = f + 1 := ⟨fu - 1, by omega⟩
      exact step fu i s h n (by omega) x fun s' h' n' y => ih fu (i + 1) s' h' n' (by omega) (by omega) (by omega) y
  exact fun fu i s h n => key _ fu i s h n rfl

def VRow (h : H) (n : Nat) (e : TypeId) (v : Value) (cs : List Value) : Prop :=
  (∃ a c, v = .slice a 0 c ∧ (∀ b o, a ≠ some ⟨b, o, none⟩) ∧ cs = []) ∨ ∃ b off cap o ks, v = .slice (some ⟨b, off, none⟩) cs.length cap ∧ h.get b = some ⟨e, o, ks⟩ ∧ b < n ∧ off + cs.length ≤ ks.length ∧ (ks.drop off).take cs.length = cs ∧ cs.length ≤ cap
section
variable {h h' : H} {n n' lo hi : Nat} {e e' es ei : TypeId} {v v' : Value} {cs cs' : List Value} {xss : List (List Int)}
theorem VRow.keep (r : VRow h n e v cs) (hn : n ≤ n') (hk : ∀ b, InBlk v b → h'.get b = h.get b) : VRow h' n' e v cs := by
  rcases r with q | ⟨b, off, cap, o, ks, hv, hg, hb, r⟩
  · exact .inl q
  · exact .inr ⟨b, off, cap, o, ks, hv, (hk b ⟨_, _, _, hv⟩).trans hg, by omega, r⟩
theorem VRow.len (r : VRow h n e v cs) : ∃ a c, v = .slice a cs.length c := by
  rcases r with ⟨a, c, rfl, _, rfl⟩ | ⟨b, off, cap, o, ks, rfl, _⟩
  · exact ⟨a, c, rfl⟩
  · exact ⟨_, cap, rfl⟩
theorem VRow.some (r : VRow h n e v cs) (h0 : 0 < cs.length) : ∃ b off cap o ks, v = .slice (some ⟨b, off, none⟩) cs.length cap ∧ h.get b = some ⟨e, o, ks⟩ ∧ b < n ∧ ∀ i, i < cs.length → ks[off + i]? = some (cs.getD i undef) := by
  rcases r with ⟨a, c, _, _, rfl⟩ | ⟨b, off, cap, o, ks, hv, hg, hb, hl, ht, hc⟩
  · simp at h0
  · refine ⟨b, off, cap, o, ks, hv, hg, hb, fun i hi => ?_⟩
    have := congrArg (fun z => z[i]?) ht
    simp only [List.getElem?_take, hi, if_true, List.getElem?_drop] at this
    rw [this, List.getD_eq_getElem?_getD, List.getElem?_eq_getElem hi]
    rfl
theorem VRow.lt (r : VRow h n e v cs) {b : Nat} (hb : InBlk v b) : b < n := by
  rcases r with ⟨a, c, rfl, hne, _⟩ | ⟨c, off, cap, o, ks, rfl, hg, hbn, _⟩
  · obtain ⟨o, l, k, q⟩ := hb
    cases q
    exact absurd rfl (hne b o)
  · rw [hb.inj]; exact hbn
theorem Own.elem (o : Own h lo n e v cs) {b : Nat} (hb : InBlk v b) : ∃ B, h.get b = Option.some B ∧ B.elem = e := by
  rcases o with ⟨rfl, _⟩ | ⟨c, rfl, hc, _⟩
  · exact hb.not_nil.elim
  · rw [hb.inj]; exact ⟨_, hc, rfl⟩
theorem Row.elem {k : IntKind} {xs : List Int} (r : Row h n e k v xs) {b : Nat} (hb : InBlk v b) : ∃ B, h.get b = Option.some B ∧ B.elem = e := by
  rcases r with ⟨a, c, rfl, hne, _⟩ | ⟨c, off, cap, o, ks, rfl, hg, _⟩
  · obtain ⟨o, l, k, q⟩ := hb
    cases q
    exact absurd rfl (hne b o)
  · rw [hb.inj]; exact ⟨_, hg, rfl⟩
theorem Own.apart (o : Own h lo n e v cs) {lo' : Nat} (o' : Own h lo' n e' v' cs') (hne : e ≠ e') {b : Nat} (hb : InBlk v b) : ¬ InBlk v' b := fun hb' => by
  obtain ⟨B, h1, h2⟩ := o.elem hb
  obtain ⟨B', h3, h4⟩ := o'.elem hb'
  rw [h1] at h3; cases h3
  exact hne (h2.symm.trans h4)
theorem Row.apart {k : IntKind} {xs : List Int} (o : Row h n e k v xs) {lo' : Nat} (o' : Own h lo' n e' v' cs') (hne : e ≠ e') {b : Nat} (hb : InBlk v b) : ¬ InBlk v' b := fun hb' => by
  obtain ⟨B, h1, h2⟩ := o.elem hb
  obtain ⟨B', h3, h4⟩ := o'.elem hb'
  rw [h1] at h3; cases h3
  exact hne (h2.symm.trans h4)

def RR (h : H) (n : Nat) (es ei : TypeId) (v : Value) (xss : List (List Int)) : Prop := ∃ cs, VRow h n es v cs ∧ cs.length = xss.length ∧ ∀ i, i < xss.length → Row h n ei .i64 (cs.getD i undef) (xss.getD i [])
theorem RR.len (r : RR h n es ei v xss) : ∃ a c, v = .slice a xss.length c := by
  obtain ⟨cs, r, hl, _⟩ := r
  rw [← hl]; exact r.len
theorem RR.keep (r : RR h n es ei v xss) (hn : n ≤ n') (hk : ∀ b, b < n → h'.get b = h.get b) : RR h' n' es ei v xss := by
  obtain ⟨cs, r, hl, hr⟩ := r
  exact ⟨cs, r.keep hn fun b hb => hk b (r.lt hb), hl, fun i hi => (hr i hi).keep hn hk⟩
theorem RR.at (r : RR h n es ei v xss) (h0 : 0 < xss.length) : ∃ b off cap o ks, v = .slice (some ⟨b, off, none⟩) xss.length cap ∧ h.get b = some ⟨es, o, ks⟩ ∧ b < n ∧ ∀ i, i < xss.length → ∃ x, ks[off + i]? = some x ∧ Row h n ei .i64 x (xss.getD i []) := by
  obtain ⟨cs, r, hl, hr⟩ := r
  obtain ⟨b, off, cap, o, ks, hv, hg, hb, ha⟩ := r.some (by omega)
  exact ⟨b, off, cap, o, ks, by rw [hv, hl], hg, hb, fun i hi => ⟨_, ha i (by omega), hr i hi⟩⟩
/-- a row of rows of one's own that grows: the rows in it lie in blocks below hi -/
def OwnRR (h : H) (lo hi n : Nat) (es ei : TypeId) (v : Value) (xss : List (List Int)) : Prop := ∃ cs, Own h lo n es v cs ∧ cs.length = xss.length ∧ ∀ i, i < xss.length → Row h n ei .i64 (cs.getD i undef) (xss.getD i []) ∧ ∀ b, InBlk (cs.getD i undef) b → b < hi
theorem OwnRR.nil (h : H) (lo hi n : Nat) (es ei : TypeId) : OwnRR h lo hi n es ei (.slice none 0 0) [] := ⟨[], Own.nil _ _ _ _, rfl, fun i hi => absurd hi (by simp)⟩
theorem OwnRR.lt (o : OwnRR h lo hi n es ei v xss) {b : Nat} (hb : InBlk v b) : lo ≤ b ∧ b < n := by
  obtain ⟨cs, o, _⟩ := o
  exact o.lt hb
theorem OwnRR.elem (o : OwnRR h lo hi n es ei v xss) {b : Nat} (hb : InBlk v b) : ∃ B, h.get b = Option.some B ∧ B.elem = es := by
  obtain ⟨cs, o, _⟩ := o
  exact o.elem hb
theorem OwnRR.keep (o : OwnRR h lo hi n es ei v xss) (hn : n ≤ n') (hk : ∀ b, b < n → (b < hi ∨ InBlk v b) → h'.get b = h.get b) : OwnRR h' lo hi n' es ei v xss := by
  obtain ⟨cs, o, hl, hr⟩ := o
  exact ⟨cs, o.keep hn fun b hb => hk b (o.lt hb).2 (.inr hb), hl, fun i hi => ⟨(hr i hi).1.keep' hn fun b hb => hk b ((hr i hi).1.lt hb) (.inl ((hr i hi).2 b hb)), (hr i hi).2⟩⟩
theorem OwnRR.up (o : OwnRR h lo hi n es ei v xss) {hi' : Nat} (hh : hi ≤ hi') : OwnRR h lo hi' n es ei v xss := by
  obtain ⟨cs, o, hl, hr⟩ := o
  exact ⟨cs, o, hl, fun i hi => ⟨(hr i hi).1, fun b hb => Nat.lt_of_lt_of_le ((hr i hi).2 b hb) hh⟩⟩
end
end Go.Proofs.YtdagfcflbphoiaaDoor.Ev
/- Plain facts of layers 8 and 12: counts, groups, costs, picks, tables at first. No program in sight. -/
namespace Go.Proofs.YtdagfcflbphoiaaDoor.Tb
set_option linter.unusedVariables false
set_option linter.unusedSimpArgs false

def sumI : List Int → Int
  | [] => 0
  | x :: l => x + sumI l
theorem sumI_app : ∀ a b : List Int, sumI (a ++ b) = sumI a + sumI b
  | [], b => by simp [sumI]
  | x :: a, b => by simp only [List.cons_append, sumI, sumI_app a b]; omega
theorem sumI_le (B : Int) : ∀ {l : List Int}, (∀ x ∈ l, x ≤ B) → sumI l ≤ l.length * B
  | [], _ => by simp [sumI]
  | x :: l, h => by
    have := sumI_le B (l := l) fun y hy => h y (List.mem_cons_of_mem _ hy)
    have := h x List.mem_cons_self
    simp only [sumI, List.length_cons, Int.natCast_add, Int.add_mul]
    omega
end Go.Proofs.YtdagfcflbphoiaaDoor.Tb
/- Layer 8 by the second form: the program's counts, groups, costs. -/
namespace Go.Proofs.YtdagfcflbphoiaaDoor
set_option linter.unusedVariables false
set_option linter.unusedSimpArgs false
open Go.RowKit Ev Tb

section
variable (lf d n : Nat) (h : H)
variable (hlf : 3000000 ≤ lf)
include hlf
end
end Go.Proofs.YtdagfcflbphoiaaDoor
/- The merging of weights as a plain thing: which two are taken at each step, and what is left. No program in sight. -/
namespace Go.Proofs.YtdagfcflbphoiaaDoor
set_option linter.unusedVariables false
set_option linter.unusedSimpArgs false
open Hu

/-- what waits behind k joins -/
def wt (n k : Nat) (t : HT) : List Nat := t.leaves ++ List.range' t.joined (n + k - t.joined)
structure Srt (n k : Nat) (last : Int) (t : HT) : Prop where
  ls : t.leaves.Pairwise (RI (wAt t))
  js : ∀ i j, n ≤ i → i ≤ j → j < n + k → wAt t i ≤ wAt t j
  mx : ∀ i, n ≤ i → i < n + k → wAt t i ≤ 2 * last
  lo : ∀ x ∈ wt n k t, last ≤ wAt t x
  l0 : 0 ≤ last

theorem take_w (t : HT) : wAt (taken t) = wAt t := by
  unfold taken
  split <;> rfl
theorem take_min {n k : Nat} {P : List Nat} {S last : Int} {t : HT} (h : OkH n k P S t) (s : Srt n k last t) (h1 : 1 ≤ t.leaves.length + (n + k - t.joined)) :
    (wt n k t).Perm (Hu.leastOf t :: wt n k (taken t)) ∧ (∀ x ∈ wt n k (taken t), RI (wAt t) (Hu.leastOf t) x) ∧ Srt n k (wAt t (Hu.leastOf t)) (taken t) ∧ last ≤ wAt t (Hu.leastOf t) := by
  have key : (wt n k t).Perm (Hu.leastOf t :: wt n k (taken t)) ∧ (∀ x ∈ wt n k (taken t), RI (wAt t) (Hu.leastOf t) x) ∧ (taken t).leaves.Pairwise (RI (wAt t)) := by
    cases hl : isLeaf t with
    | true =>
      obtain ⟨r, e1, e2, e3⟩ := isLeaf_true h h1 hl
      have hls := s.ls
      generalize Hu.leastOf t = a at *
      rw [e1, List.pairwise_cons] at hls
      rw [e2]
      refine ⟨by unfold wt; rw [e1]; exact .refl _, fun x hx => ?_, hls.2⟩
      unfold wt at hx
      rcases List.mem_append.1 hx with h2 | h2
      · exact hls.1 x h2
      · have h2 := List.mem_range'_1.1 h2
        have h2 : t.joined ≤ x ∧ x < t.joined + (n + k - t.joined) := h2
        have hjl := h.jl
        unfold isLeaf at hl
        rw [Bool.or_eq_true, beq_iff_eq, Bool.and_eq_true, decide_eq_true_iff, decide_eq_true_iff] at hl
        rcases hl with hl | ⟨_, hl⟩
        · have := h.wl; omega
        · have e4 : t.leaves.getD 0 0 = a := by rw [e1]; rfl
          rw [e4] at hl
          have := s.js t.joined x hjl h2.1 (by omega)
          unfold RI
          omega
    | false =>
      obtain ⟨e1, e2, e3⟩ := isLeaf_false h hl
      rw [e3, e1]
      have hjl := h.jl
      refine ⟨?_, fun x hx => ?_, s.ls⟩
      · unfold wt
        obtain ⟨d, hd⟩ : ∃ d, n + k - t.joined = d + 1 := ⟨n + k - t.joined - 1, by omega⟩
        rw [hd, List.range'_succ]
        show (t.leaves ++ t.joined :: List.range' (t.joined + 1) d).Perm (t.joined :: (t.leaves ++ List.range' (t.joined + 1) (n + k - (t.joined + 1))))
        rw [show n + k - (t.joined + 1) = d by omega]
        exact List.perm_middle
      · unfold wt at hx
        rcases List.mem_append.1 hx with h2 | h2
        · have h2 : x ∈ t.leaves := h2
          have h0 : 0 < t.leaves.length := List.length_pos_of_mem h2
          unfold isLeaf at hl
          rw [Bool.or_eq_false_iff, Bool.and_eq_false_iff] at hl
          have hlt : ¬ wAt t (t.leaves.getD 0 0) ≤ wAt t t.joined := by
            rcases hl.2 with q | q
            · simp only [h0, decide_true] at q; cases q
            · exact of_decide_eq_false q
          obtain ⟨y, r, e⟩ := List.exists_cons_of_length_pos h0
          have hls := s.ls
          rw [e] at h2 hls hlt
          rw [List.pairwise_cons] at hls
          have hlt : ¬ wAt t y ≤ wAt t t.joined := hlt
          rcases List.mem_cons.1 h2 with q | q
          · subst q; unfold RI; omega
          · have := hls.1 x q
            unfold RI at this ⊢
            omega
        · have h2 := List.mem_range'_1.1 h2
          have h2 : t.joined + 1 ≤ x ∧ x < t.joined + 1 + (n + k - (t.joined + 1)) := h2
          have := s.js t.joined x hjl (by omega) (by omega)
          unfold RI
          omega
  obtain ⟨k1, k2, k3⟩ := key
  have hlo : last ≤ wAt t (Hu.leastOf t) := s.lo _ (k1.mem_iff.2 (by simp))
  refine ⟨k1, k2, ⟨by rw [take_w]; exact k3, by rw [take_w]; exact s.js, fun i h2 h3 => by rw [take_w]; have := s.mx i h2 h3; omega, fun x hx => ?_, by have := s.l0; omega⟩, hlo⟩
  rw [take_w]
  have := k2 x hx
  unfold RI at this
  omega

theorem join_w {n k : Nat} {P : List Nat} {S : Int} {t : HT} (h : OkH n k P S t) (a b : Nat) : (∀ i, i < n + k → wAt (joinH t a b) i = wAt t i) ∧ wAt (joinH t a b) (n + k) = wAt t a + wAt t b := by
  refine ⟨fun i hi => getD_app_left _ _ _ (by rw [h.wl]; exact hi), ?_⟩
  unfold wAt joinH
  rw [List.getD_eq_getElem?_getD, List.getElem?_append_right (by rw [h.wl]; exact Nat.le_refl _), h.wl, Nat.sub_self]
  rfl
theorem wt_lt {n k : Nat} {P : List Nat} {S : Int} {t : HT} (h : OkH n k P S t) : ∀ x ∈ wt n k t, x < n + k := fun x hx => by
  unfold wt at hx
  rcases List.mem_append.1 hx with h2 | h2
  · have := h.leaf x h2; omega
  · have := List.mem_range'_1.1 h2; have := h.jh; omega

/-- a step: what is taken, what is left -/
structure Step (n k : Nat) (a b : Nat) (r : List Nat) (t t' : HT) : Prop where
  perm : (wt n k t).Perm (a :: b :: r)
  next : (wt n (k + 1) t').Perm ((n + k) :: r)
  old : ∀ i, i < n + k → wAt t' i = wAt t i
  new : wAt t' (n + k) = wAt t a + wAt t b
  mA : ∀ x ∈ b :: r, RI (wAt t) a x
  mB : ∀ x ∈ r, RI (wAt t) b x
  ia : t'.into.getD a 0 = ((n + k : Nat) : Int)
  ib : t'.into.getD b 0 = ((n + k : Nat) : Int)
  io : ∀ i, i < n + k → i ∉ wt n k t → t'.into.getD i 0 = t.into.getD i 0
theorem step_all {n k : Nat} {S last : Int} {t : HT} (h : OkH n k [] S t) (s : Srt n k last t) (hk : k + 2 ≤ n) : ∃ last', Srt n (k + 1) last' (stepH t) ∧ Step n k (Hu.leastOf t) (Hu.leastOf (taken t)) (wt n k (taken (taken t))) t (stepH t) := by
  obtain ⟨h1, a1, h2, a2, h3, _⟩ := step_ok h hk
  have hl := h.left
  have hl1 := h1.left
  simp only [List.length_cons, List.length_nil] at hl hl1
  obtain ⟨p1, m1, s1, q1⟩ := take_min h s (by omega)
  obtain ⟨p2, m2, s2, q2⟩ := take_min h1 s1 (by omega)
  rw [take_w] at m2 s2 q2
  have w2 : wAt (taken (taken t)) = wAt t := by rw [take_w, take_w]
  unfold stepH at h3 ⊢
  generalize Hu.leastOf t = a at *
  generalize Hu.leastOf (taken t) = b at *
  obtain ⟨jo, jn⟩ := join_w h2 a b
  rw [w2] at jo jn
  have hjh := h2.jh
  have hjl := h2.jl
  have nx : wt n (k + 1) (joinH (taken (taken t)) a b) = wt n k (taken (taken t)) ++ [n + k] := by
    unfold wt
    show (taken (taken t)).leaves ++ List.range' (taken (taken t)).joined (n + (k + 1) - (taken (taken t)).joined) = _
    rw [show n + (k + 1) - (taken (taken t)).joined = (n + k - (taken (taken t)).joined) + 1 by omega, List.range'_concat, ← List.append_assoc]
    rw [show (taken (taken t)).joined + 1 * (n + k - (taken (taken t)).joined) = n + k by omega]
  have hb1 : b ∈ wt n k (taken t) := p2.mem_iff.2 (by simp)
  have hpos := fun i hi => (h.pos i hi).1
  have pa := hpos a a1
  have hl0 := s.l0
  refine ⟨wAt t b, ⟨?_, fun i j hi hij hj => ?_, fun i hi hj => ?_, fun x hx => ?_, by omega⟩, ⟨p1.trans (p2.cons a), by rw [nx]; exact List.perm_append_singleton _ _, jo, jn, fun x hx => m1 x (p2.mem_iff.2 hx), m2, ?_, ?_, fun i hi hn => ?_⟩⟩
  · have hp := s2.ls
    rw [w2] at hp
    refine hp.imp_of_mem (S := RI (wAt (joinH (taken (taken t)) a b))) fun {x y} hx hy hr => ?_
    have := h2.leaf x hx
    have := h2.leaf y hy
    unfold RI at hr ⊢
    rw [jo x (by omega), jo y (by omega)]
    exact hr
  · by_cases e : j < n + k
    · rw [jo i (by omega), jo j e]
      exact s.js i j hi hij e
    · obtain rfl : j = n + k := by omega
      by_cases e2 : i < n + k
      · rw [jo i e2, jn]
        have := s.mx i hi e2
        omega
      · obtain rfl : i = n + k := by omega
        omega
  · by_cases e : i < n + k
    · rw [jo i e]
      have := s.mx i hi e
      omega
    · obtain rfl : i = n + k := by omega
      rw [jn]
      omega
  · rw [nx] at hx
    rcases List.mem_append.1 hx with q | q
    · rw [jo x (wt_lt h2 x q)]
      have := m2 x q
      unfold RI at this
      omega
    · obtain rfl : x = n + k := by simpa using q
      rw [jn]
      omega
  all_goals
    have e1 : ∀ i, i < n + k → (joinH (taken (taken t)) a b).into.getD i 0 = if i = b then ((n + k : Nat) : Int) else if i = a then ((n + k : Nat) : Int) else t.into.getD i 0 := fun i hi => by
      have il : (taken (taken t)).into.length = n + k := h2.il
      have ti : (taken (taken t)).into = t.into := by unfold taken; split <;> split <;> rfl
      unfold joinH
      simp only
      rw [getD_app_left _ _ _ (by simp [il]; exact hi), getD_setI, getD_setI, h2.wl, ti]
      rw [ti] at il
      simp only [List.length_set, il]
      by_cases eb : i = b
      · subst eb; simp [hi]
      · by_cases ea : i = a
        · subst ea; simp [hi, eb, Ne.symm eb]
        · simp [ea, eb, Ne.symm ea, Ne.symm eb]
  · rw [e1 a a1]; split <;> simp
  · rw [e1 b a2, if_pos rfl]
  · have hb : b ∈ wt n k t := p1.mem_iff.2 (by simp [hb1])
    have ha : a ∈ wt n k t := p1.mem_iff.2 (by simp)
    rw [e1 i hi, if_neg (fun e => hn (by rw [e]; exact hb)), if_neg (fun e => hn (by rw [e]; exact ha))]

theorem run_all {ws : List Int} {D : List Nat} (hN : 2 ≤ ws.length) (hp : D.Perm (List.range ws.length)) (hs : D.Pairwise (RI (keyW ws))) (hw : ∀ x ∈ ws, 0 ≤ x) : ∀ k, k + 1 ≤ ws.length → OkH ws.length k [] (sumI ws) (runH k (Start ws D)) ∧ ∃ last, Srt ws.length k last (runH k (Start ws D)) := by
  intro k
  induction k with
  | zero =>
    intro _
    have h0 := start_ok hp hw rfl
    refine ⟨h0, 0, hs, fun i j h1 h2 h3 => by omega, fun i h1 h2 => by omega, fun x hx => (h0.pos x (wt_lt h0 x hx)).1, Int.le_refl _⟩
  | succ k ih =>
    intro hk
    obtain ⟨h, last, s⟩ := ih (by omega)
    rw [run_succ]
    obtain ⟨last', s', _⟩ := step_all h s hk
    exact ⟨(step_ok h hk).2.2.2.2.1, last', s'⟩
theorem run_step {ws : List Int} {D : List Nat} (hN : 2 ≤ ws.length) (hp : D.Perm (List.range ws.length)) (hs : D.Pairwise (RI (keyW ws))) (hw : ∀ x ∈ ws, 0 ≤ x) (k : Nat) (hk : k + 2 ≤ ws.length) :
    Step ws.length k (Hu.leastOf (runH k (Start ws D))) (Hu.leastOf (taken (runH k (Start ws D)))) (wt ws.length k (taken (taken (runH k (Start ws D))))) (runH k (Start ws D)) (runH (k + 1) (Start ws D)) := by
  obtain ⟨h, last, s⟩ := run_all hN hp hs hw k (by omega)
  obtain ⟨last', _, r⟩ := step_all h s hk
  rw [run_succ]
  exact r

/-- the merging of N weights: w: the weights of all trees; I: into which one each is joined; A, B: the two that are taken at each step; X: what waits; R: what is left -/
structure Merge (N : Nat) (w : Nat → Int) (I : Nat → Nat) (A B : Nat → Nat) (X R : Nat → List Nat) : Prop where
  two : 2 ≤ N
  x0 : (X 0).Perm (List.range N)
  st : ∀ k, k + 2 ≤ N → (X k).Perm (A k :: B k :: R k)
  nx : ∀ k, k + 2 ≤ N → (X (k + 1)).Perm ((N + k) :: R k)
  wn : ∀ k, k + 2 ≤ N → w (N + k) = w (A k) + w (B k)
  ia : ∀ k, k + 2 ≤ N → I (A k) = N + k
  ib : ∀ k, k + 2 ≤ N → I (B k) = N + k
  mA : ∀ k, k + 2 ≤ N → ∀ x ∈ B k :: R k, RI w (A k) x
  mB : ∀ k, k + 2 ≤ N → ∀ x ∈ R k, RI w (B k) x
  mono : ∀ i j, N ≤ i → i ≤ j → j ≤ 2 * N - 2 → w i ≤ w j
  pos : ∀ i, i ≤ 2 * N - 2 → 0 ≤ w i
section
variable {N : Nat} {X R : Nat → List Nat} {A B : Nat → Nat}
theorem x_lt (x0 : (X 0).Perm (List.range N)) (st : ∀ k, k + 2 ≤ N → (X k).Perm (A k :: B k :: R k)) (nx : ∀ k, k + 2 ≤ N → (X (k + 1)).Perm ((N + k) :: R k)) : ∀ k, k + 1 ≤ N → (∀ x ∈ X k, x < N + k) ∧ (X k).Nodup ∧ (X k).length = N - k := by
  intro k
  induction k with
  | zero =>
    intro _
    exact ⟨fun x hx => by have := List.mem_range.1 (x0.mem_iff.1 hx); omega, x0.nodup_iff.2 List.nodup_range, by rw [x0.length_eq, List.length_range]; omega⟩
  | succ k ih =>
    intro hk
    obtain ⟨h1, h2, h3⟩ := ih (by omega)
    have p := st k hk
    have q := nx k hk
    have hr : ∀ x ∈ R k, x ∈ X k := fun x hx => p.mem_iff.2 (by simp [hx])
    have hnd := p.nodup_iff.1 h2
    refine ⟨fun x hx => ?_, q.nodup_iff.2 (List.nodup_cons.2 ⟨fun hm => ?_, (List.nodup_cons.1 (List.nodup_cons.1 hnd).2).2⟩), ?_⟩
    · rcases List.mem_cons.1 (q.mem_iff.1 hx) with e | e
      · omega
      · have := h1 x (hr x e); omega
    · have := h1 _ (hr _ hm); omega
    · have l1 := p.length_eq
      have l2 := q.length_eq
      simp only [List.length_cons] at l1 l2
      omega
end
theorem merge_of {ws : List Int} {D : List Nat} (hN : 2 ≤ ws.length) (hp : D.Perm (List.range ws.length)) (hs : D.Pairwise (RI (keyW ws))) (hw : ∀ x ∈ ws, 0 ≤ x) : ∃ A B X R, Merge ws.length (wAt (treeOf ws D)) (fun i => ((treeOf ws D).into.getD i 0).toNat) A B X R ∧ ∀ i, i < ws.length → wAt (treeOf ws D) i = ws.getD i 0 := by
  have all := run_all hN hp hs hw
  have stp := run_step hN hp hs hw
  have wfin : ∀ d k, k + d + 1 = ws.length → ∀ i, i < ws.length + k → wAt (treeOf ws D) i = wAt (runH k (Start ws D)) i := by
    intro d
    induction d with
    | zero =>
      intro k hk i hi
      unfold treeOf
      rw [show ws.length - 1 = k by omega]
    | succ d ih =>
      intro k hk i hi
      rw [ih (k + 1) (by omega) i (by omega)]
      exact (stp k (by omega)).old i hi
  have x0 : (wt ws.length 0 (runH 0 (Start ws D))).Perm (List.range ws.length) := by
    show (D ++ List.range' ws.length (ws.length + 0 - ws.length)).Perm _
    rw [Nat.add_zero, Nat.sub_self, List.range'_zero, List.append_nil]
    exact hp
  have xl := x_lt (X := fun k => wt ws.length k (runH k (Start ws D))) (R := fun k => wt ws.length k (taken (taken (runH k (Start ws D))))) (A := fun k => Hu.leastOf (runH k (Start ws D))) (B := fun k => Hu.leastOf (taken (runH k (Start ws D)))) x0 (fun k hk => (stp k hk).perm) (fun k hk => (stp k hk).next)
  have ifin : ∀ d k, k + d + 1 = ws.length → ∀ i, i < ws.length + k → i ∉ wt ws.length k (runH k (Start ws D)) → (treeOf ws D).into.getD i 0 = (runH k (Start ws D)).into.getD i 0 := by
    intro d
    induction d with
    | zero =>
      intro k hk i hi _
      unfold treeOf
      rw [show ws.length - 1 = k by omega]
    | succ d ih =>
      intro k hk i hi hn
      have s := stp k (by omega)
      rw [ih (k + 1) (by omega) i (by omega) (fun hm => ?_)]
      · exact s.io i hi hn
      · rcases List.mem_cons.1 (s.next.mem_iff.1 hm) with e | e
        · omega
        · exact hn (s.perm.mem_iff.2 (by simp [e]))
  have taken_ab : ∀ k, k + 2 ≤ ws.length → Hu.leastOf (runH k (Start ws D)) < ws.length + k ∧ Hu.leastOf (taken (runH k (Start ws D))) < ws.length + k ∧ Hu.leastOf (runH k (Start ws D)) ∉ wt ws.length (k + 1) (runH (k + 1) (Start ws D)) ∧ Hu.leastOf (taken (runH k (Start ws D))) ∉ wt ws.length (k + 1) (runH (k + 1) (Start ws D)) := by
    intro k hk
    have s := stp k hk
    obtain ⟨l1, l2, _⟩ := xl k (by omega)
    have la := l1 (Hu.leastOf (runH k (Start ws D))) (s.perm.mem_iff.2 (by simp))
    have lb := l1 (Hu.leastOf (taken (runH k (Start ws D)))) (s.perm.mem_iff.2 (by simp))
    have hnd := s.perm.nodup_iff.1 l2
    rw [List.nodup_cons, List.nodup_cons] at hnd
    refine ⟨la, lb, fun hm => ?_, fun hm => ?_⟩
    · rcases List.mem_cons.1 (s.next.mem_iff.1 hm) with e | e
      · omega
      · exact hnd.1 (by simp [e])
    · rcases List.mem_cons.1 (s.next.mem_iff.1 hm) with e | e
      · omega
      · exact hnd.2.1 e
  have wk : ∀ k, k + 2 ≤ ws.length → ∀ i, i < ws.length + k → wAt (treeOf ws D) i = wAt (runH k (Start ws D)) i := fun k hk => wfin (ws.length - 1 - k) k (by omega)
  refine ⟨fun k => Hu.leastOf (runH k (Start ws D)), fun k => Hu.leastOf (taken (runH k (Start ws D))), fun k => wt ws.length k (runH k (Start ws D)), fun k => wt ws.length k (taken (taken (runH k (Start ws D)))), ⟨hN, x0, fun k hk => (stp k hk).perm, fun k hk => (stp k hk).next, fun k hk => ?_, fun k hk => ?_, fun k hk => ?_, fun k hk x hx => ?_, fun k hk x hx => ?_, fun i j h1 h2 h3 => ?_, fun i hi => ?_⟩, fun i hi => ?_⟩
  · obtain ⟨la, lb, _⟩ := taken_ab k hk
    rw [wfin (ws.length - 1 - (k + 1)) (k + 1) (by omega) _ (by omega), (stp k hk).new, wk k hk _ la, wk k hk _ lb]
  · obtain ⟨la, lb, na, nb⟩ := taken_ab k hk
    show ((treeOf ws D).into.getD _ 0).toNat = _
    rw [ifin (ws.length - 1 - (k + 1)) (k + 1) (by omega) _ (by omega) na, (stp k hk).ia]
    omega
  · obtain ⟨la, lb, na, nb⟩ := taken_ab k hk
    show ((treeOf ws D).into.getD _ 0).toNat = _
    rw [ifin (ws.length - 1 - (k + 1)) (k + 1) (by omega) _ (by omega) nb, (stp k hk).ib]
    omega
  · obtain ⟨la, lb, na, nb⟩ := taken_ab k hk
    have := (stp k hk).mA x hx
    have hx2 := (xl k (by omega)).1 x ((stp k hk).perm.mem_iff.2 (List.mem_cons_of_mem _ hx))
    unfold RI at this ⊢
    rw [wk k hk _ la, wk k hk _ hx2]
    exact this
  · obtain ⟨la, lb, na, nb⟩ := taken_ab k hk
    have := (stp k hk).mB x hx
    have hx2 := (xl k (by omega)).1 x ((stp k hk).perm.mem_iff.2 (List.mem_cons_of_mem _ (List.mem_cons_of_mem _ hx)))
    unfold RI at this ⊢
    rw [wk k hk _ lb, wk k hk _ hx2]
    exact this
  · obtain ⟨h, last, s⟩ := all (ws.length - 1) (by omega)
    exact s.js i j h1 h2 (by omega)
  · obtain ⟨h, last, s⟩ := all (ws.length - 1) (by omega)
    exact (h.pos i (by omega)).1
  · rw [wk 0 (by omega) i (by omega)]
    rfl

end Go.Proofs.YtdagfcflbphoiaaDoor
/- The merging of weights: what depths come to. No program in sight. -/
namespace Go.Proofs.YtdagfcflbphoiaaDoor
set_option linter.unusedVariables false
set_option linter.unusedSimpArgs false
open Hu

theorem sumI_perm {a b : List Int} (h : a.Perm b) : sumI a = sumI b := by
  induction h with
  | nil => rfl
  | cons x _ ih => simp only [sumI, ih]
  | swap x y l => simp only [sumI]; omega
  | trans _ _ ih1 ih2 => exact ih1.trans ih2

section
variable {N : Nat} {w : Nat → Int} {I A B : Nat → Nat} {X R : Nat → List Nat}
theorem Merge.lt (m : Merge N w I A B X R) {k : Nat} (hk : k + 1 ≤ N) {x : Nat} (hx : x ∈ X k) : x < N + k := (x_lt m.x0 m.st m.nx k hk).1 x hx
theorem Merge.len (m : Merge N w I A B X R) {k : Nat} (hk : k + 1 ≤ N) : (X k).length = N - k := (x_lt m.x0 m.st m.nx k hk).2.2
theorem Merge.last (m : Merge N w I A B X R) : X (N - 1) = [2 * N - 2] := by
  have hN := m.two
  have hl := m.len (k := N - 1) (by omega)
  have hx : 2 * N - 2 ∈ X (N - 1) := by
    have := m.nx (N - 2) (by omega)
    rw [show N - 2 + 1 = N - 1 by omega] at this
    exact this.mem_iff.2 (by rw [show N + (N - 2) = 2 * N - 2 by omega]; simp)
  obtain ⟨y, hy⟩ := List.length_eq_one_iff.1 (show (X (N - 1)).length = 1 by omega)
  rw [hy] at hx ⊢
  rw [List.mem_singleton.1 hx]
theorem Merge.aX (m : Merge N w I A B X R) {k : Nat} (hk : k + 2 ≤ N) : A k ∈ X k ∧ B k ∈ X k ∧ (∀ x ∈ R k, x ∈ X k) ∧ (∀ x ∈ R k, x ∈ X (k + 1)) ∧ N + k ∈ X (k + 1) := by
  have p := m.st k hk
  have q := m.nx k hk
  exact ⟨p.mem_iff.2 (by simp), p.mem_iff.2 (by simp), fun x hx => p.mem_iff.2 (by simp [hx]), fun x hx => q.mem_iff.2 (by simp [hx]), q.mem_iff.2 (by simp)⟩
theorem Merge.in_or (m : Merge N w I A B X R) : ∀ k, k + 1 ≤ N → ∀ p, p < N + k → p ∈ X k ∨ I p < N + k := by
  intro k
  induction k with
  | zero => intro _ p hp; exact .inl (m.x0.mem_iff.2 (List.mem_range.2 (by omega)))
  | succ k ih =>
    intro hk p hp
    obtain ⟨h1, h2, h3, h4, h5⟩ := m.aX hk
    by_cases e : p = N + k
    · exact .inl (by rw [e]; exact h5)
    · rcases ih (by omega) p (by omega) with q | q
      · rcases List.mem_cons.1 ((m.st k hk).mem_iff.1 q) with r | r
        · right; rw [r, m.ia k hk]; omega
        · rcases List.mem_cons.1 r with r | r
          · right; rw [r, m.ib k hk]; omega
          · exact .inl (h4 p r)
      · right; omega
theorem Merge.ge (m : Merge N w I A B X R) : ∀ d k, k + d + 1 = N → ∀ x ∈ X k, x = 2 * N - 2 ∨ N + k ≤ I x := by
  intro d
  induction d with
  | zero =>
    intro k hk x hx
    have := m.last
    rw [show N - 1 = k by omega] at this
    rw [this] at hx
    exact .inl (List.mem_singleton.1 hx)
  | succ d ih =>
    intro k hk x hx
    have hk2 : k + 2 ≤ N := by omega
    rcases List.mem_cons.1 ((m.st k hk2).mem_iff.1 hx) with r | r
    · right; rw [r, m.ia k hk2]; exact Nat.le_refl _
    · rcases List.mem_cons.1 r with r | r
      · right; rw [r, m.ib k hk2]; exact Nat.le_refl _
      · rcases ih (k + 1) (by omega) x ((m.aX hk2).2.2.2.1 x r) with q | q
        · exact .inl q
        · right; omega
theorem Merge.ge' (m : Merge N w I A B X R) {k : Nat} (hk : k + 1 ≤ N) {x : Nat} (hx : x ∈ X k) (hr : x ≠ 2 * N - 2) : N + k ≤ I x := (m.ge (N - 1 - k) k (by omega) x hx).resolve_left hr
theorem Merge.up (m : Merge N w I A B X R) {i : Nat} (hi : i < 2 * N - 2) : i < I i ∧ I i ≤ 2 * N - 2 ∧ N ≤ I i := by
  have hN := m.two
  have h1 : I i ≤ 2 * N - 2 := by
    rcases m.in_or (N - 1) (by omega) i (by omega) with q | q
    · rw [m.last] at q
      have := List.mem_singleton.1 q
      omega
    · omega
  by_cases hl : i < N
  · have := m.ge' (k := 0) (by omega) (m.x0.mem_iff.2 (List.mem_range.2 hl)) (by omega)
    omega
  · have := m.ge' (k := i - N + 1) (by omega) (x := i) (by have := (m.aX (k := i - N) (by omega)).2.2.2.2; rwa [show N + (i - N) = i by omega] at this) (by omega)
    omega
theorem Merge.inv (m : Merge N w I A B X R) {q k : Nat} (hk : k + 2 ≤ N) (hq : q < 2 * N - 2) (h : I q = N + k) : q ∈ X k ∧ (q = A k ∨ q = B k) := by
  have hu := (m.up hq).1
  have h1 : q ∈ X k := by
    rcases m.in_or k (by omega) q (by omega) with r | r
    · exact r
    · omega
  refine ⟨h1, ?_⟩
  rcases List.mem_cons.1 ((m.st k hk).mem_iff.1 h1) with r | r
  · exact .inl r
  · rcases List.mem_cons.1 r with r | r
    · exact .inr r
    · have := m.ge' (k := k + 1) (by omega) ((m.aX hk).2.2.2.1 q r) (by omega)
      omega
/-- what was made later is no deeper -/
theorem Merge.mid (m : Merge N w I A B X R) {dep : Nat → Nat} (d0 : dep (2 * N - 2) = 0) (d1 : ∀ i, i < 2 * N - 2 → dep i = dep (I i) + 1) : ∀ f p q, 2 * N - 2 - p ≤ f → N ≤ p → p ≤ q → q ≤ 2 * N - 2 → dep q ≤ dep p := by
  intro f
  induction f with
  | zero =>
    intro p q hf h1 h2 h3
    obtain rfl : p = q := by omega
    exact Nat.le_refl _
  | succ f ih =>
    intro p q hf h1 h2 h3
    by_cases e : q = 2 * N - 2
    · rw [e, d0]; omega
    by_cases e2 : p = q
    · rw [e2]; exact Nat.le_refl _
    rw [d1 p (by omega), d1 q (by omega)]
    have up := m.up (show p < 2 * N - 2 by omega)
    have uq := m.up (show q < 2 * N - 2 by omega)
    have hle : I p ≤ I q := by
      obtain ⟨k, hk⟩ : ∃ k, I q = N + k := ⟨I q - N, by omega⟩
      have hk2 : k + 2 ≤ N := by omega
      obtain ⟨hx, hab⟩ := m.inv hk2 (by omega) hk
      have hlt := m.lt (by omega) hx
      rw [hk]
      rcases m.in_or k (by omega) p (by omega) with r | r
      · rcases List.mem_cons.1 ((m.st k hk2).mem_iff.1 r) with s | s
        · rw [s, m.ia k hk2]; exact Nat.le_refl _
        · rcases List.mem_cons.1 s with s | s
          · rw [s, m.ib k hk2]; exact Nat.le_refl _
          · have hRI : RI w q p := by
              rcases hab with t | t
              · rw [t]; exact m.mA k hk2 p (List.mem_cons_of_mem _ s)
              · rw [t]; exact m.mB k hk2 p s
            have := m.mono p q h1 h2 h3
            unfold RI at hRI
            omega
      · omega
    have := ih (I p) (I q) (by omega) (by omega) hle (by omega)
    omega
/-- of two symbols the one with the greater weight has no greater depth -/
theorem Merge.order (m : Merge N w I A B X R) {dep : Nat → Nat} (d0 : dep (2 * N - 2) = 0) (d1 : ∀ i, i < 2 * N - 2 → dep i = dep (I i) + 1) {x y : Nat} (hx : x < N) (hy : y < N) (hw : w y < w x) : dep x ≤ dep y := by
  have hN := m.two
  have ux := m.up (show x < 2 * N - 2 by omega)
  have uy := m.up (show y < 2 * N - 2 by omega)
  obtain ⟨k, hk⟩ : ∃ k, I y = N + k := ⟨I y - N, by omega⟩
  have hk2 : k + 2 ≤ N := by omega
  have hge : N + k ≤ I x := by
    rcases m.in_or k (by omega) x (by omega) with r | r
    · exact m.ge' (by omega) r (by omega)
    · exfalso
      obtain ⟨j, hj⟩ : ∃ j, I x = N + j := ⟨I x - N, by omega⟩
      obtain ⟨hxj, hab⟩ := m.inv (by omega) (by omega) hj
      have hyj : y ∈ X j := by
        rcases m.in_or j (by omega) y (by omega) with s | s
        · exact s
        · omega
      have hj2 : j + 2 ≤ N := by omega
      have hRI : RI w x y := by
        rcases List.mem_cons.1 ((m.st j hj2).mem_iff.1 hyj) with s | s
        · have := m.ia j hj2; rw [← s] at this; omega
        · rcases List.mem_cons.1 s with t | t
          · have := m.ib j hj2; rw [← t] at this; omega
          · rcases hab with u | u
            · rw [u]; exact m.mA j hj2 y s
            · rw [u]; exact m.mB j hj2 y t
      unfold RI at hRI
      omega
  rw [d1 x (by omega), d1 y (by omega), hk]
  have := m.mid d0 d1 (2 * N) (N + k) (I x) (by omega) (by omega) hge (by omega)
  omega
/-- depths are bounded by how many trees there are -/
theorem Merge.dep_le (m : Merge N w I A B X R) {dep : Nat → Nat} (d0 : dep (2 * N - 2) = 0) (d1 : ∀ i, i < 2 * N - 2 → dep i = dep (I i) + 1) : ∀ f i, 2 * N - 2 - i ≤ f → i ≤ 2 * N - 2 → dep i ≤ 2 * N - 2 - i := by
  intro f
  induction f with
  | zero => intro i h1 h2; obtain rfl : i = 2 * N - 2 := by omega
            rw [d0]; omega
  | succ f ih =>
    intro i h1 h2
    by_cases e : i = 2 * N - 2
    · rw [e, d0]; omega
    · have u := m.up (show i < 2 * N - 2 by omega)
      have := ih (I i) (by omega) (by omega)
      rw [d1 i (by omega)]
      omega
/-- a sum over what waits that no join changes -/
theorem Merge.keeps (m : Merge N w I A B X R) (f : Nat → Int) (hf : ∀ k, k + 2 ≤ N → f (A k) + f (B k) = f (N + k)) : ∀ k, k + 1 ≤ N → sumI ((X k).map f) = f (2 * N - 2) := by
  have hN := m.two
  have : ∀ d k, k + d + 1 = N → sumI ((X k).map f) = f (2 * N - 2) := by
    intro d
    induction d with
    | zero =>
      intro k hk
      have := m.last
      rw [show N - 1 = k by omega] at this
      rw [this]
      simp [sumI]
    | succ d ih =>
      intro k hk
      have hk2 : k + 2 ≤ N := by omega
      have h1 := ih (k + 1) (by omega)
      rw [sumI_perm ((m.nx k hk2).map f)] at h1
      rw [sumI_perm ((m.st k hk2).map f)]
      simp only [List.map_cons, sumI] at h1 ⊢
      have := hf k hk2
      omega
  exact fun k hk => this (N - 1 - k) k (by omega)
theorem Merge.ab_lt (m : Merge N w I A B X R) {k : Nat} (hk : k + 2 ≤ N) : A k < 2 * N - 2 ∧ B k < 2 * N - 2 := by
  have h := m.aX hk
  have := m.lt (by omega) h.1
  have := m.lt (by omega) h.2.1
  omega
theorem Merge.dep_ab (m : Merge N w I A B X R) {dep : Nat → Nat} (d1 : ∀ i, i < 2 * N - 2 → dep i = dep (I i) + 1) {k : Nat} (hk : k + 2 ≤ N) : dep (A k) = dep (N + k) + 1 ∧ dep (B k) = dep (N + k) + 1 := by
  have h := m.ab_lt hk
  rw [d1 _ h.1, d1 _ h.2, m.ia k hk, m.ib k hk]
  exact ⟨rfl, rfl⟩
/-- the share of all depths -/
theorem Merge.kraft (m : Merge N w I A B X R) {dep : Nat → Nat} (d0 : dep (2 * N - 2) = 0) (d1 : ∀ i, i < 2 * N - 2 → dep i = dep (I i) + 1) (M : Nat) (hM : 2 * N ≤ M) : sumI ((List.range N).map fun i => (2 : Int) ^ (M - dep i)) = 2 ^ M := by
  have hN := m.two
  have h := m.keeps (fun i => (2 : Int) ^ (M - dep i)) (fun k hk => by
    obtain ⟨e1, e2⟩ := m.dep_ab d1 hk
    have hb := m.dep_le d0 d1 (2 * N) (N + k) (by omega) (by omega)
    show (2 : Int) ^ (M - dep (A k)) + 2 ^ (M - dep (B k)) = 2 ^ (M - dep (N + k))
    rw [e1, e2, show M - dep (N + k) = (M - (dep (N + k) + 1)) + 1 by omega, Int.pow_succ]
    omega) 0 (by omega)
  rw [sumI_perm (m.x0.map _), d0] at h
  exact h
end
end Go.Proofs.YtdagfcflbphoiaaDoor
/- Depths as a plain function of weights, and what they obey. No program in sight. -/
namespace Go.Proofs.YtdagfcflbphoiaaDoor
set_option linter.unusedVariables false
set_option linter.unusedSimpArgs false
open Hu

theorem fill_keep (into : List Int) : ∀ (i : Nat) (out : List Int) (j : Nat), i ≤ j → (fillD into i out).getD j 0 = out.getD j 0
  | 0, out, j, _ => rfl
  | i + 1, out, j, h => by
    unfold fillD
    rw [fill_keep into i _ j (by omega), getD_setI, if_neg (by omega)]
theorem fill_rec (into : List Int) (T : Nat) : ∀ (i : Nat) (out : List Int), out.length = T → i ≤ T → (∀ j, j < i → j < (into.getD j 0).toNat ∧ (into.getD j 0).toNat < T) → ∀ j, j < i → (fillD into i out).getD j 0 = (fillD into i out).getD (into.getD j 0).toNat 0 + 1
  | 0, out, _, _, _, j, hj => by omega
  | i + 1, out, hl, hi, hin, j, hj => by
    have h0 := hin i (by omega)
    unfold fillD
    by_cases e : j = i
    · subst e
      rw [fill_keep into j _ j (by omega), fill_keep into j _ _ (by omega), getD_setI, getD_setI, if_pos ⟨rfl, by omega⟩, if_neg (by omega)]
    · exact fill_rec into T i _ (by rw [List.length_set]; exact hl) (by omega) (fun j hj => hin j (by omega)) j (by omega)
theorem fill_pos (into : List Int) : ∀ (i : Nat) (out : List Int), (∀ j, 0 ≤ out.getD j 0) → ∀ j, 0 ≤ (fillD into i out).getD j 0
  | 0, out, h, j => h j
  | i + 1, out, h, j => by
    unfold fillD
    refine fill_pos into i _ (fun j => ?_) j
    rw [getD_setI]
    have := h j
    have := h (into.getD i 0).toNat
    split <;> omega

/-- the merging of weights and the depths that come of it -/
structure Deps (ws : List Int) (D : List Nat) (w : Nat → Int) (I A B : Nat → Nat) (X R : Nat → List Nat) (dep : Nat → Nat) : Prop where
  m : Merge ws.length w I A B X R
  d0 : dep (2 * ws.length - 2) = 0
  d1 : ∀ i, i < 2 * ws.length - 2 → dep i = dep (I i) + 1
  ww : ∀ i, i < ws.length → w i = ws.getD i 0
  eq : depthsP ws D = (List.range ws.length).map fun i => (dep i : Int)
theorem deps_of {ws : List Int} {D : List Nat} (hN : 2 ≤ ws.length) (hp : D.Perm (List.range ws.length)) (hs : D.Pairwise (RI (keyW ws))) (hw : ∀ x ∈ ws, 0 ≤ x) : ∃ w I A B X R dep, Deps ws D w I A B X R dep := by
  obtain ⟨A, B, X, R, m, ww⟩ := merge_of hN hp hs hw
  obtain ⟨out, hout⟩ : ∃ out, fillD (treeOf ws D).into (2 * ws.length - 2) (List.replicate (2 * ws.length - 1) 0) = out := ⟨_, rfl⟩
  have hpos : ∀ j, 0 ≤ out.getD j 0 := by
    rw [← hout]
    refine fill_pos _ _ _ fun j => ?_
    rw [List.getD_eq_getElem?_getD, List.getElem?_replicate]
    split <;> simp
  have hlen : out.length = 2 * ws.length - 1 := by rw [← hout, fillD_len, List.length_replicate]
  refine ⟨_, _, A, B, X, R, fun i => (out.getD i 0).toNat, m, ?_, fun i hi => ?_, ww, ?_⟩
  · rw [← hout, fill_keep _ _ _ _ (Nat.le_refl _), List.getD_eq_getElem?_getD, List.getElem?_replicate]
    split <;> rfl
  · have h1 := fill_rec (treeOf ws D).into (2 * ws.length - 1) (2 * ws.length - 2) (List.replicate (2 * ws.length - 1) 0) (by rw [List.length_replicate]) (by omega) (fun j hj => by
      have := m.up hj
      omega) i hi
    rw [hout] at h1
    have := hpos ((treeOf ws D).into.getD i 0).toNat
    show (out.getD i 0).toNat = (out.getD ((treeOf ws D).into.getD i 0).toNat 0).toNat + 1
    rw [h1]
    omega
  · unfold depthsP
    rw [hout]
    apply List.ext_getElem
    · simp [hlen]; omega
    · intro i h1 h2
      have h3 : i < ws.length := by simpa using h2
      have := hpos i
      rw [List.getD_eq_getElem?_getD, List.getElem?_eq_getElem (by omega)] at this
      simp only [List.getElem_take, List.getElem_map, List.getElem_range]
      rw [List.getD_eq_getElem?_getD, List.getElem?_eq_getElem (by omega)]
      simp only [Option.getD_some] at this ⊢
      omega

theorem sorted_one {k : Nat → Int} : ∀ {a b : List Nat}, a.Perm b → a.Pairwise (RI k) → b.Pairwise (RI k) → a = b
  | [], b, h, _, _ => (List.nil_perm.1 h).symm
  | x :: a, [], h, _, _ => by simp at h
  | x :: a, y :: b, h, h1, h2 => by
    have h1' := List.pairwise_cons.1 h1
    have h2' := List.pairwise_cons.1 h2
    have e : x = y := by
      have m1 : x ∈ y :: b := h.mem_iff.1 (by simp)
      have m2 : y ∈ x :: a := h.mem_iff.2 (by simp)
      rcases List.mem_cons.1 m1 with e | e
      · exact e
      · rcases List.mem_cons.1 m2 with e2 | e2
        · exact e2.symm
        · have r1 := h2'.1 x e
          have r2 := h1'.1 y e2
          unfold RI at r1 r2
          omega
    subst e
    rw [sorted_one h.cons_inv h1'.2 h2'.2]
def Sorts (ws : List Int) (D : List Nat) : Prop := D.Perm (List.range ws.length) ∧ D.Pairwise (RI (keyW ws))
theorem Sorts.one {ws : List Int} {D E : List Nat} (h : Sorts ws D) (k : Sorts ws E) : D = E := sorted_one (h.1.trans k.1.symm) h.2 k.2
open Classical in
noncomputable def sortD (ws : List Int) : List Nat := if h : ∃ D, Sorts ws D then h.choose else []
theorem Sorts.eq {ws : List Int} {D : List Nat} (h : Sorts ws D) : sortD ws = D := by
  unfold sortD
  have hx : ∃ D, Sorts ws D := ⟨D, h⟩
  rw [dif_pos hx]
  exact hx.choose_spec.one h
/-- the depths of weights -/
noncomputable def depF (ws : List Int) : List Int := depthsP ws (sortD ws)
theorem Sorts.dep {ws : List Int} {D : List Nat} (h : Sorts ws D) : depthsP ws D = depF ws := by unfold depF; rw [h.eq]

theorem getD_map_range {f : Nat → Int} {n i : Nat} (h : i < n) : ((List.range n).map f).getD i 0 = f i := by
  rw [List.getD_eq_getElem?_getD, List.getElem?_map, List.getElem?_range h]
  rfl
section
variable {ws : List Int} {D : List Nat} {w : Nat → Int} {I A B : Nat → Nat} {X R : Nat → List Nat} {dep : Nat → Nat}
theorem Deps.at_ (d : Deps ws D w I A B X R dep) {i : Nat} (h : i < ws.length) : (depthsP ws D).getD i 0 = dep i := by
  rw [d.eq, getD_map_range h]
theorem Deps.ge1 (d : Deps ws D w I A B X R dep) {i : Nat} (h : i < ws.length) : 1 ≤ dep i := by
  have := d.m.two
  rw [d.d1 i (by omega)]
  omega
theorem Deps.le (d : Deps ws D w I A B X R dep) {i : Nat} (h : i < ws.length) : dep i < ws.length := by
  have hN := d.m.two
  have u := d.m.up (show i < 2 * ws.length - 2 by omega)
  have := d.m.dep_le d.d0 d.d1 (2 * ws.length) (I i) (by omega) (by omega)
  rw [d.d1 i (by omega)]
  omega
theorem Deps.mem (d : Deps ws D w I A B X R dep) {P : Int → Prop} : (∀ x ∈ depthsP ws D, P x) ↔ ∀ i, i < ws.length → P (dep i) := by
  rw [d.eq]
  simp
end

/-- shares -/
def shr1 (x : Int) : Int := 2 ^ (20 - x).toNat
def shrL (xs : List Int) : Int := sumI (xs.map shr1)
theorem Deps.share {ws : List Int} {D : List Nat} {w : Nat → Int} {I A B : Nat → Nat} {X R : Nat → List Nat} {dep : Nat → Nat} (d : Deps ws D w I A B X R dep) (h : ∀ x ∈ depthsP ws D, x ≤ 20) : shrL (depthsP ws D) = 1048576 := by
  have h := d.mem.1 h
  have hN := d.m.two
  obtain ⟨M, hM⟩ : ∃ M, M = 2 * ws.length + 20 := ⟨_, rfl⟩
  have hk := d.m.kraft d.d0 d.d1 M (by omega)
  have e : ∀ l : List Nat, (∀ i ∈ l, i < ws.length) → sumI (l.map fun i => (2 : Int) ^ (M - dep i)) = 2 ^ (M - 20) * sumI (l.map fun i => shr1 (dep i)) := by
    intro l
    induction l with
    | nil => intro _; simp [sumI]
    | cons x l ih =>
      intro hl
      have hx := h x (hl x (by simp))
      simp only [List.map_cons, sumI]
      rw [ih (fun i hi => hl i (by simp [hi])), Int.mul_add]
      congr 1
      unfold shr1
      rw [← Int.pow_add]
      congr 1
      omega
  rw [e _ (fun i hi => List.mem_range.1 hi)] at hk
  unfold shrL
  rw [d.eq, List.map_map]
  have hk2 : (2 : Int) ^ M = 2 ^ (M - 20) * 1048576 := by
    rw [show (1048576 : Int) = 2 ^ 20 by rfl, ← Int.pow_add]
    congr 1
    omega
  rw [hk2] at hk
  exact Int.eq_of_mul_eq_mul_left (Int.ne_of_gt (Int.pow_pos (by omega))) hk

end Go.Proofs.YtdagfcflbphoiaaDoor
/- Depths, halved weights, shares, lengths: the program's own functions, by the second form. -/
namespace Go.Proofs.YtdagfcflbphoiaaDoor
set_option linter.unusedVariables false
set_option linter.unusedSimpArgs false
open Go.RowKit Ev Hu

/-- weights that may be -/
structure Ws (ws : List Int) : Prop where
  l2 : 2 ≤ ws.length
  l3 : ws.length ≤ 258
  lo : ∀ x ∈ ws, 0 ≤ x
  hi : ∀ x ∈ ws, x ≤ 2199023255552
theorem depF_len {ws : List Int} (h : 1 ≤ ws.length) : (depF ws).length = ws.length := depthsP_len _ _ h
theorem Ws.deps {ws : List Int} (hW : Ws ws) (so : Sorts ws (sortD ws)) : ∃ w I A B X R dep, Deps ws (sortD ws) w I A B X R dep := deps_of hW.l2 so.1 so.2 hW.lo

def halv1 (x : Int) : Int := (if x < 0 then 0 else x).tdiv 2 + 1
def halvL (xs : List Int) : List Int := xs.map halv1
theorem halvL_len (xs : List Int) : (halvL xs).length = xs.length := by unfold halvL; simp
/-- a row that is written from the front -/
def part (L : List Int) (i : Nat) : List Int := L.take i ++ List.replicate (L.length - i) 0
end Go.Proofs.YtdagfcflbphoiaaDoor
/- Layer 8 by the second form: counts, groups, sums; the program's. -/
namespace Go.Proofs.YtdagfcflbphoiaaDoor
set_option linter.unusedVariables false
set_option linter.unusedSimpArgs false
open Go.RowKit Ev Tb

section
variable (lf d n : Nat) (h : H) (hlf : 3000000 ≤ lf)
include hlf
end
end Go.Proofs.YtdagfcflbphoiaaDoor
/- Layer 8 by the second form: the reference's counts, groups, costs. -/
namespace Go.Proofs.YtdagfcflbphoiaaDoor
set_option linter.unusedVariables false
set_option linter.unusedSimpArgs false
open Go.RowKit Ev Tb

section
variable (lf d n : Nat) (h : H) (hlf : 3000000 ≤ lf)
include hlf
end
end Go.Proofs.YtdagfcflbphoiaaDoor
/- None is cheaper: depths that merging gives cost no more than any lengths whose share is no more than one. No program in sight. -/
namespace Go.Proofs.YtdagfcflbphoiaaDoor
set_option linter.unusedVariables false
set_option linter.unusedSimpArgs false
open Hu

end Go.Proofs.YtdagfcflbphoiaaDoor
/- The statements LensOrder and LensCheap, walked by the second form. -/
namespace Go.Proofs.YtdagfcflbphoiaaDoor
set_option linter.unusedVariables false
set_option linter.unusedSimpArgs false
open Go.RowKit Ev Hu

end Go.Proofs.YtdagfcflbphoiaaDoor
/- Steps on numbers, texts and rows in a form that the kernel runs quickly; each is what the evaluator's second form has. No program in sight. -/
namespace Go.Proofs.YtdagfcflbphoiaaDoor.Ev
set_option linter.unusedVariables false
set_option linter.unusedSimpArgs false
open Go Go.RowKit

def fwrap (k : IntKind) (z : Int) : Int := match k, z with
  | .i64, .ofNat m => match Nat.ble m 9223372036854775807 with
    | true => z
    | false => k.wrap z
  | .i64, .negSucc m => match Nat.ble m 9223372036854775807 with
    | true => z
    | false => k.wrap z
  | .u8, .ofNat m => .ofNat (m % 256)
  | .u32, .ofNat m => .ofNat (m % 4294967296)
  | .u64, .ofNat m => .ofNat (m % 18446744073709551616)
  | _, _ => k.wrap z
theorem fwrap_eq (k : IntKind) (z : Int) : fwrap k z = k.wrap z := by
  unfold fwrap
  split
  · rename_i m
    cases h : Nat.ble m 9223372036854775807 with
    | true =>
      have : m ≤ 9223372036854775807 := Nat.le_of_ble_eq_true h
      exact (wrap_id (x := ((m : Nat) : Int)) (by omega) (by omega)).symm
    | false => rfl
  · rename_i m
    cases h : Nat.ble m 9223372036854775807 with
    | true =>
      have : m ≤ 9223372036854775807 := Nat.le_of_ble_eq_true h
      exact (wrap_id (x := Int.negSucc m) (by omega) (by omega)).symm
    | false => rfl
  · rename_i m
    show ((m % 256 : Nat) : Int) = IntKind.u8.wrap m
    simp [IntKind.wrap, IntKind.bits, IntKind.signed]
  · rename_i m
    show ((m % 4294967296 : Nat) : Int) = IntKind.u32.wrap m
    simp [IntKind.wrap, IntKind.bits, IntKind.signed]
  · rename_i m
    show ((m % 18446744073709551616 : Nat) : Int) = IntKind.u64.wrap m
    simp [IntKind.wrap, IntKind.bits, IntKind.signed]
  · rfl
def iadd (a b : Int) : Int := match a, b with
  | .ofNat x, .ofNat y => .ofNat (Nat.add x y)
  | _, _ => a + b
theorem iadd_eq (a b : Int) : iadd a b = a + b := by unfold iadd; split <;> rfl
def isub (a b : Int) : Int := match a, b with
  | .ofNat x, .ofNat y => match Nat.ble y x with
    | true => .ofNat (Nat.sub x y)
    | false => .negSucc (Nat.sub (Nat.sub y x) 1)
  | _, _ => a - b
theorem isub_eq (a b : Int) : isub a b = a - b := by
  unfold isub
  split
  · rename_i x y
    cases h : Nat.ble y x with
    | true =>
      have := Nat.le_of_ble_eq_true h
      show ((x - y : Nat) : Int) = (x : Int) - y
      omega
    | false =>
      have : ¬ y ≤ x := fun q => by rw [Nat.ble_eq_true_of_le q] at h; cases h
      show Int.negSucc (y - x - 1) = (x : Int) - y
      omega
  · rfl
def imul (a b : Int) : Int := match a, b with
  | .ofNat x, .ofNat y => .ofNat (Nat.mul x y)
  | _, _ => a * b
theorem imul_eq (a b : Int) : imul a b = a * b := by unfold imul; split <;> rfl
def ieq (a b : Int) : Bool := match a, b with
  | .ofNat x, .ofNat y => Nat.beq x y
  | _, _ => a == b
theorem ieq_eq (a b : Int) : ieq a b = (a == b) := by
  unfold ieq
  split
  · rename_i x y
    cases h : Nat.beq x y with
    | true => rw [Nat.eq_of_beq_eq_true h]; simp
    | false =>
      have : x ≠ y := Nat.ne_of_beq_eq_false h
      symm
      rw [beq_eq_false_iff_ne]
      intro q
      exact this (Int.ofNat.inj q)
  · rfl
def ile (a b : Int) : Bool := match a, b with
  | .ofNat x, .ofNat y => Nat.ble x y
  | _, _ => decide (a ≤ b)
theorem ile_eq (a b : Int) : ile a b = decide (a ≤ b) := by
  unfold ile
  split
  · rename_i x y
    cases h : Nat.ble x y with
    | true =>
      have := Nat.le_of_ble_eq_true h
      symm
      rw [decide_eq_true_eq]
      show (x : Int) ≤ y
      omega
    | false =>
      have : ¬ x ≤ y := fun q => by rw [Nat.ble_eq_true_of_le q] at h; cases h
      symm
      rw [decide_eq_false_iff_not]
      show ¬ ((x : Int) ≤ y)
      omega
  · rfl
def ilt (a b : Int) : Bool := match a, b with
  | .ofNat x, .ofNat y => Nat.ble (Nat.succ x) y
  | _, _ => decide (a < b)
theorem ilt_eq (a b : Int) : ilt a b = decide (a < b) := by
  unfold ilt
  split
  · rename_i x y
    cases h : Nat.ble (Nat.succ x) y with
    | true =>
      have := Nat.le_of_ble_eq_true h
      symm
      rw [decide_eq_true_eq]
      show (x : Int) < y
      omega
    | false =>
      have : ¬ Nat.succ x ≤ y := fun q => by rw [Nat.ble_eq_true_of_le q] at h; cases h
      symm
      rw [decide_eq_false_iff_not]
      show ¬ ((x : Int) < y)
      omega
  · rfl
def beqB : List UInt8 → List UInt8 → Bool
  | [], [] => true
  | a :: l, b :: m => match Nat.beq a.toNat b.toNat with
    | true => beqB l m
    | false => false
  | _, _ => false
def sameK : IntKind → IntKind → Bool
  | .i64, .i64 | .u8, .u8 | .u32, .u32 | .u64, .u64 => true
  | _, _ => false
theorem sameK_eq {a b : IntKind} (h : sameK a b = true) : a = b := by cases a <;> cases b <;> first | rfl | cases h
def pw : IntKind → Nat
  | .i64 | .u64 => 18446744073709551616
  | .i32 | .u32 => 4294967296
  | .i16 | .u16 => 65536
  | .i8 | .u8 => 256
section
variable (P : Program) (t : TypeId) (x y : Value)
def q_add : Option Value := match x with
  | .int k a => match y with
    | .int k' b => match sameK k k' with
      | true => some (.int k (fwrap k (iadd a b)))
      | false => bin2 P .add t x y
    | _ => bin2 P .add t x y
  | _ => bin2 P .add t x y
def q_sub : Option Value := match x with
  | .int k a => match y with
    | .int k' b => match sameK k k' with
      | true => some (.int k (fwrap k (isub a b)))
      | false => bin2 P .sub t x y
    | _ => bin2 P .sub t x y
  | _ => bin2 P .sub t x y
def q_mul : Option Value := match x with
  | .int k a => match y with
    | .int k' b => match sameK k k' with
      | true => some (.int k (fwrap k (imul a b)))
      | false => bin2 P .mul t x y
    | _ => bin2 P .mul t x y
  | _ => bin2 P .mul t x y
def q_eql : Option Value := match x with
  | .int k a => match y with
    | .int k' b => match sameK k k' with
      | true => some (.bool (ieq a b))
      | false => bin2 P .eql t x y
    | _ => bin2 P .eql t x y
  | _ => bin2 P .eql t x y
def q_neq : Option Value := match x with
  | .int k a => match y with
    | .int k' b => match sameK k k' with
      | true => some (.bool (!ieq a b))
      | false => bin2 P .neq t x y
    | _ => bin2 P .neq t x y
  | _ => bin2 P .neq t x y
def q_lss : Option Value := match x with
  | .int k a => match y with
    | .int k' b => match sameK k k' with
      | true => some (.bool (ilt a b))
      | false => bin2 P .lss t x y
    | _ => bin2 P .lss t x y
  | _ => bin2 P .lss t x y
def q_leq : Option Value := match x with
  | .int k a => match y with
    | .int k' b => match sameK k k' with
      | true => some (.bool (ile a b))
      | false => bin2 P .leq t x y
    | _ => bin2 P .leq t x y
  | _ => bin2 P .leq t x y
def q_gtr : Option Value := match x with
  | .int k a => match y with
    | .int k' b => match sameK k k' with
      | true => some (.bool (ilt b a))
      | false => bin2 P .gtr t x y
    | _ => bin2 P .gtr t x y
  | _ => bin2 P .gtr t x y
def q_geq : Option Value := match x with
  | .int k a => match y with
    | .int k' b => match sameK k k' with
      | true => some (.bool (ile b a))
      | false => bin2 P .geq t x y
    | _ => bin2 P .geq t x y
  | _ => bin2 P .geq t x y
def q_quo : Option Value := match x with
  | .int k (.ofNat a) => match y with
    | .int k' (.ofNat (b + 1)) => match sameK k k' with
      | true => some (.int k (fwrap k (.ofNat (Nat.div a (b + 1)))))
      | false => bin2 P .quo t x y
    | _ => bin2 P .quo t x y
  | _ => bin2 P .quo t x y
def q_shr : Option Value := match x with
  | .int k (.ofNat a) => match y with
    | .int _ (.ofNat b) => some (.int k (.ofNat (Nat.div a (Nat.pow 2 (Nat.min b k.bits)))))
    | _ => bin2 P .shr t x y
  | _ => bin2 P .shr t x y
end
section
variable {P : Program} {t : TypeId} (hn : isNilT P t = false)
include hn
theorem q_add_eq : q_add P t = bin2 P .add t := by
  funext x y
  unfold q_add
  split
  · rename_i k a
    split
    · rename_i k' b
      split
      · rename_i hk
        obtain rfl := sameK_eq hk
        rw [b_add hn, fwrap_eq, iadd_eq]
      · rfl
    · rfl
  · rfl
theorem q_sub_eq : q_sub P t = bin2 P .sub t := by
  funext x y
  unfold q_sub
  split
  · rename_i k a
    split
    · rename_i k' b
      split
      · rename_i hk
        obtain rfl := sameK_eq hk
        rw [b_sub hn, fwrap_eq, isub_eq]
      · rfl
    · rfl
  · rfl
theorem q_mul_eq : q_mul P t = bin2 P .mul t := by
  funext x y
  unfold q_mul
  split
  · rename_i k a
    split
    · rename_i k' b
      split
      · rename_i hk
        obtain rfl := sameK_eq hk
        rw [b_mul hn, fwrap_eq, imul_eq]
      · rfl
    · rfl
  · rfl
theorem q_eql_eq : q_eql P t = bin2 P .eql t := by
  funext x y
  unfold q_eql
  split
  · rename_i k a
    split
    · rename_i k' b
      split
      · rename_i hk
        obtain rfl := sameK_eq hk
        rw [b_eql hn, ieq_eq]
      · rfl
    · rfl
  · rfl
theorem q_neq_eq : q_neq P t = bin2 P .neq t := by
  funext x y
  unfold q_neq
  split
  · rename_i k a
    split
    · rename_i k' b
      split
      · rename_i hk
        obtain rfl := sameK_eq hk
        rw [b_neq hn, ieq_eq]; rfl
      · rfl
    · rfl
  · rfl
theorem q_lss_eq : q_lss P t = bin2 P .lss t := by
  funext x y
  unfold q_lss
  split
  · rename_i k a
    split
    · rename_i k' b
      split
      · rename_i hk
        obtain rfl := sameK_eq hk
        rw [b_lss hn, ilt_eq]
      · rfl
    · rfl
  · rfl
theorem q_leq_eq : q_leq P t = bin2 P .leq t := by
  funext x y
  unfold q_leq
  split
  · rename_i k a
    split
    · rename_i k' b
      split
      · rename_i hk
        obtain rfl := sameK_eq hk
        rw [b_leq hn, ile_eq]
      · rfl
    · rfl
  · rfl
theorem q_gtr_eq : q_gtr P t = bin2 P .gtr t := by
  funext x y
  unfold q_gtr
  split
  · rename_i k a
    split
    · rename_i k' b
      split
      · rename_i hk
        obtain rfl := sameK_eq hk
        rw [b_gtr hn, ilt_eq]
      · rfl
    · rfl
  · rfl
theorem q_geq_eq : q_geq P t = bin2 P .geq t := by
  funext x y
  unfold q_geq
  split
  · rename_i k a
    split
    · rename_i k' b
      split
      · rename_i hk
        obtain rfl := sameK_eq hk
        rw [b_geq hn, ile_eq]
      · rfl
    · rfl
  · rfl
theorem q_quo_eq : q_quo P t = bin2 P .quo t := by
  funext x y
  unfold q_quo
  split
  · rename_i k a
    split
    · rename_i k' b
      split
      · rename_i hk
        obtain rfl := sameK_eq hk
        have e := b_quo hn (k := k) (a : Int) ((b + 1 : Nat) : Int) (by omega)
        rw [fwrap_eq]
        exact e.symm
      · rfl
    · rfl
  · rfl
theorem q_shr_eq : q_shr P t = bin2 P .shr t := by
  funext x y
  unfold q_shr
  split
  · rename_i k a
    split
    · rename_i k' b
      have e := b_shr hn (k := k) (k' := k') (a : Int) (b : Int) (by omega)
      rw [Int.toNat_natCast] at e
      refine Eq.trans ?_ e.symm
      congr 2
      show ((a / 2 ^ (min b k.bits) : Nat) : Int) = _
      have e2 : (2 : Int) ^ (min b k.bits) = ((2 ^ (min b k.bits) : Nat) : Int) := by simp
      rw [e2, Int.fdiv_eq_ediv_of_nonneg _ (Int.natCast_nonneg _), ← Int.natCast_ediv]
    · rfl
  · rfl
end

end Go.Proofs.YtdagfcflbphoiaaDoor.Ev

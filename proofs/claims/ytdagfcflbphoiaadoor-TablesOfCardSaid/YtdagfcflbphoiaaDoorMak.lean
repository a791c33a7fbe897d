/- Trees that are joined two by two, in plain Lean: the two rows of the package (leaves in order, joined ones in order). No program in sight. -/
import Derived.WideShapes
import Derived.WalkLawsBesides
import Derived.Test.YtdagfcflbphoiaaDoorMaj
namespace Go.Proofs.YtdagfcflbphoiaaDoor.Hu
set_option linter.unusedVariables false
set_option linter.unusedSimpArgs false

structure HT where
  weight : List Int
  into : List Int
  leaves : List Nat
  joined : Nat

def wAt (t : HT) (i : Nat) : Int := t.weight.getD i 0
/-- is the least tree a leaf? -/
def isLeaf (t : HT) : Bool := t.joined == t.weight.length || (decide (0 < t.leaves.length) && decide (wAt t (t.leaves.getD 0 0) ≤ wAt t t.joined))
def leastOf (t : HT) : Nat := if isLeaf t then t.leaves.getD 0 0 else t.joined
def taken (t : HT) : HT := if isLeaf t then { t with leaves := t.leaves.tail } else { t with joined := t.joined + 1 }
def joinH (t : HT) (a b : Nat) : HT := { t with weight := t.weight ++ [wAt t a + wAt t b], into := ((t.into.set a t.weight.length).set b t.weight.length) ++ [-1] }
def stepH (t : HT) : HT := joinH (taken (taken t)) (leastOf t) (leastOf (taken t))
def runH : Nat → HT → HT
  | 0, t => t
  | k + 1, t => runH k (stepH t)
theorem run_succ : ∀ (k : Nat) (t : HT), runH (k + 1) t = stepH (runH k t)
  | 0, _ => rfl
  | k + 1, t => by
    show runH (k + 1) (stepH t) = _
    rw [run_succ k (stepH t)]
    rfl

theorem getD_app_left (l r : List Int) (i : Nat) (h : i < l.length) : (l ++ r).getD i 0 = l.getD i 0 := by
  rw [List.getD_eq_getElem?_getD, List.getElem?_append_left h, List.getD_eq_getElem?_getD]
theorem getD_setI (l : List Int) (i j : Nat) (v : Int) : (l.set i v).getD j 0 = if i = j ∧ i < l.length then v else l.getD j 0 := by
  simp only [List.getD_eq_getElem?_getD, List.getElem?_set]
  by_cases h : i = j
  · subst h
    by_cases h2 : i < l.length
    · simp [h2]
    · simp [h2, List.getElem?_eq_none (show l.length ≤ i by omega)]
  · simp [h]

def sumI : List Int → Int
  | [] => 0
  | x :: xs => x + sumI xs
theorem sumI_app : ∀ a b : List Int, sumI (a ++ b) = sumI a + sumI b
  | [], b => by simp [sumI]
  | x :: a, b => by simp only [List.cons_append, sumI, sumI_app a b]; omega
theorem sumI_le : ∀ (l : List Int), (∀ x ∈ l, 0 ≤ x) → 0 ≤ sumI l ∧ ∀ x ∈ l, x ≤ sumI l
  | [], _ => ⟨Int.le_refl _, fun x h => by simp at h⟩
  | y :: l, h => by
    have ih := sumI_le l (fun x hx => h x (by simp [hx]))
    have hy := h y (by simp)
    refine ⟨by simp only [sumI]; omega, fun x hx => ?_⟩
    simp only [sumI]
    rcases List.mem_cons.1 hx with e | e
    · subst e; omega
    · have := ih.2 x e; omega

/-- the trees that wait, those that were just taken last -/
def waitH (n k : Nat) (P : List Nat) (t : HT) : List Nat := P ++ t.leaves ++ List.range' t.joined (n + k - t.joined)
/-- what is kept while trees are joined: of n symbols, of which k were joined; P were taken and are not joined yet; S is the weight of all -/
structure OkH (n k : Nat) (P : List Nat) (S : Int) (t : HT) : Prop where
  wl : t.weight.length = n + k
  il : t.into.length = n + k
  leaf : ∀ i ∈ t.leaves, i < n
  pl : ∀ i ∈ P, i < n + k
  jl : n ≤ t.joined
  jh : t.joined ≤ n + k
  left : t.leaves.length + (n + k - t.joined) + k + P.length = n
  pos : ∀ i, i < n + k → 0 ≤ wAt t i ∧ wAt t i ≤ S
  sum : sumI ((waitH n k P t).map (wAt t)) = S
  /-- whatever waits no more was joined into a later one -/
  into : ∀ i, i < n + k → i ∉ t.leaves → i < t.joined → i ∉ P → (i : Int) < t.into.getD i 0 ∧ t.into.getD i 0 < ((n + k : Nat) : Int)

theorem isLeaf_true {n k : Nat} {P : List Nat} {S : Int} {t : HT} (h : OkH n k P S t) (h1 : 1 ≤ t.leaves.length + (n + k - t.joined)) (hl : isLeaf t = true) : ∃ r, t.leaves = leastOf t :: r ∧ taken t = { t with leaves := r } ∧ leastOf t < n := by
  have hne : t.leaves ≠ [] := by
    intro e
    unfold isLeaf at hl
    rw [e] at hl
    simp at hl
    have := h.wl
    rw [e] at h1
    simp at h1
    omega
  obtain ⟨i, r, e⟩ := List.exists_cons_of_ne_nil hne
  have e2 : leastOf t = i := by unfold leastOf; rw [if_pos hl, e]; rfl
  refine ⟨r, by rw [e2]; exact e, by unfold taken; rw [if_pos hl, e]; rfl, ?_⟩
  rw [e2]
  exact h.leaf i (by rw [e]; simp)
theorem isLeaf_false {n k : Nat} {P : List Nat} {S : Int} {t : HT} (h : OkH n k P S t) (hl : isLeaf t = false) : leastOf t = t.joined ∧ t.joined < n + k ∧ taken t = { t with joined := t.joined + 1 } := by
  refine ⟨by unfold leastOf; rw [hl]; rfl, ?_, by unfold taken; rw [hl]; rfl⟩
  unfold isLeaf at hl
  rw [Bool.or_eq_false_iff, beq_eq_false_iff_ne] at hl
  have := h.wl
  have := h.jh
  omega
theorem OkH.take {n k : Nat} {P : List Nat} {S : Int} {t : HT} (h : OkH n k P S t) (h1 : 1 ≤ t.leaves.length + (n + k - t.joined)) : OkH n k (P ++ [leastOf t]) S (taken t) ∧ leastOf t < n + k := by
  cases hl : isLeaf t with
  | true =>
    obtain ⟨r, e1, e2, e3⟩ := isLeaf_true h h1 hl
    generalize leastOf t = a at *
    rw [e2]
    have hleft := h.left
    rw [e1] at hleft
    simp only [List.length_cons] at hleft
    refine ⟨⟨h.wl, h.il, fun i hi => h.leaf i (by rw [e1]; simp [hi]), fun i hi => ?_, h.jl, h.jh, by simp only [List.length_append, List.length_cons, List.length_nil]; omega, h.pos, ?_, fun i hi h2 h3 h4 => ?_⟩, by omega⟩
    · rcases List.mem_append.1 hi with h2 | h2
      · exact h.pl i h2
      · simp at h2; omega
    · have := h.sum
      unfold waitH at this ⊢
      rw [e1] at this
      simp only [List.map_append, List.map_cons, List.map_nil, sumI_app, sumI] at this ⊢
      show sumI (P.map (wAt t)) + _ + _ + _ = S
      have e9 : wAt { t with leaves := r } = wAt t := rfl
      rw [e9]
      omega
    · refine h.into i hi (fun hm => ?_) h3 (fun hp => h4 (by simp [hp]))
      rw [e1] at hm
      rcases List.mem_cons.1 hm with e | e
      · exact h4 (by simp [e])
      · exact h2 e
  | false =>
    obtain ⟨e1, e2, e3⟩ := isLeaf_false h hl
    rw [e3, e1]
    have hleft := h.left
    refine ⟨⟨h.wl, h.il, h.leaf, fun i hi => ?_, Nat.le_succ_of_le h.jl, e2, by simp only [List.length_append, List.length_cons, List.length_nil]; omega, h.pos, ?_, fun i hi h2 h3 h4 => ?_⟩, e2⟩
    · rcases List.mem_append.1 hi with h2 | h2
      · exact h.pl i h2
      · simp at h2; omega
    · have := h.sum
      unfold waitH at this ⊢
      obtain ⟨d, hd⟩ : ∃ d, n + k - t.joined = d + 1 := ⟨n + k - t.joined - 1, by omega⟩
      rw [hd, List.range'_succ] at this
      show sumI (List.map _ (P ++ [t.joined] ++ t.leaves ++ List.range' (t.joined + 1) (n + k - (t.joined + 1)))) = S
      rw [show n + k - (t.joined + 1) = d by omega]
      simp only [List.map_append, List.map_cons, List.map_nil, sumI_app, sumI] at this ⊢
      have e9 : wAt { t with joined := t.joined + 1 } = wAt t := rfl
      rw [e9]
      omega
    · have h3 : i < t.joined + 1 := h3
      refine h.into i hi h2 ?_ (fun hp => h4 (by simp [hp]))
      have : i ≠ t.joined := fun e => h4 (by simp [e])
      omega
theorem OkH.join {n k a b : Nat} {S : Int} {t : HT} (h : OkH n k [a, b] S t) : OkH n (k + 1) [] S (joinH t a b) := by
  have ha := h.pl a (by simp)
  have hb := h.pl b (by simp)
  have hleft := h.left
  have hjh := h.jh
  have hjl := h.jl
  have hsum := h.sum
  simp only [List.length_cons, List.length_nil] at hleft
  have hlt : ∀ i, i < n + k → wAt (joinH t a b) i = wAt t i := fun i hi => getD_app_left _ _ _ (by rw [h.wl]; exact hi)
  have hnew : wAt (joinH t a b) (n + k) = wAt t a + wAt t b := by
    unfold wAt joinH
    rw [List.getD_eq_getElem?_getD, List.getElem?_append_right (by rw [h.wl]; exact Nat.le_refl _), h.wl, Nat.sub_self]
    rfl
  have hmap : ∀ l : List Nat, (∀ i ∈ l, i < n + k) → l.map (wAt (joinH t a b)) = l.map (wAt t) := fun l hl => List.map_congr_left fun i hi => hlt i (hl i hi)
  have hr : ∀ i ∈ List.range' t.joined (n + k - t.joined), i < n + k := fun i hi => by rw [List.mem_range'_1] at hi; omega
  have hpos0 : ∀ i ∈ waitH n k [a, b] t, i < n + k := by
    intro i hi
    unfold waitH at hi
    rcases List.mem_append.1 hi with h2 | h2
    · rcases List.mem_append.1 h2 with h3 | h3
      · exact h.pl i h3
      · have := h.leaf i h3; omega
    · exact hr i h2
  have hsl := sumI_le ((waitH n k [a, b] t).map (wAt t)) (fun x hx => by
    rw [List.mem_map] at hx
    obtain ⟨i, hi, rfl⟩ := hx
    exact (h.pos i (hpos0 i hi)).1)
  rw [hsum] at hsl
  have hab : wAt t a + wAt t b ≤ S := by
    have h2 := sumI_le ((t.leaves ++ List.range' t.joined (n + k - t.joined)).map (wAt t)) (fun x hx => by
      rw [List.mem_map] at hx
      obtain ⟨i, hi, rfl⟩ := hx
      refine (h.pos i ?_).1
      rcases List.mem_append.1 hi with h3 | h3
      · have := h.leaf i h3; omega
      · exact hr i h3)
    have h3 := hsum
    unfold waitH at h3
    simp only [List.map_append, List.map_cons, List.map_nil, sumI_app, sumI] at h3 h2
    omega
  refine ⟨by simp [joinH, h.wl]; omega, by simp [joinH, h.il]; omega, h.leaf, fun i hi => by simp at hi, hjl, by show t.joined ≤ _; omega, by show t.leaves.length + (n + (k + 1) - t.joined) + (k + 1) + 0 = n; omega, fun i hi => ?_, ?_, fun i hi h2 h3 _ => ?_⟩
  · by_cases e : i < n + k
    · rw [hlt i e]; exact h.pos i e
    · obtain rfl : i = n + k := by omega
      rw [hnew]
      have := (h.pos a ha).1
      have := (h.pos b hb).1
      omega
  · unfold waitH at hsum ⊢
    show sumI (List.map _ ([] ++ t.leaves ++ List.range' t.joined (n + (k + 1) - t.joined))) = S
    rw [show n + (k + 1) - t.joined = (n + k - t.joined) + 1 by omega, List.range'_concat]
    simp only [List.nil_append, List.map_append, List.map_cons, List.map_nil, sumI_app, sumI] at hsum ⊢
    rw [hmap t.leaves (fun i hi => by have := h.leaf i hi; omega), hmap _ hr]
    rw [show t.joined + 1 * (n + k - t.joined) = n + k by omega, hnew]
    omega
  · have h3 : i < t.joined := h3
    have hil := h.il
    have e1 : (joinH t a b).into.getD i 0 = if i = a ∨ i = b then ((n + k : Nat) : Int) else t.into.getD i 0 := by
      unfold joinH
      rw [getD_app_left _ _ _ (by simp; omega), getD_setI, List.length_set, getD_setI, h.wl]
      by_cases eb : b = i
      · subst eb; rw [if_pos ⟨rfl, by omega⟩, if_pos (.inr rfl)]
      · rw [if_neg (fun e => eb e.1)]
        by_cases ea : a = i
        · subst ea; rw [if_pos ⟨rfl, by omega⟩, if_pos (.inl rfl)]
        · rw [if_neg (fun e => ea e.1), if_neg (fun e => by rcases e with e | e; exact ea e.symm; exact eb e.symm)]
    rw [e1]
    split
    · omega
    · rename_i hn
      have := h.into i (by omega) h2 h3 (fun e => by simp at e; exact hn e)
      omega

end Go.Proofs.YtdagfcflbphoiaaDoor.Hu
/- The trees of the lens package, by the second form: how they lie; the least one. -/
namespace Go.Proofs.YtdagfcflbphoiaaDoor
set_option linter.unusedVariables false
set_option linter.unusedSimpArgs false
open Go.RowKit Ev Hu

theorem wrap_succ {x : Nat} (h : x < 9223372036854775807) : IntKind.i64.wrap ((x : Int) + 1) = ((x + 1 : Nat) : Int) := by rw [wrap_id (by omega) (by omega)]; rfl
theorem wrap_pred {x : Nat} (h : x < 9223372036854775807) : IntKind.i64.wrap (((x + 1 : Nat) : Int) - 1) = ((x : Nat) : Int) := by rw [wrap_id (by omega) (by omega)]; omega
def ints (xs : List Int) : List Value := xs.map (Value.int .i64)
def nats (xs : List Nat) : List Value := xs.map fun (x : Nat) => Value.int .i64 x
theorem ints_len (xs : List Int) : (ints xs).length = xs.length := by unfold ints; simp
theorem ints_at {xs : List Int} {i : Nat} (h : i < xs.length) : (ints xs)[i]? = some (.int .i64 (xs.getD i 0)) := by
  unfold ints; simp [h]

structure TreesAt (h : H) (n g : Nat) (t : HT) (bw bi bl off cl : Nat) (cs : List Value) : Prop where
  hg : h.get g = some ⟨72, true, [.slice (some ⟨bw, 0, none⟩) t.weight.length (CAP + t.weight.length), .slice (some ⟨bi, 0, none⟩) t.into.length (CAP + t.into.length), .slice (some ⟨bl, off, none⟩) t.leaves.length cl, .int .i64 (t.joined : Nat)]⟩
  hw : h.get bw = some ⟨3, true, ints t.weight⟩
  hi : h.get bi = some ⟨3, true, ints t.into⟩
  hl : h.get bl = some ⟨3, true, cs⟩
  hlen : off + t.leaves.length ≤ cs.length
  hcs : (cs.drop off).take t.leaves.length = nats t.leaves
  hcl : t.leaves.length ≤ cl
  d : g ≠ bw ∧ g ≠ bi ∧ g ≠ bl ∧ bw ≠ bi ∧ bw ≠ bl ∧ bi ≠ bl ∧ g < n ∧ bw < n ∧ bi < n ∧ bl < n

theorem nats_at {cs : List Value} {off : Nat} {l : List Nat} (hcs : (cs.drop off).take l.length = nats l) {i : Nat} (hi : i < l.length) : cs[off + i]? = some (.int .i64 (l.getD i 0 : Nat)) := by
  have h := congrArg (fun z => z[i]?) hcs
  simp only [List.getElem?_take, hi, if_true, List.getElem?_drop] at h
  rw [h]
  unfold nats
  simp [hi]
theorem TreesAt.leaf {h : H} {n g : Nat} {t : HT} {bw bi bl off cl : Nat} {cs : List Value} (hT : TreesAt h n g t bw bi bl off cl cs) (hil : isLeaf t = true) (h0 : 0 < t.leaves.length) {off' : Nat} (ho : off' = off + 1 ∨ t.leaves.length = 1 ∧ off' = off) {x : H}
    (hx : x = h.set g (some ⟨72, true, [.slice (some ⟨bw, 0, none⟩) t.weight.length (CAP + t.weight.length), .slice (some ⟨bi, 0, none⟩) t.into.length (CAP + t.into.length), .slice (some ⟨bl, off', none⟩) (t.leaves.length - 1) (cl - 1), .int .i64 (t.joined : Nat)]⟩)) : TreesAt x n g (taken t) bw bi bl off' (cl - 1) cs := by
  obtain ⟨hg, hbw, hbi, hbl, hlen, hcs, hcl, hd⟩ := hT
  subst hx
  have e : taken t = { t with leaves := t.leaves.tail } := by unfold taken; rw [if_pos hil]
  rw [e]
  refine ⟨?_, ?_, ?_, ?_, ?_, ?_, ?_, hd⟩
  · rw [get_eq]; simp
  · rw [get_ne _ _ (by omega)]; exact hbw
  · rw [get_ne _ _ (by omega)]; exact hbi
  · rw [get_ne _ _ (by omega)]; exact hbl
  · simp only [List.length_tail]; omega
  · simp only [List.length_tail]
    rcases ho with ho | ⟨ho, _⟩
    · subst ho
      have := congrArg List.tail hcs
      unfold nats at this ⊢
      rw [← List.map_tail] at this
      rw [← this, ← List.drop_one, List.drop_take, List.drop_drop]
    · have : t.leaves.tail = [] := by rw [← List.length_eq_zero_iff, List.length_tail]; omega
      rw [this, ho]
      simp [nats]
  · simp only [List.length_tail]; omega
theorem TreesAt.joined {h : H} {n g : Nat} {t : HT} {bw bi bl off cl : Nat} {cs : List Value} (hT : TreesAt h n g t bw bi bl off cl cs) (hil : isLeaf t = false) {x : H}
    (hx : x = h.set g (some ⟨72, true, [.slice (some ⟨bw, 0, none⟩) t.weight.length (CAP + t.weight.length), .slice (some ⟨bi, 0, none⟩) t.into.length (CAP + t.into.length), .slice (some ⟨bl, off, none⟩) t.leaves.length cl, .int .i64 ((t.joined + 1 : Nat) : Int)]⟩)) : TreesAt x n g (taken t) bw bi bl off cl cs := by
  obtain ⟨hg, hbw, hbi, hbl, hlen, hcs, hcl, hd⟩ := hT
  subst hx
  have e : taken t = { t with joined := t.joined + 1 } := by unfold taken; rw [hil]; rfl
  rw [e]
  refine ⟨?_, ?_, ?_, ?_, hlen, hcs, hcl, hd⟩
  · rw [get_eq]
  · rw [get_ne _ _ (by omega)]; exact hbw
  · rw [get_ne _ _ (by omega)]; exact hbi
  · rw [get_ne _ _ (by omega)]; exact hbl
theorem s_least (lf d g n : Nat) (h : H) (t : HT) (bw bi bl off cl : Nat) (cs : List Value) (hT : TreesAt h n g t bw bi bl off cl cs) (hjl : t.joined ≤ 100000) (hll : t.leaves.length ≤ 100000) (hw : t.weight.length ≤ 100000) (hok : isLeaf t = true → 0 < t.leaves.length) (hok1 : 0 < t.leaves.length → t.leaves.getD 0 0 < t.weight.length) (hok2 : t.joined ≤ t.weight.length) :
    Run (fun b => b = g) n (evCall2 Tryd.prog gt lf (d + 1) 64 #[.pointer (some ⟨g, 0, none⟩)]) h n fun v h' n' => v = .int .i64 (leastOf t : Nat) ∧ n' = n ∧ ∃ off' cl', TreesAt h' n g (taken t) bw bi bl off' cl' cs := by
  have hT0 := hT
  obtain ⟨hg, hbw, hbi, hbl, hlen, hcs, hcl, hd⟩ := hT
  rw [sh_lens_trees_least]
  refine Run.inside_ ?_
  unfold b_lens_trees_least
  have hgn := hd.2.2.2.2.2.2.1
  have hwn := hd.2.2.2.2.2.2.2.1
  have hln := hd.2.2.2.2.2.2.2.2.2
  have hL : isLeaf t = true → leastOf t = t.leaves.getD 0 0 := fun e => by unfold leastOf; rw [if_pos e]
  have hJ : isLeaf t = false → leastOf t = t.joined := fun e => by unfold leastOf; rw [e]; rfl
  have hcl2 : 0 < t.leaves.length → 0 < cl := fun _ => by omega
  by_cases hj : t.joined = t.weight.length
  · have hil : isLeaf t = true := by unfold isLeaf; simp [hj]
    have h0 := hok hil
    have hc0 : cs[off]? = some (.int .i64 (t.leaves.getD 0 0 : Nat)) := nats_at hcs h0
    have e1 : (((t.joined : Nat) : Int) == ((t.weight.length : Nat) : Int)) = true := by rw [hj]; simp
    try simp (disch := first | omega | assumption | exact one_int _ _ | exact one_slice _ _ _ | exact one_ptr _ | exact one_bool _ | exact one_string _) only [RXA, RXB, Nat.reduceAdd, Nat.reduceLT, wrap_id, wrap_succ, wrap_pred, FX1, hg, hbw, hbi, hbl, e1, hc0]
    refine slice_run c1x22 (n0 := n) (l := 1) (hh := t.leaves.length) hbl rfl (by omega) off t.leaves.length cl _ _ (bound_nat _ 1 0) (bound_none _) (by omega) (by omega) (by omega) _ ns22 ?_
    try simp (disch := first | omega | assumption | exact one_int _ _ | exact one_slice _ _ _ | exact one_ptr _ | exact one_bool _ | exact one_string _) only [RXA, RXB, Nat.reduceAdd, Nat.reduceLT, wrap_id, wrap_succ, wrap_pred, FX1, hg]
    exact ⟨by rw [hL hil], _, _, hT0.leaf hil h0 (by split; exact .inr ⟨by omega, rfl⟩; exact .inl rfl) rfl⟩
  · have e1 : (((t.joined : Nat) : Int) == ((t.weight.length : Nat) : Int)) = false := by rw [beq_eq_false_iff_ne]; omega
    have hjw : t.joined < t.weight.length := by omega
    have hwj : (ints t.weight)[t.joined]? = some (.int .i64 (wAt t t.joined)) := ints_at hjw
    by_cases h0 : 0 < t.leaves.length
    · have hc0 : cs[off]? = some (.int .i64 (t.leaves.getD 0 0 : Nat)) := nats_at hcs h0
      have hl1 := hok1 h0
      have hwl : (ints t.weight)[t.leaves.getD 0 0]? = some (.int .i64 (wAt t (t.leaves.getD 0 0))) := ints_at hl1
      have h0' : (0 : Int) < (t.leaves.length : Int) := by omega
      have hil : isLeaf t = decide (wAt t (t.leaves.getD 0 0) ≤ wAt t t.joined) := by unfold isLeaf; simp [hj, h0]
      by_cases hle : wAt t (t.leaves.getD 0 0) ≤ wAt t t.joined
      · rw [decide_eq_true hle] at hil
        try simp (disch := first | omega | assumption | exact one_int _ _ | exact one_slice _ _ _ | exact one_ptr _ | exact one_bool _ | exact one_string _) only [RXA, RXB, Nat.reduceAdd, Nat.reduceLT, wrap_id, wrap_succ, wrap_pred, FX1, hg, hbw, hbi, hbl, e1, hc0, hwl, hwj, h0', hle]
        refine slice_run c1x22 (n0 := n) (l := 1) (hh := t.leaves.length) hbl rfl (by omega) off t.leaves.length cl _ _ (bound_nat _ 1 0) (bound_none _) (by omega) (by omega) (by omega) _ ns22 ?_
        try simp (disch := first | omega | assumption | exact one_int _ _ | exact one_slice _ _ _ | exact one_ptr _ | exact one_bool _ | exact one_string _) only [RXA, RXB, Nat.reduceAdd, Nat.reduceLT, wrap_id, wrap_succ, wrap_pred, FX1, hg]
        exact ⟨by rw [hL hil], _, _, hT0.leaf hil h0 (by split; exact .inr ⟨by omega, rfl⟩; exact .inl rfl) rfl⟩
      · rw [decide_eq_false hle] at hil
        try simp (disch := first | omega | assumption | exact one_int _ _ | exact one_slice _ _ _ | exact one_ptr _ | exact one_bool _ | exact one_string _) only [RXA, RXB, Nat.reduceAdd, Nat.reduceLT, wrap_id, wrap_succ, wrap_pred, FX1, hg, hbw, hbi, hbl, e1, hc0, hwl, hwj, h0', hle]
        exact ⟨by rw [hJ hil, Int.add_sub_cancel], _, _, hT0.joined hil rfl⟩
    · have h0' : ¬ (0 : Int) < (t.leaves.length : Int) := by omega
      have hil : isLeaf t = false := by unfold isLeaf; simp [hj, h0]
      try simp (disch := first | omega | assumption | exact one_int _ _ | exact one_slice _ _ _ | exact one_ptr _ | exact one_bool _ | exact one_string _) only [RXA, RXB, Nat.reduceAdd, Nat.reduceLT, wrap_id, wrap_succ, wrap_pred, FX1, hg, hbw, hbi, hbl, e1, hwj, h0']
      exact ⟨by rw [hJ hil, Int.add_sub_cancel], _, _, hT0.joined hil rfl⟩

theorem ints_set (xs : List Int) (i : Nat) (v : Int) : (ints xs).set i (.int .i64 v) = ints (xs.set i v) := by unfold ints; rw [List.map_set]
theorem ints_app (xs : List Int) (v : Int) : ints xs ++ [.int .i64 v] = ints (xs ++ [v]) := by unfold ints; simp
set_option maxHeartbeats 1000000 in
theorem s_join (lf d g n a b : Nat) (h : H) (t : HT) (bw bi bl off cl : Nat) (cs : List Value) (hT : TreesAt h n g t bw bi bl off cl cs) (hw : t.weight.length ≤ 100000) (hi : t.into.length = t.weight.length) (ha : a < t.weight.length) (hb : b < t.weight.length) (hs : ∀ x ∈ t.weight, 0 ≤ x ∧ x ≤ 1152921504606846976) :
    Run (fun x => x = g ∨ x = bw ∨ x = bi) n (evCall2 Tryd.prog gt lf (d + 1) 65 #[.pointer (some ⟨g, 0, none⟩), .int .i64 (a : Nat), .int .i64 (b : Nat)]) h n fun v h' n' => v = .tuple #[] ∧ n ≤ n' ∧ ∃ bw' bi', TreesAt h' n' g (joinH t a b) bw' bi' bl off cl cs ∧ n ≤ bw' ∧ n ≤ bi' := by
  have hT0 := hT
  obtain ⟨hg, hbw, hbi, hbl, hlen, hcs, hcl, hd⟩ := hT
  rw [sh_lens_trees_join]
  refine Run.inside_ ?_
  unfold b_lens_trees_join
  have hgn := hd.2.2.2.2.2.2.1
  have hwn := hd.2.2.2.2.2.2.2.1
  have hin := hd.2.2.2.2.2.2.2.2.1
  have hwa : (ints t.weight)[a]? = some (.int .i64 (wAt t a)) := ints_at ha
  have hwb : (ints t.weight)[b]? = some (.int .i64 (wAt t b)) := ints_at hb
  have sa : 0 ≤ wAt t a ∧ wAt t a ≤ 1152921504606846976 := hs _ (by unfold wAt; simp [ha])
  have sb : 0 ≤ wAt t b ∧ wAt t b ≤ 1152921504606846976 := hs _ (by unfold wAt; simp [hb])
  try simp (disch := first | omega | assumption | exact one_int _ _ | exact one_slice _ _ _ | exact one_ptr _ | exact one_bool _ | exact one_string _) only [RXA, RXB, Nat.reduceAdd, Nat.reduceLT, wrap_id, wrap_succ, wrap_pred, FX1, hg, hbw, hbi, ints_set, ints_len, List.length_set, hwa, hwb]
  refine ⟨by omega, by omega, ?_⟩
  refine run_push c1x22 (one_int _ _) (by rw [get_ne _ _ (by omega), get_ne _ _ (by omega)]; exact hbw) (by omega) (ints_len _) (by omega) (by omega) (.inr (.inr (.inl rfl))) _ ?_
  try simp (disch := first | omega | assumption | exact one_int _ _ | exact one_slice _ _ _ | exact one_ptr _ | exact one_bool _ | exact one_string _) only [RXA, RXB, Nat.reduceAdd, Nat.reduceLT, wrap_id, wrap_succ, wrap_pred, FX1, hg, hbw, hbi, ints_set, ints_len, List.length_set, hwa, hwb]
  refine run_push c1x22 (cs := ints ((t.into.set a (t.weight.length : Nat)).set b (t.weight.length : Nat))) (one_int _ _) (by try simp (disch := first | omega | assumption | exact one_int _ _ | exact one_slice _ _ _ | exact one_ptr _ | exact one_bool _ | exact one_string _) only [RXA, RXB, Nat.reduceAdd, Nat.reduceLT, wrap_id, wrap_succ, wrap_pred, FX1]) (by omega) (by simp [ints_len]) (by omega) (by omega) (.inr (.inr (.inr rfl))) _ ?_
  try simp (disch := first | omega | assumption | exact one_int _ _ | exact one_slice _ _ _ | exact one_ptr _ | exact one_bool _ | exact one_string _) only [RXA, RXB, Nat.reduceAdd, Nat.reduceLT, wrap_id, wrap_succ, wrap_pred, FX1, hg, hbw, hbi]
  refine ⟨by omega, n + 1, n + 2 + 1, ?_, by omega, by omega⟩
  refine ⟨?_, ?_, ?_, ?_, hlen, hcs, hcl, by omega⟩
  · try simp (disch := first | omega | assumption | exact one_int _ _ | exact one_slice _ _ _ | exact one_ptr _ | exact one_bool _ | exact one_string _) only [RXA, RXB, Nat.reduceAdd, Nat.reduceLT, wrap_id, wrap_succ, wrap_pred, FX1]
    simp [joinH]
  · try simp (disch := first | omega | assumption | exact one_int _ _ | exact one_slice _ _ _ | exact one_ptr _ | exact one_bool _ | exact one_string _) only [RXA, RXB, Nat.reduceAdd, Nat.reduceLT, wrap_id, wrap_succ, wrap_pred, FX1]
    rw [ints_app]; rfl
  · try simp (disch := first | omega | assumption | exact one_int _ _ | exact one_slice _ _ _ | exact one_ptr _ | exact one_bool _ | exact one_string _) only [RXA, RXB, Nat.reduceAdd, Nat.reduceLT, wrap_id, wrap_succ, wrap_pred, FX1]
    rw [ints_app]; rfl
  · try simp (disch := first | omega | assumption | exact one_int _ _ | exact one_slice _ _ _ | exact one_ptr _ | exact one_bool _ | exact one_string _) only [RXA, RXB, Nat.reduceAdd, Nat.reduceLT, wrap_id, wrap_succ, wrap_pred, FX1, hbl]

end Go.Proofs.YtdagfcflbphoiaaDoor
/- Plain facts on sorted rows: insertion, merging in place, stable order. No program in sight. -/
namespace Go.Proofs.YtdagfcflbphoiaaDoor
set_option linter.unusedVariables false
set_option linter.unusedSimpArgs false
open Go.RowKit Hu

def cmp3 (x y : Int) : Int := if x < y then -1 else if y < x then 1 else 0
/-- to stand ahead: the key is less, or the keys are the same and the place is less -/
def RI (k : Nat → Int) (a b : Nat) : Prop := k a < k b ∨ k a = k b ∧ a < b
theorem ins_sorted {k : Nat → Int} {L R : List Nat} {x : Nat} (h : (L ++ R).Pairwise (RI k)) (h1 : ∀ r ∈ R, k x < k r) (h2 : ∀ l ∈ L, k l ≤ k x) (h3 : ∀ l ∈ L, k l = k x → l < x) : (L ++ x :: R).Pairwise (RI k) := by
  rw [List.pairwise_append] at h ⊢
  refine ⟨h.1, ?_, fun a ha b hb => ?_⟩
  · rw [List.pairwise_cons]
    exact ⟨fun r hr => .inl (h1 r hr), h.2.1⟩
  · rcases List.mem_cons.1 hb with e | e
    · subst e
      have := h2 a ha
      by_cases he : k a = k b
      · exact .inr ⟨he, h3 a ha he⟩
      · exact .inl (by omega)
    · exact h.2.2 a ha b e
def keyW (ws : List Int) (i : Nat) : Int := ws.getD i 0
theorem getD_cons_at (pre : List Nat) (v : Nat) (post : List Nat) : (pre ++ v :: post).getD pre.length 0 = v := by
  simp [List.getD_eq_getElem?_getD]
theorem cmp3_neg (x y : Int) : decide (cmp3 x y < 0) = decide (x < y) := by
  unfold cmp3
  by_cases h : x < y
  · simp [h]
  · by_cases h2 : y < x
    · simp [h, h2]
    · simp [h, h2]
theorem getD_at (pre : List Nat) (v : Nat) (post : List Nat) (j : Nat) (hj : j = pre.length) : (pre ++ v :: post).getD j 0 = v := by subst hj; exact getD_cons_at _ _ _
theorem set_at (pre : List Nat) (v u : Nat) (post : List Nat) (j : Nat) (hj : j = pre.length) : (pre ++ v :: post).set j u = pre ++ u :: post := by
  subst hj
  rw [List.set_append_right (h := Nat.le_refl _), Nat.sub_self]; rfl
theorem RI.trans' {k : Nat → Int} {a b c : Nat} (h1 : RI k a b) (h2 : RI k b c) : RI k a c := by
  unfold RI at *
  omega
theorem RI_of_not {k : Nat → Int} {x y : Nat} (hxy : x < y) (h : ¬ k y < k x) : RI k x y := by
  unfold RI
  omega
theorem ri_le {k : Nat → Int} {L : List Nat} (h : L.Pairwise (RI k)) {i j : Nat} (hij : i ≤ j) (hj : j < L.length) : L.getD i 0 = L.getD j 0 ∨ RI k (L.getD i 0) (L.getD j 0) := by
  rcases Nat.lt_or_eq_of_le hij with hlt | rfl
  · right
    have := List.pairwise_iff_getElem.1 h i j (by omega) hj hlt
    rw [List.getD_eq_getElem?_getD, List.getD_eq_getElem?_getD, List.getElem?_eq_getElem (by omega), List.getElem?_eq_getElem hj]
    exact this
  · left; rfl
theorem ri_le_l {k : Nat → Int} {L : List Nat} (h : L.Pairwise (RI k)) {i j c : Nat} (hij : i ≤ j) (hj : j < L.length) (hc : RI k (L.getD j 0) c) : RI k (L.getD i 0) c := by
  rcases ri_le h hij hj with e | e
  · rw [e]; exact hc
  · exact e.trans' hc
theorem ri_le_r {k : Nat → Int} {L : List Nat} (h : L.Pairwise (RI k)) {i j c : Nat} (hij : i ≤ j) (hj : j < L.length) (hc : RI k c (L.getD i 0)) : RI k c (L.getD j 0) := by
  rcases ri_le h hij hj with e | e
  · rw [← e]; exact hc
  · exact hc.trans' e
theorem mem_take_getD {L : List Nat} {n : Nat} {u : Nat} (h : u ∈ L.take n) : ∃ i, i < n ∧ i < L.length ∧ L.getD i 0 = u := by
  obtain ⟨i, hi, e⟩ := List.mem_iff_getElem.1 h
  rw [List.length_take] at hi
  refine ⟨i, by omega, by omega, ?_⟩
  rw [List.getElem_take] at e
  rw [List.getD_eq_getElem?_getD, List.getElem?_eq_getElem (by omega)]
  exact e
theorem mem_drop_getD {L : List Nat} {n : Nat} {u : Nat} (h : u ∈ L.drop n) : ∃ i, n ≤ i ∧ i < L.length ∧ L.getD i 0 = u := by
  obtain ⟨i, hi, e⟩ := List.mem_iff_getElem.1 h
  rw [List.length_drop] at hi
  refine ⟨n + i, by omega, by omega, ?_⟩
  rw [List.getElem_drop] at e
  rw [List.getD_eq_getElem?_getD, List.getElem?_eq_getElem (by omega)]
  exact e
theorem ins2 {k : Nat → Int} {L R : List Nat} {x : Nat} (h : (L ++ R).Pairwise (RI k)) (h1 : ∀ r ∈ R, RI k x r) (h2 : ∀ l ∈ L, RI k l x) : (L ++ x :: R).Pairwise (RI k) := by
  rw [List.pairwise_append] at h ⊢
  refine ⟨h.1, ?_, fun a ha b hb => ?_⟩
  · rw [List.pairwise_cons]
    exact ⟨h1, h.2.1⟩
  · rcases List.mem_cons.1 hb with e | e
    · subst e; exact h2 a ha
    · exact h.2.2 a ha b e
/-- where one element goes in -/
theorem put_in {k : Nat → Int} {Y : List Nat} {x p : Nat} (hy : Y.Pairwise (RI k)) (hp : p ≤ Y.length) (h1 : p = 0 ∨ RI k (Y.getD (p - 1) 0) x) (h2 : p = Y.length ∨ RI k x (Y.getD p 0)) : (Y.take p ++ x :: Y.drop p).Pairwise (RI k) := by
  refine ins2 (by rw [List.take_append_drop]; exact hy) (fun r hr => ?_) (fun l hl => ?_)
  · obtain ⟨i, hi, hl, rfl⟩ := mem_drop_getD hr
    rcases h2 with h | h
    · omega
    · exact ri_le_r hy hi hl h
  · obtain ⟨i, hi, hl, rfl⟩ := mem_take_getD hl
    rcases h1 with h | h
    · omega
    · exact ri_le_l hy (by omega) (by omega) h
/-- where the two stretches part -/
theorem sym_split {k : Nat → Int} {X Y : List Nat} (hx : X.Pairwise (RI k)) (hy : Y.Pairwise (RI k)) (h s : Nat) (hs : s ≤ X.length) (hh : s ≤ h) (he : h - s ≤ Y.length) (c1 : s = 0 ∨ h - s = Y.length ∨ RI k (X.getD (s - 1) 0) (Y.getD (h - s) 0)) (c2 : s = X.length ∨ s = h ∨ RI k (Y.getD (h - 1 - s) 0) (X.getD s 0)) : ∀ u ∈ X.take s ++ Y.take (h - s), ∀ v ∈ X.drop s ++ Y.drop (h - s), RI k u v := by
  intro u hu v hv
  rcases List.mem_append.1 hu with hu | hu
  · obtain ⟨i, hi, hil, rfl⟩ := mem_take_getD hu
    rcases List.mem_append.1 hv with hv | hv
    · obtain ⟨j, hj, hjl, rfl⟩ := mem_drop_getD hv
      rcases ri_le hx (i := i) (j := j) (by omega) hjl with e | e
      · exfalso
        have := List.pairwise_iff_getElem.1 hx i j (by omega) hjl (by omega)
        rw [List.getD_eq_getElem?_getD, List.getD_eq_getElem?_getD, List.getElem?_eq_getElem (by omega), List.getElem?_eq_getElem hjl] at e
        unfold RI at this
        simp only [Option.getD_some] at e
        rw [e] at this
        omega
      · exact e
    · obtain ⟨j, hj, hjl, rfl⟩ := mem_drop_getD hv
      rcases c1 with h1 | h1 | h1
      · omega
      · omega
      · exact ri_le_l hx (j := s - 1) (by omega) (by omega) (ri_le_r hy hj hjl h1)
  · obtain ⟨i, hi, hil, rfl⟩ := mem_take_getD hu
    rcases List.mem_append.1 hv with hv | hv
    · obtain ⟨j, hj, hjl, rfl⟩ := mem_drop_getD hv
      rcases c2 with h1 | h1 | h1
      · omega
      · omega
      · exact ri_le_l hy (j := h - 1 - s) (by omega) (by omega) (ri_le_r hx hj hjl h1)
    · obtain ⟨j, hj, hjl, rfl⟩ := mem_drop_getD hv
      rcases ri_le hy (i := i) (j := j) (by omega) hjl with e | e
      · exfalso
        have := List.pairwise_iff_getElem.1 hy i j (by omega) hjl (by omega)
        rw [List.getD_eq_getElem?_getD, List.getD_eq_getElem?_getD, List.getElem?_eq_getElem (by omega), List.getElem?_eq_getElem hjl] at e
        unfold RI at this
        simp only [Option.getD_some] at e
        rw [e] at this
        omega
      · exact e
theorem sym_join {k : Nat → Int} {Z1 Z2 X Y : List Nat} {h s : Nat} (p1 : Z1.Perm (X.take s ++ Y.take (h - s))) (p2 : Z2.Perm (X.drop s ++ Y.drop (h - s))) (s1 : Z1.Pairwise (RI k)) (s2 : Z2.Pairwise (RI k)) (hc : ∀ u ∈ X.take s ++ Y.take (h - s), ∀ v ∈ X.drop s ++ Y.drop (h - s), RI k u v) : (Z1 ++ Z2).Perm (X ++ Y) ∧ (Z1 ++ Z2).Pairwise (RI k) := by
  refine ⟨(p1.append p2).trans ?_, List.pairwise_append.2 ⟨s1, s2, fun a ha b hb => hc a (p1.mem_iff.1 ha) b (p2.mem_iff.1 hb)⟩⟩
  have e1 : X.take s ++ Y.take (h - s) ++ (X.drop s ++ Y.drop (h - s)) = X.take s ++ (Y.take (h - s) ++ X.drop s) ++ Y.drop (h - s) := by simp
  have e2 : X ++ Y = X.take s ++ (X.drop s ++ Y.take (h - s)) ++ Y.drop (h - s) := by
    have a1 := List.take_append_drop s X
    have a2 := List.take_append_drop (h - s) Y
    calc X ++ Y = (X.take s ++ X.drop s) ++ (Y.take (h - s) ++ Y.drop (h - s)) := by rw [a1, a2]
      _ = _ := by simp only [List.append_assoc]
  rw [e1, e2]
  exact ((List.perm_append_comm).append_left _).append_right _
theorem getD_mid (P X Q : List Nat) (i j : Nat) (hj : j = P.length + i) (hi : i < X.length) : (P ++ X ++ Q).getD j 0 = X.getD i 0 := by
  subst hj
  rw [List.getD_eq_getElem?_getD, List.getD_eq_getElem?_getD, List.append_assoc, List.getElem?_append_right (by omega), Nat.add_sub_cancel_left, List.getElem?_append_left hi]

/-- every block of c is sorted, and what stands ahead of a block's start is less than what stands behind -/
def BS (k : Nat → Int) (c : Nat) (D : List Nat) : Prop := ∀ i, ((D.drop (i * c)).take c).Pairwise (RI k) ∧ ∀ x ∈ D.take (i * c), ∀ y ∈ D.drop (i * c), x < y
theorem BS.nil (k : Nat → Int) (c : Nat) : BS k c [] := fun i => ⟨by simp, fun x hx => by simp at hx⟩
theorem BS.drop {k : Nat → Int} {c : Nat} {D : List Nat} (h : BS k c D) (m : Nat) : BS k c (D.drop (m * c)) := by
  intro i
  have h1 := h (m + i)
  rw [Nat.add_mul] at h1
  rw [List.drop_drop]
  refine ⟨h1.1, fun x hx y hy => h1.2 x ?_ y hy⟩
  rw [List.take_drop] at hx
  exact List.mem_of_mem_drop hx
theorem BS.first {k : Nat → Int} {c : Nat} {D : List Nat} (h : BS k c D) : (D.take c).Pairwise (RI k) := by
  have := (h 0).1
  rw [Nat.zero_mul, List.drop_zero] at this
  exact this
theorem BS.cross {k : Nat → Int} {c : Nat} {D : List Nat} (h : BS k c D) : ∀ x ∈ D.take c, ∀ y ∈ D.drop c, x < y := by
  have := (h 1).2
  rw [Nat.one_mul] at this
  exact this
theorem BS.snoc {k : Nat → Int} {c t : Nat} {U Z : List Nat} (h : BS k c U) (hl : U.length = t * c) (hz : Z.length ≤ c) (hs : Z.Pairwise (RI k)) (hc : ∀ x ∈ U, ∀ z ∈ Z, x < z) : BS k c (U ++ Z) := by
  intro i
  rcases Nat.lt_trichotomy i t with hlt | heq | hgt
  · have hi : i * c + c ≤ U.length := by
      rw [hl]
      have := Nat.mul_le_mul_right c (show i + 1 ≤ t by omega)
      rw [Nat.add_mul] at this
      omega
    have h1 := h i
    rw [List.drop_append_of_le_length (by omega), List.take_append_of_le_length (by rw [List.length_drop]; omega), List.take_append_of_le_length (by omega)]
    refine ⟨h1.1, fun x hx y hy => ?_⟩
    rcases List.mem_append.1 hy with hy | hy
    · exact h1.2 x hx y hy
    · exact hc x (List.mem_of_mem_take hx) y hy
  · subst heq
    rw [← hl, List.drop_left, List.take_left, List.take_of_length_le hz]
    exact ⟨hs, hc⟩
  · have hi : (U ++ Z).length ≤ i * c := by
      rw [List.length_append, hl]
      have := Nat.mul_le_mul_right c (show t + 1 ≤ i by omega)
      rw [Nat.add_mul] at this
      omega
    rw [List.drop_of_length_le hi]
    exact ⟨by simp, fun x hx y hy => by simp at hy⟩
theorem BS.all {k : Nat → Int} {c : Nat} {D : List Nat} (h : BS k c D) (hl : D.length ≤ c) : D.Pairwise (RI k) := by
  have := h.first
  rwa [List.take_of_length_le hl] at this

def St1 (k : Nat → Int) (xs : List Nat) (t : Nat) (U V : List Nat) : Prop := U.length = t * 20 ∧ BS k 20 U ∧ V.Pairwise (fun a b => a < b) ∧ (∀ x ∈ U, ∀ y ∈ V, x < y) ∧ (U ++ V).Perm xs
theorem St1.start (k : Nat → Int) {xs : List Nat} (h : xs.Pairwise (fun a b => a < b)) : St1 k xs 0 [] xs := ⟨by simp, BS.nil k 20, h, fun x hx => by simp at hx, List.Perm.refl _⟩
theorem perm_mid {U V Z : List Nat} {n : Nat} (p : Z.Perm (V.take n)) : (U ++ Z ++ V.drop n).Perm (U ++ V) := by
  have h := ((p.append_left U).append_right (V.drop n))
  rw [List.append_assoc U (V.take n), List.take_append_drop] at h
  exact h
theorem St1.next {k : Nat → Int} {xs U V Z : List Nat} {t : Nat} (h : St1 k xs t U V) (hV : 20 ≤ V.length) (p : Z.Perm (V.take 20)) (s : Z.Pairwise (RI k)) : St1 k xs (t + 1) (U ++ Z) (V.drop 20) := by
  obtain ⟨h1, h2, h3, h4, h5⟩ := h
  have hz : Z.length = 20 := by rw [p.length_eq, List.length_take]; omega
  have hm : ∀ z ∈ Z, z ∈ V.take 20 := fun z hz => p.mem_iff.1 hz
  have h3' : (V.take 20 ++ V.drop 20).Pairwise (fun a b => a < b) := by rw [List.take_append_drop]; exact h3
  rw [List.pairwise_append] at h3'
  refine ⟨by rw [List.length_append, h1, hz, Nat.add_mul], h2.snoc h1 (by omega) s fun x hx z hz => h4 x hx z (List.mem_of_mem_take (hm z hz)), h3'.2.1, fun x hx y hy => ?_, (perm_mid p).trans h5⟩
  rcases List.mem_append.1 hx with hx | hx
  · exact h4 x hx y (List.mem_of_mem_drop hy)
  · exact h3'.2.2 x (hm x hx) y hy
theorem St1.last {k : Nat → Int} {xs U V Z : List Nat} {t : Nat} (h : St1 k xs t U V) (hV : V.length < 20) (p : Z.Perm V) (s : Z.Pairwise (RI k)) : BS k 20 (U ++ Z) ∧ (U ++ Z).Perm xs := by
  obtain ⟨h1, h2, h3, h4, h5⟩ := h
  exact ⟨h2.snoc h1 (by rw [p.length_eq]; omega) s fun x hx z hz => h4 x hx z (p.mem_iff.1 hz), (p.append_left U).trans h5⟩
def St3 (k : Nat → Int) (xs : List Nat) (C t : Nat) (U V : List Nat) : Prop := U.length = t * (2 * C) ∧ BS k (2 * C) U ∧ BS k C V ∧ (∀ x ∈ U, ∀ y ∈ V, x < y) ∧ (U ++ V).Perm xs
theorem St3.start {k : Nat → Int} {xs D : List Nat} {C : Nat} (h : BS k C D) (p : D.Perm xs) : St3 k xs C 0 [] D := ⟨by simp, BS.nil k _, h, fun x hx => by simp at hx, p⟩
theorem two_takes (V : List Nat) (C : Nat) : V.take C ++ (V.drop C).take C = V.take (2 * C) := by
  rw [Nat.two_mul, List.take_add]
theorem St3.next {k : Nat → Int} {xs U V Z : List Nat} {C t : Nat} (h : St3 k xs C t U V) (hV : 2 * C ≤ V.length) (p : Z.Perm (V.take C ++ (V.drop C).take C)) (s : Z.Pairwise (RI k)) : St3 k xs C (t + 1) (U ++ Z) (V.drop (2 * C)) := by
  obtain ⟨h1, h2, h3, h4, h5⟩ := h
  rw [two_takes] at p
  have hz : Z.length = 2 * C := by rw [p.length_eq, List.length_take]; omega
  have hm : ∀ z ∈ Z, z ∈ V.take (2 * C) := fun z hz => p.mem_iff.1 hz
  refine ⟨by rw [List.length_append, h1, hz, Nat.add_mul, Nat.one_mul], h2.snoc h1 (by omega) s fun x hx z hz => h4 x hx z (List.mem_of_mem_take (hm z hz)), h3.drop 2, fun x hx y hy => ?_, (perm_mid p).trans h5⟩
  rcases List.mem_append.1 hx with hx | hx
  · exact h4 x hx y (List.mem_of_mem_drop hy)
  · exact (h3 2).2 x (hm x hx) y hy
theorem St3.last {k : Nat → Int} {xs U V Z : List Nat} {C t : Nat} (h : St3 k xs C t U V) (hV : V.length < 2 * C) (p : Z.Perm (V.take C ++ V.drop C)) (s : Z.Pairwise (RI k)) : BS k (2 * C) (U ++ Z) ∧ (U ++ Z).Perm xs := by
  obtain ⟨h1, h2, h3, h4, h5⟩ := h
  rw [List.take_append_drop] at p
  exact ⟨h2.snoc h1 (by rw [p.length_eq]; omega) s fun x hx z hz => h4 x hx z (p.mem_iff.1 hz), (p.append_left U).trans h5⟩
theorem St3.none {k : Nat → Int} {xs U V : List Nat} {C t : Nat} (h : St3 k xs C t U V) (hV : V.length ≤ C) : BS k (2 * C) (U ++ V) ∧ (U ++ V).Perm xs := by
  obtain ⟨h1, h2, h3, h4, h5⟩ := h
  exact ⟨h2.snoc h1 (by omega) (h3.all hV) fun x hx z hz => h4 x hx z hz, h5⟩

end Go.Proofs.YtdagfcflbphoiaaDoor
/- The library's stable sort by the second form: the comparison; insertion. -/
namespace Go.Proofs.YtdagfcflbphoiaaDoor
set_option linter.unusedVariables false
set_option linter.unusedSimpArgs false
open Go.RowKit Ev Hu

theorem callV2 {β : Type} {rec : FuncId → Array Value → M Value} (g : FuncId) (hb : hasBody Tryd.prog g = true) (c : Value) (a b : Value) (k : Value → M β) : callV Tryd.prog rec (.func (.func g) #[] #[c]) [a, b] k = (inside (rec g #[a, b, c])).bind k := by
  unfold callV
  show optK (some _) _ = _
  rw [optK_some_eq]
  simp only [hb]
  rfl
theorem callT {β : Type} {rec : FuncId → Array Value → M Value} (c : Value) (a b : Value) (k : Value → M β) : callV Tryd.prog rec (.func (.func 70) #[] #[c]) [a, b] k = (inside (rec 70 #[a, b, c])).bind k := callV2 _ (by kernel_rfl) c a b k
theorem run_same {β : Type} {W : Nat → Prop} {n0 : Nat} {h : H} {n : Nat} {Q : β → H → Nat → Prop} {lf d : Nat} {f : FuncId} {args : Array Value} {v : Value} {W' : Nat → Prop} (s : Run W' n (evCall2 Tryd.prog gt lf d f args) h n fun v' h' n' => v' = v ∧ h' = h ∧ n' = n) (hn : n0 ≤ n) (hW : ∀ b, b < n → W' b → n0 ≤ b ∨ W b) {k : Value → M β} (x : Run W n0 (k v) h n Q) : Run W n0 ((inside (evCall2 Tryd.prog gt lf d f args)).bind k) h n Q := by
  refine run_call okd s hn hW fun v' h' n' _ _ hq => ?_
  obtain ⟨rfl, rfl, rfl⟩ := hq
  exact x

theorem s_isNaN (lf d : Nat) (h : H) (n : Nat) (x : Int) : Run (fun _ => False) n (evCall2 Tryd.prog gt lf (d + 1) 74 #[.int .i64 x]) h n fun v h' n' => v = .bool false ∧ h' = h ∧ n' = n := by
  rw [sh_cmp_isNaN_int]
  refine Run.inside_ ?_
  unfold b_cmp_isNaN_int
  have e : (x != x) = false := by simp
  try simp (disch := first | omega | assumption | exact one_int _ _ | exact one_slice _ _ _ | exact one_ptr _ | exact one_bool _ | exact one_string _) only [RXA, RXB, Nat.reduceAdd, Nat.reduceLT, wrap_id, wrap_succ, wrap_pred, FX1, e]
theorem s_Compare (lf d : Nat) (h : H) (n : Nat) (x y : Int) : Run (fun _ => False) n (evCall2 Tryd.prog gt lf (d + 2) 71 #[.int .i64 x, .int .i64 y]) h n fun v h' n' => v = .int .i64 (cmp3 x y) ∧ h' = h ∧ n' = n := by
  rw [sh_cmp_Compare_int]
  refine Run.inside_ ?_
  unfold b_cmp_Compare_int
  refine run_same (s_isNaN _ _ _ _ _) (Nat.le_refl _) (fun _ _ h => h.elim) ?_
  refine run_same (s_isNaN _ _ _ _ _) (Nat.le_refl _) (fun _ _ h => h.elim) ?_
  unfold cmp3
  try simp (disch := first | omega | assumption | exact one_int _ _ | exact one_slice _ _ _ | exact one_ptr _ | exact one_bool _ | exact one_string _) only [RXA, RXB, Nat.reduceAdd, Nat.reduceLT, wrap_id, wrap_succ, wrap_pred, FX1]
  by_cases h1 : x < y
  · simp [h1]
  · by_cases h2 : y < x
    · simp [h1, h2]
    · simp [h1, h2]

/-- what a comparison reads: the weights, in a variable that it has captured -/
structure EnvT (h : H) (n g pw : Nat) (ws : List Int) : Prop where
  ex : ∃ wb off cap e1 o1 e2 o2 cs, h.get pw = some ⟨e1, o1, [.slice (some ⟨wb, off, none⟩) ws.length cap]⟩ ∧ h.get wb = some ⟨e2, o2, cs⟩ ∧ wb < n ∧ wb ≠ g ∧ ∀ i, i < ws.length → cs[off + i]? = some (.int .i64 (ws.getD i 0))
  pn : pw < n
  pg : pw ≠ g
theorem EnvT.keeps {h h' : H} {n g pw : Nat} {ws : List Int} (e : EnvT h n g pw ws) (k : ∀ b, b ≠ g → h'.get b = h.get b) : EnvT h' n g pw ws := by
  obtain ⟨⟨wb, off, cap, e1, o1, e2, o2, cs, h1, h2, h3, h4, h5⟩, h6, h7⟩ := e
  exact ⟨⟨wb, off, cap, e1, o1, e2, o2, cs, by rw [k pw h7]; exact h1, by rw [k wb h4]; exact h2, h3, h4, h5⟩, h6, h7⟩
theorem s_cmp (lf d a b : Nat) (h : H) (n g pw : Nat) (ws : List Int) (hE : EnvT h n g pw ws) (ha : a < ws.length) (hb : b < ws.length) : Run (fun _ => False) n (evCall2 Tryd.prog gt lf (d + 3) 70 #[.int .i64 (a : Nat), .int .i64 (b : Nat), .pointer (some ⟨pw, 0, none⟩)]) h n fun v h' n' => v = .int .i64 (cmp3 (keyW ws a) (keyW ws b)) ∧ h' = h ∧ n' = n := by
  obtain ⟨⟨wb, off, cap, e1, o1, e2, o2, cs, h1, h2, h3, h4, h5⟩, h6, h7⟩ := hE
  have c1 : cs[off + a]? = some (.int .i64 (keyW ws a)) := h5 a ha
  have c2 : cs[off + b]? = some (.int .i64 (keyW ws b)) := h5 b hb
  rw [sh_lens_treesOf_1]
  refine Run.inside_ ?_
  unfold b_lens_treesOf_1
  try simp (disch := first | omega | assumption | exact one_int _ _ | exact one_slice _ _ _ | exact one_ptr _ | exact one_bool _ | exact one_string _) only [RXA, RXB, Nat.reduceAdd, Nat.reduceLT, wrap_id, wrap_succ, wrap_pred, FX1, h1, h2, c1, c2]
  refine run_same (s_Compare _ _ _ _ _ _) (Nat.le_refl _) (fun _ _ h => h.elim) ?_
  try simp (disch := first | omega | assumption | exact one_int _ _ | exact one_slice _ _ _ | exact one_ptr _ | exact one_bool _ | exact one_string _) only [RXA, RXB, Nat.reduceAdd, Nat.reduceLT, wrap_id, wrap_succ, wrap_pred, FX1]
theorem nats_get {xs : List Nat} {i : Nat} (h : i < xs.length) : (nats xs)[i]? = some (.int .i64 (xs.getD i 0 : Nat)) := by unfold nats; simp [h]
theorem nats_len (xs : List Nat) : (nats xs).length = xs.length := by unfold nats; simp
theorem nats_set (xs : List Nat) (i v : Nat) : (nats xs).set i (.int .i64 (v : Nat)) = nats (xs.set i v) := by unfold nats; rw [List.map_set]
/-- the leaves' block and nothing else has changed -/
def At (h hr : H) (g : Nat) (xs : List Nat) : Prop := hr.get g = some ⟨3, true, nats xs⟩ ∧ ∀ b, b ≠ g → hr.get b = h.get b
theorem At.set {h hr : H} {g : Nat} {xs ys : List Nat} (a : At h hr g xs) {e : TypeId} {o : Bool} (he : e = 3) (ho : o = true) : At h (hr.set g (some ⟨e, o, nats ys⟩)) g ys := by
  subst he ho
  exact ⟨get_eq _ _ _, fun b hb => by rw [get_ne _ _ hb]; exact a.2 b hb⟩

set_option maxHeartbeats 1000000 in
theorem insB (lf d g n cap pw : Nat) (ws : List Int) (h : H) (pre post Y : List Nat) (x : Nat) (D : List Nat) (N : Nat) (hN : (pre ++ (D ++ x :: Y) ++ post).length = N) (hNb : N ≤ 1000000) (hE : EnvT h n g pw ws) (hg : g < n) (hx : x < ws.length) (hD : ∀ z ∈ D, z < ws.length) {W : Nat → Prop} {n0 : Nat} (hn0 : n0 ≤ n) (hW : n0 ≤ g ∨ W g) {Q : Value → H → Nat → Prop} (k : Ex → Fr → M Value) (x2 x8 x14 : Value)
    (hK : ∀ L R J hr y34, L ++ R = D → (∀ r ∈ R, keyW ws x < keyW ws r) → (L = [] ∨ ¬ keyW ws x < keyW ws (L.getD (L.length - 1) 0)) → At h hr g (pre ++ (L ++ x :: R ++ Y) ++ post) → Run W n0 (k (Ex.exit 2) [(0, .slice (some ⟨g, 0, none⟩) N cap), (1, .int .i64 (pre.length : Nat)), (2, x2), (3, .func (.func 70) #[] #[.pointer (some ⟨pw, 0, none⟩)]), (8, x8), (9, J), (14, x14), (34, y34)]) hr n Q) :
    ∀ (m : Nat) (L R : List Nat) (fu : Nat) (hr : H), L.length = m → m < fu → L ++ R = D → (∀ r ∈ R, keyW ws x < keyW ws r) → At h hr g (pre ++ (L ++ x :: R ++ Y) ++ post) →
      Run W n0 (lpB_slices_insertionSortCmpFunc_int lf (d + 3) fu k (.slice (some ⟨g, 0, none⟩) N cap) (.int .i64 (pre.length : Nat)) x2 (.func (.func 70) #[] #[.pointer (some ⟨pw, 0, none⟩)]) x8 (.int .i64 ((pre.length + m : Nat) : Int)) x14) hr n Q := by
  intro m
  induction m with
  | zero =>
    intro L R fu hr hL hfu hLR hR hA
    obtain ⟨fu, rfl⟩ : ∃ f, fu = f + 1 := ⟨fu - 1, by omega⟩
    have : L = [] := List.length_eq_zero_iff.1 hL
    subst this
    rw [succB_slices_insertionSortCmpFunc_int]
    try simp (disch := first | omega | assumption | exact one_int _ _ | exact one_slice _ _ _ | exact one_ptr _ | exact one_bool _ | exact one_string _) only [RXA, RXB, Nat.reduceAdd, Nat.reduceLT, wrap_id, wrap_succ, wrap_pred, FX1, Int.lt_irrefl]
    exact hK [] R _ hr _ hLR hR (.inl rfl) hA
  | succ m ih =>
    intro L R fu hr hL hfu hLR hR hA
    obtain ⟨fu, rfl⟩ : ∃ f, fu = f + 1 := ⟨fu - 1, by omega⟩
    obtain ⟨L', y, rfl⟩ : ∃ L' y, L = L' ++ [y] := ⟨L.dropLast, L.getLast (by intro e; rw [e] at hL; simp at hL), (List.dropLast_concat_getLast _).symm⟩
    have hL' : L'.length = m := by simp at hL; exact hL
    have hlen : pre.length + (m + 1) < N := by rw [← hN, ← hLR]; simp; omega
    have e1 : ((pre.length : Nat) : Int) < ((pre.length + (m + 1) : Nat) : Int) := by omega
    have e2 : pre ++ (L' ++ [y] ++ x :: R ++ Y) ++ post = (pre ++ L') ++ y :: (x :: R ++ Y ++ post) := by simp
    have e3 : pre ++ (L' ++ [y] ++ x :: R ++ Y) ++ post = (pre ++ L' ++ [y]) ++ x :: (R ++ Y ++ post) := by simp
    have hlx : (pre ++ (L' ++ [y] ++ x :: R ++ Y) ++ post).length = N := by rw [← hN, ← hLR]; simp; omega
    have g1 : (nats (pre ++ (L' ++ [y] ++ x :: R ++ Y) ++ post))[pre.length + (m + 1)]? = some (.int .i64 (x : Nat)) := by
      rw [nats_get (by omega), e3, getD_at _ _ _ _ (by simp; omega)]
    have g2 : (nats (pre ++ (L' ++ [y] ++ x :: R ++ Y) ++ post))[pre.length + m]? = some (.int .i64 (y : Nat)) := by
      rw [nats_get (by omega), e2, getD_at _ _ _ _ (by simp; omega)]
    have hy : y < ws.length := hD y (by rw [← hLR]; simp)
    have w1 : IntKind.i64.wrap (((pre.length + (m + 1) : Nat) : Int) - 1) = ((pre.length + m : Nat) : Int) := by rw [wrap_id (by omega) (by omega)]; omega
    have c0 := hA.1
    have hset : ((pre ++ (L' ++ [y] ++ x :: R ++ Y) ++ post).set (pre.length + (m + 1)) y).set (pre.length + m) x = pre ++ (L' ++ x :: (y :: R) ++ Y) ++ post := by
      rw [e3, set_at _ _ _ _ _ (by simp; omega)]
      have : pre ++ L' ++ [y] ++ y :: (R ++ Y ++ post) = (pre ++ L') ++ y :: (y :: (R ++ Y ++ post)) := by simp
      rw [this, set_at _ _ _ _ _ (by simp; omega)]
      simp
    rw [succB_slices_insertionSortCmpFunc_int]
    try simp (disch := first | omega | assumption | exact one_int _ _ | exact one_slice _ _ _ | exact one_ptr _ | exact one_bool _ | exact one_string _) only [RXA, RXB, Nat.reduceAdd, Nat.reduceLT, wrap_id, wrap_succ, wrap_pred, FX1, e1, c0, g1, g2, w1, callT]
    refine run_same (s_cmp lf d x y hr n g pw ws (hE.keeps hA.2) hx hy) hn0 (fun _ _ h => h.elim) ?_
    have e4 := cmp3_neg (keyW ws x) (keyW ws y)
    try simp (disch := first | omega | assumption | exact one_int _ _ | exact one_slice _ _ _ | exact one_ptr _ | exact one_bool _ | exact one_string _) only [RXA, RXB, Nat.reduceAdd, Nat.reduceLT, wrap_id, wrap_succ, wrap_pred, FX1, e4]
    by_cases hlt : keyW ws x < keyW ws y
    · try simp (disch := first | omega | assumption | exact one_int _ _ | exact one_slice _ _ _ | exact one_ptr _ | exact one_bool _ | exact one_string _) only [RXA, RXB, Nat.reduceAdd, Nat.reduceLT, wrap_id, wrap_succ, wrap_pred, FX1, hlt, c0, g1, g2, w1, nats_len, nats_set, List.length_set, hset]
      refine ⟨by omega, hW, by omega, hW, ?_⟩
      exact ih L' (y :: R) fu _ hL' (by omega) (by rw [← hLR]; simp) (fun r hr => by
        rcases List.mem_cons.1 hr with rfl | hr
        · exact hlt
        · exact hR r hr) ((hA.set rfl rfl).set rfl rfl)
    · try simp (disch := first | omega | assumption | exact one_int _ _ | exact one_slice _ _ _ | exact one_ptr _ | exact one_bool _ | exact one_string _) only [RXA, RXB, Nat.reduceAdd, Nat.reduceLT, wrap_id, wrap_succ, wrap_pred, FX1, hlt]
      exact hK (L' ++ [y]) R _ hr _ hLR hR (.inr (by simpa using hlt)) hA

theorem insA (lf d g n cap pw : Nat) (ws : List Int) (h : H) (pre post seg : List Nat) (N : Nat) (hlf : 2000000 ≤ lf) (hN : (pre ++ seg ++ post).length = N) (hNb : N ≤ 1000000) (hE : EnvT h n g pw ws) (hg : g < n) (hin : ∀ z ∈ seg, z < ws.length) (hst : seg.Pairwise (fun a b => keyW ws a = keyW ws b → a < b)) {W : Nat → Prop} {n0 : Nat} (hn0 : n0 ≤ n) (hW : n0 ≤ g ∨ W g) {Q : Value → H → Nat → Prop} (k : Ex → Fr → M Value)
    (hK : ∀ D hr y14, D.Perm seg → D.Pairwise (RI (keyW ws)) → At h hr g (pre ++ D ++ post) → Run W n0 (k (Ex.exit 0) [(0, .slice (some ⟨g, 0, none⟩) N cap), (1, .int .i64 (pre.length : Nat)), (2, .int .i64 ((pre.length + seg.length : Nat) : Int)), (3, .func (.func 70) #[] #[.pointer (some ⟨pw, 0, none⟩)]), (8, .int .i64 ((pre.length + seg.length : Nat) : Int)), (14, y14)]) hr n Q) :
    ∀ (Y D D0 : List Nat) (fu : Nat) (hr : H), Y.length < fu → seg = D0 ++ Y → D.Perm D0 → D.Pairwise (RI (keyW ws)) → At h hr g (pre ++ (D ++ Y) ++ post) →
      Run W n0 (lpA_slices_insertionSortCmpFunc_int lf (d + 3) fu k (.slice (some ⟨g, 0, none⟩) N cap) (.int .i64 (pre.length : Nat)) (.int .i64 ((pre.length + seg.length : Nat) : Int)) (.func (.func 70) #[] #[.pointer (some ⟨pw, 0, none⟩)]) (.int .i64 ((pre.length + D.length : Nat) : Int))) hr n Q := by
  intro Y
  induction Y with
  | nil =>
    intro D D0 fu hr hfu hs hp hpw hA
    obtain ⟨fu, rfl⟩ : ∃ f, fu = f + 1 := ⟨fu - 1, by simp at hfu; omega⟩
    rw [List.append_nil] at hs hA
    subst hs
    rw [hp.length_eq]
    rw [succA_slices_insertionSortCmpFunc_int]
    try simp (disch := first | omega | assumption | exact one_int _ _ | exact one_slice _ _ _ | exact one_ptr _ | exact one_bool _ | exact one_string _) only [RXA, RXB, Nat.reduceAdd, Nat.reduceLT, wrap_id, wrap_succ, wrap_pred, FX1, Int.lt_irrefl]
    exact hK D hr _ hp hpw hA
  | cons x Y ih =>
    intro D D0 fu hr hfu hs hp hpw hA
    obtain ⟨fu, rfl⟩ : ∃ f, fu = f + 1 := ⟨fu - 1, by omega⟩
    have hl0 := hp.length_eq
    have hsl : seg.length = D.length + 1 + Y.length := by rw [hs]; simp; omega
    have hNs : pre.length + seg.length + post.length = N := by rw [← hN]; simp; omega
    have e1 : ((pre.length + D.length : Nat) : Int) < ((pre.length + seg.length : Nat) : Int) := by omega
    have hx : x < ws.length := hin x (by rw [hs]; simp)
    have hD : ∀ z ∈ D, z < ws.length := fun z hz => hin z (by rw [hs]; simp [hp.mem_iff.1 hz])
    have hDx : ∀ z ∈ D, keyW ws z = keyW ws x → z < x := by
      intro z hz
      have h3 := hst
      rw [hs, List.pairwise_append] at h3
      exact h3.2.2 z (hp.mem_iff.1 hz) x (by simp)
    rw [succA_slices_insertionSortCmpFunc_int]
    try simp (disch := first | omega | assumption | exact one_int _ _ | exact one_slice _ _ _ | exact one_ptr _ | exact one_bool _ | exact one_string _) only [RXA, RXB, Nat.reduceAdd, Nat.reduceLT, wrap_id, wrap_succ, wrap_pred, FX1, e1]
    refine insB lf d g n cap pw ws h pre post Y x D N (by rw [← hN, hs]; simp; omega) hNb hE hg hx hD hn0 hW _ _ _ _ (fun L R J hr2 y34 hLR hR hend hA2 => ?_) D.length D [] lf hr rfl (by omega) (by simp) (by simp) (by simpa using hA)
    rw [kcBa_slices_insertionSortCmpFunc_int]
    try simp (disch := first | omega | assumption | exact one_int _ _ | exact one_slice _ _ _ | exact one_ptr _ | exact one_bool _ | exact one_string _) only [RXA, RXB, Nat.reduceAdd, Nat.reduceLT, wrap_id, wrap_succ, wrap_pred, FX1]
    have hlen : (L ++ x :: R).length = D.length + 1 := by rw [← hLR]; simp; omega
    have e3 : ((pre.length + D.length + 1 : Nat) : Int) = ((pre.length + (L ++ x :: R).length : Nat) : Int) := by rw [hlen]; omega
    have e4 : ((pre.length + D.length : Nat) : Int) + 1 = ((pre.length + (L ++ x :: R).length : Nat) : Int) := by rw [hlen]; omega
    first | rw [e3] | rw [e4]
    refine ih (L ++ x :: R) (D0 ++ [x]) fu hr2 (by simp at hfu; omega) (by rw [hs]; simp) ?_ ?_ hA2
    · refine (List.perm_middle.trans ?_ : (L ++ x :: R).Perm (D0 ++ [x]))
      rw [hLR]
      exact (hp.cons x).trans (List.perm_append_singleton x D0).symm
    · refine ins_sorted (by rw [hLR]; exact hpw) hR (fun l hl => ?_) (fun l hl => hDx l (by rw [← hLR]; simp [hl]))
      rcases hend with h | h2
      · rw [h] at hl; simp at hl
      · have h4 : (L ++ R).Pairwise (RI (keyW ws)) := by rw [hLR]; exact hpw
        obtain ⟨i, hi, e⟩ := List.mem_iff_getElem.1 hl
        rcases ri_le (List.pairwise_append.1 h4).1 (i := i) (j := L.length - 1) (by omega) (by omega) with q | q
        · have : l = L.getD (L.length - 1) 0 := by rw [← q, ← e]; simp [hi]
          rw [this]; omega
        · have : L.getD i 0 = l := by rw [← e]; simp [hi]
          rw [this] at q
          unfold RI at q
          omega

/-- insertion sort of a stretch of the leaves -/
theorem s_ins (lf d g n cap pw : Nat) (ws : List Int) (h : H) (pre seg post : List Nat) (N : Nat) (hlf : 2000000 ≤ lf) (hN : (pre ++ seg ++ post).length = N) (hNb : N ≤ 1000000) (h1 : 1 ≤ seg.length) (hE : EnvT h n g pw ws) (hg : g < n) (hh : h.get g = some ⟨3, true, nats (pre ++ seg ++ post)⟩) (hin : ∀ z ∈ seg, z < ws.length) (hst : seg.Pairwise (fun a b => a < b)) (a b : Int) (ha : a = (pre.length : Nat)) (hb : b = ((pre.length + seg.length : Nat) : Int)) :
    Run (fun x => x = g) n (evCall2 Tryd.prog gt lf (d + 4) 75 #[.slice (some ⟨g, 0, none⟩) N cap, .int .i64 a, .int .i64 b, .func (.func 70) #[] #[.pointer (some ⟨pw, 0, none⟩)]]) h n fun v h' n' => n' = n ∧ ∃ D, D.Perm seg ∧ D.Pairwise (RI (keyW ws)) ∧ At h h' g (pre ++ D ++ post) := by
  subst ha hb
  rw [sh_slices_insertionSortCmpFunc_int]
  refine Run.inside_ ?_
  unfold b_slices_insertionSortCmpFunc_int
  have hpl : pre.length ≤ N := by rw [← hN]; simp
  try simp (disch := first | omega | assumption | exact one_int _ _ | exact one_slice _ _ _ | exact one_ptr _ | exact one_bool _ | exact one_string _) only [RXA, RXB, Nat.reduceAdd, Nat.reduceLT, wrap_id, wrap_succ, wrap_pred, FX1]
  obtain ⟨s0, s1, rfl⟩ : ∃ s0 s1, seg = s0 :: s1 := by
    cases seg with
    | nil => simp at h1
    | cons s0 s1 => exact ⟨s0, s1, rfl⟩
  rw [show ((pre.length : Nat) : Int) + 1 = ((pre.length + [s0].length : Nat) : Int) by simp]
  refine insA (W := fun x => x = g) lf d g n cap pw ws h pre post (s0 :: s1) N hlf hN hNb hE hg hin (hst.imp (S := fun a b => keyW ws a = keyW ws b → a < b) fun {_ _} q _ => q) (Nat.le_refl _) (.inr rfl) _ (fun D hr y14 hp hs hA => ?_) s1 [s0] [s0] lf h (by simp at hN; omega) rfl (List.Perm.refl _) (List.pairwise_singleton _ _) ⟨by simpa using hh, fun b hb => rfl⟩
  rw [kcAa_slices_insertionSortCmpFunc_int]
  try simp (disch := first | omega | assumption | exact one_int _ _ | exact one_slice _ _ _ | exact one_ptr _ | exact one_bool _ | exact one_string _) only [RXA, RXB, Nat.reduceAdd, Nat.reduceLT, wrap_id, wrap_succ, wrap_pred, FX1]
  exact ⟨D, hp, hs, hA⟩

end Go.Proofs.YtdagfcflbphoiaaDoor
/- The library's swap of two stretches and its rotation, by the second form. -/
namespace Go.Proofs.YtdagfcflbphoiaaDoor
set_option linter.unusedVariables false
set_option linter.unusedSimpArgs false
open Go.RowKit Ev Hu

theorem At.trans {h h1 h2 : H} {g : Nat} {xs ys : List Nat} (a : At h h1 g xs) (b : At h1 h2 g ys) : At h h2 g ys := ⟨b.1, fun c hc => (b.2 c hc).trans (a.2 c hc)⟩
theorem swA (lf d g n cap : Nat) (h : H) (P Z Q : List Nat) (U V : List Nat) (N : Nat) (hN : (P ++ U ++ Z ++ V ++ Q).length = N) (hNb : N ≤ 1000000) (hg : g < n) {W : Nat → Prop} {n0 : Nat} (hW : n0 ≤ g ∨ W g) {R : Value → H → Nat → Prop} (k : Ex → Fr → M Value)
    (hK : ∀ hr y13 y10, At h hr g (P ++ V ++ Z ++ U ++ Q) → Run W n0 (k (Ex.exit 0) [(0, .slice (some ⟨g, 0, none⟩) N cap), (1, .int .i64 (P.length : Nat)), (2, .int .i64 ((P.length + U.length + Z.length : Nat) : Int)), (3, .int .i64 (U.length : Nat)), (10, y10), (13, y13)]) hr n R) :
    ∀ (U2 V2 U1 V1 : List Nat) (fu : Nat) (hr : H), U2.length < fu → U2.length = V2.length → U1.length = V1.length → U1 ++ U2 = U → V1 ++ V2 = V → At h hr g (P ++ V1 ++ U2 ++ Z ++ U1 ++ V2 ++ Q) →
      Run W n0 (lpA_slices_swapRangeCmpFunc_int lf d fu k (.slice (some ⟨g, 0, none⟩) N cap) (.int .i64 (P.length : Nat)) (.int .i64 ((P.length + U.length + Z.length : Nat) : Int)) (.int .i64 (U.length : Nat)) (.int .i64 (U1.length : Nat))) hr n R := by
  intro U2
  induction U2 with
  | nil =>
    intro V2 U1 V1 fu hr hfu h1 h2 e1 e2 hA
    obtain ⟨fu, rfl⟩ : ∃ f, fu = f + 1 := ⟨fu - 1, by simp at hfu; omega⟩
    have : V2 = [] := List.length_eq_zero_iff.1 h1.symm
    subst this
    rw [List.append_nil] at e1 e2
    subst e1 e2
    rw [succA_slices_swapRangeCmpFunc_int]
    try simp (disch := first | omega | assumption | exact one_int _ _ | exact one_slice _ _ _ | exact one_ptr _ | exact one_bool _ | exact one_string _) only [RXA, RXB, Nat.reduceAdd, Nat.reduceLT, wrap_id, wrap_succ, wrap_pred, FX1, Int.lt_irrefl]
    exact hK hr _ _ (by simpa using hA)
  | cons u U2 ih =>
    intro V2 U1 V1 fu hr hfu h1 h2 e1 e2 hA
    obtain ⟨fu, rfl⟩ : ∃ f, fu = f + 1 := ⟨fu - 1, by omega⟩
    obtain ⟨v, V2, rfl⟩ : ∃ v V3, V2 = v :: V3 := by
      cases V2 with
      | nil => simp at h1
      | cons x Y => exact ⟨x, Y, rfl⟩
    have l1 := congrArg List.length e1
    have l2 := congrArg List.length e2
    simp only [List.length_append, List.length_cons] at l1 l2 h1 hN hfu
    have b1 : ((U1.length : Nat) : Int) < ((U.length : Nat) : Int) := by omega
    have s1 : P ++ V1 ++ u :: U2 ++ Z ++ U1 ++ v :: V2 ++ Q = (P ++ V1) ++ u :: (U2 ++ Z ++ U1 ++ v :: V2 ++ Q) := by simp
    have s2 : P ++ V1 ++ u :: U2 ++ Z ++ U1 ++ v :: V2 ++ Q = (P ++ V1 ++ u :: U2 ++ Z ++ U1) ++ v :: (V2 ++ Q) := by simp
    have s3 : (P ++ V1) ++ v :: (U2 ++ Z ++ U1 ++ v :: V2 ++ Q) = (P ++ V1 ++ v :: U2 ++ Z ++ U1) ++ v :: (V2 ++ Q) := by simp
    have hl : (P ++ V1 ++ u :: U2 ++ Z ++ U1 ++ v :: V2 ++ Q).length = N := by simp only [List.length_append, List.length_cons]; omega
    have w1 : IntKind.i64.wrap (((P.length : Nat) : Int) + ((U1.length : Nat) : Int)) = ((P.length + U1.length : Nat) : Int) := by rw [wrap_id (by omega) (by omega)]; omega
    have w2 : IntKind.i64.wrap (((P.length + U.length + Z.length : Nat) : Int) + ((U1.length : Nat) : Int)) = ((P.length + U.length + Z.length + U1.length : Nat) : Int) := by rw [wrap_id (by omega) (by omega)]; omega
    have g1 : (nats (P ++ V1 ++ u :: U2 ++ Z ++ U1 ++ v :: V2 ++ Q))[P.length + U1.length]? = some (.int .i64 (u : Nat)) := by
      rw [nats_get (by omega), s1, getD_at _ _ _ _ (by simp; omega)]
    have g2 : (nats (P ++ V1 ++ u :: U2 ++ Z ++ U1 ++ v :: V2 ++ Q))[P.length + U.length + Z.length + U1.length]? = some (.int .i64 (v : Nat)) := by
      rw [nats_get (by omega), s2, getD_at _ _ _ _ (by simp; omega)]
    have hset : ((P ++ V1 ++ u :: U2 ++ Z ++ U1 ++ v :: V2 ++ Q).set (P.length + U1.length) v).set (P.length + U.length + Z.length + U1.length) u = P ++ (V1 ++ [v]) ++ U2 ++ Z ++ (U1 ++ [u]) ++ V2 ++ Q := by
      rw [s1, set_at _ _ _ _ _ (by simp; omega), s3, set_at _ _ _ _ _ (by simp; omega)]
      simp
    have c0 := hA.1
    rw [succA_slices_swapRangeCmpFunc_int]
    try simp (disch := first | omega | assumption | exact one_int _ _ | exact one_slice _ _ _ | exact one_ptr _ | exact one_bool _ | exact one_string _) only [RXA, RXB, Nat.reduceAdd, Nat.reduceLT, wrap_id, wrap_succ, wrap_pred, FX1, b1, c0, g1, g2, w1, w2, nats_len, nats_set, List.length_set, hset]
    refine ⟨by omega, hW, by omega, hW, ?_⟩
    have := ih V2 (U1 ++ [u]) (V1 ++ [v]) fu _ (by omega) (by omega) (by simp [h2]) (by rw [← e1]; simp) (by rw [← e2]; simp) ((hA.set (ys := (P ++ V1 ++ u :: U2 ++ Z ++ U1 ++ v :: V2 ++ Q).set (P.length + U1.length) v) rfl rfl).set (ys := P ++ (V1 ++ [v]) ++ U2 ++ Z ++ (U1 ++ [u]) ++ V2 ++ Q) rfl rfl)
    rw [show (U1 ++ [u]).length = U1.length + 1 by simp] at this
    exact this
theorem s_swap (lf d g n cap : Nat) (h : H) (P U Z V Q : List Nat) (N : Nat) (f : Value) (a b c : Int) (hlf : 2000000 ≤ lf) (hN : (P ++ U ++ Z ++ V ++ Q).length = N) (hNb : N ≤ 1000000) (hUV : U.length = V.length) (hg : g < n) (ha : a = (P.length : Nat)) (hb : b = ((P.length + U.length + Z.length : Nat) : Int)) (hc : c = (U.length : Nat)) (hh : h.get g = some ⟨3, true, nats (P ++ U ++ Z ++ V ++ Q)⟩) :
    Run (fun x => x = g) n (evCall2 Tryd.prog gt lf (d + 1) 78 #[.slice (some ⟨g, 0, none⟩) N cap, .int .i64 a, .int .i64 b, .int .i64 c, f]) h n fun v h' n' => n' = n ∧ At h h' g (P ++ V ++ Z ++ U ++ Q) := by
  subst ha hb hc
  rw [sh_slices_swapRangeCmpFunc_int]
  refine Run.inside_ ?_
  unfold b_slices_swapRangeCmpFunc_int
  have hl : U.length ≤ N := by rw [← hN]; simp; omega
  refine swA (W := fun x => x = g) lf d g n cap h P Z Q U V N hN hNb hg (.inr rfl) _ (fun hr y13 y10 hA => ?_) U V [] [] lf h (by omega) hUV rfl rfl rfl ⟨by simpa using hh, fun b hb => rfl⟩
  rw [kcAa_slices_swapRangeCmpFunc_int]
  try simp (disch := first | omega | assumption | exact one_int _ _ | exact one_slice _ _ _ | exact one_ptr _ | exact one_bool _ | exact one_string _) only [RXA, RXB, Nat.reduceAdd, Nat.reduceLT, wrap_id, wrap_succ, wrap_pred, FX1]
  exact hA

theorem roA (lf d g n cap : Nat) (h : H) (f : Value) (T : List Nat) (N Mi : Nat) (x1 x3 : Value) (hlf : 2000000 ≤ lf) (hT : T.length = N) (hNb : N ≤ 1000000) (hg : g < n) {W : Nat → Prop} {n0 : Nat} (hn0 : n0 ≤ n) (hW : n0 ≤ g ∨ W g) {R : Value → H → Nat → Prop} (k : Ex → Fr → M Value)
    (hK : ∀ hr y20 (I : Nat) P U V Q, I = U.length → U.length = V.length → P.length + I = Mi → P ++ V ++ U ++ Q = T → At h hr g (P ++ U ++ V ++ Q) → Run W n0 (k (Ex.exit 0) [(0, .slice (some ⟨g, 0, none⟩) N cap), (1, x1), (2, .int .i64 (Mi : Nat)), (3, x3), (4, f), (10, .int .i64 (I : Nat)), (11, .int .i64 (I : Nat)), (20, y20)]) hr n R) :
    ∀ (m : Nat) (P U V Q : List Nat) (fu : Nat) (hr : H), U.length + V.length ≤ m → m < fu → 1 ≤ U.length → 1 ≤ V.length → P.length + U.length = Mi → P ++ V ++ U ++ Q = T → At h hr g (P ++ U ++ V ++ Q) →
      Run W n0 (lpA_slices_rotateCmpFunc_int lf (d + 1) fu k (.slice (some ⟨g, 0, none⟩) N cap) x1 (.int .i64 (Mi : Nat)) x3 f (.int .i64 (U.length : Nat)) (.int .i64 (V.length : Nat))) hr n R := by
  intro m
  induction m with
  | zero => intro P U V Q fu hr h1 _ h2; omega
  | succ m ih =>
    intro P U V Q fu hr hm hfu hU hV hP hE hA
    obtain ⟨fu, rfl⟩ : ∃ f, fu = f + 1 := ⟨fu - 1, by omega⟩
    have lT := congrArg List.length hE
    simp only [List.length_append] at lT
    rw [hT] at lT
    rw [succA_slices_rotateCmpFunc_int]
    by_cases heq : U.length = V.length
    · have e1 : (((U.length : Nat) : Int) != ((V.length : Nat) : Int)) = false := by rw [heq]; simp
      try simp (disch := first | omega | assumption | exact one_int _ _ | exact one_slice _ _ _ | exact one_ptr _ | exact one_bool _ | exact one_string _) only [RXA, RXB, Nat.reduceAdd, Nat.reduceLT, wrap_id, wrap_succ, wrap_pred, FX1, e1]
      rw [← heq]
      exact hK hr _ _ P U V Q rfl heq hP hE hA
    · have e1 : (((U.length : Nat) : Int) != ((V.length : Nat) : Int)) = true := by simp; omega
      by_cases hgt : V.length < U.length
      · have e2 : ((V.length : Nat) : Int) < ((U.length : Nat) : Int) := by omega
        have w1 : IntKind.i64.wrap (((U.length : Nat) : Int) - ((V.length : Nat) : Int)) = ((U.length - V.length : Nat) : Int) := by rw [wrap_id (by omega) (by omega)]; omega
        have w2 : IntKind.i64.wrap (((Mi : Nat) : Int) - ((U.length : Nat) : Int)) = ((P.length : Nat) : Int) := by rw [wrap_id (by omega) (by omega)]; omega
        try simp (disch := first | omega | assumption | exact one_int _ _ | exact one_slice _ _ _ | exact one_ptr _ | exact one_bool _ | exact one_string _) only [RXA, RXB, Nat.reduceAdd, Nat.reduceLT, wrap_id, wrap_succ, wrap_pred, FX1, e1, e2, w1, w2]
        have hU1 : (U.take V.length).length = V.length := by rw [List.length_take]; omega
        have hs : P ++ U ++ V ++ Q = P ++ U.take V.length ++ U.drop V.length ++ V ++ Q := by rw [List.append_assoc P (U.take _), List.take_append_drop]
        refine run_call okd (s_swap lf d g n cap hr P (U.take V.length) (U.drop V.length) V Q N f _ _ _ hlf (by rw [← hs]; simp; omega) hNb hU1 hg rfl (by rw [hU1, List.length_drop]; omega) (by rw [hU1]) (by rw [← hs]; exact hA.1)) hn0 (fun b _ hb => hb ▸ hW) fun v h1 n1 _ _ hq => ?_
        obtain ⟨rfl, hA1⟩ := hq
        try simp (disch := first | omega | assumption | exact one_int _ _ | exact one_slice _ _ _ | exact one_ptr _ | exact one_bool _ | exact one_string _) only [RXA, RXB, Nat.reduceAdd, Nat.reduceLT, wrap_id, wrap_succ, wrap_pred, FX1, w1]
        have hA2 := hA.trans hA1
        have := ih (P ++ V) (U.drop V.length) (U.take V.length) Q fu h1 (by rw [hU1, List.length_drop]; omega) (by omega) (by rw [List.length_drop]; omega) (by omega) (by rw [List.length_append, List.length_drop]; omega) (by rw [← hE]; simp) hA2
        rw [hU1, List.length_drop] at this
        exact this
      · have e2 : ¬ ((V.length : Nat) : Int) < ((U.length : Nat) : Int) := by omega
        have w1 : IntKind.i64.wrap (((V.length : Nat) : Int) - ((U.length : Nat) : Int)) = ((V.length - U.length : Nat) : Int) := by rw [wrap_id (by omega) (by omega)]; omega
        have w2 : IntKind.i64.wrap (((Mi : Nat) : Int) - ((U.length : Nat) : Int)) = ((P.length : Nat) : Int) := by rw [wrap_id (by omega) (by omega)]; omega
        have w3 : IntKind.i64.wrap (((Mi : Nat) : Int) + ((V.length : Nat) : Int)) = ((Mi + V.length : Nat) : Int) := by rw [wrap_id (by omega) (by omega)]; omega
        have w4 : IntKind.i64.wrap (((Mi + V.length : Nat) : Int) - ((U.length : Nat) : Int)) = ((P.length + V.length : Nat) : Int) := by rw [wrap_id (by omega) (by omega)]; omega
        try simp (disch := first | omega | assumption | exact one_int _ _ | exact one_slice _ _ _ | exact one_ptr _ | exact one_bool _ | exact one_string _) only [RXA, RXB, Nat.reduceAdd, Nat.reduceLT, wrap_id, wrap_succ, wrap_pred, FX1, e1, e2, w1, w2, w3, w4]
        have hV1 : (V.drop (V.length - U.length)).length = U.length := by rw [List.length_drop]; omega
        have hV2 : (V.take (V.length - U.length)).length = V.length - U.length := by rw [List.length_take]; omega
        have hs : P ++ U ++ V ++ Q = P ++ U ++ V.take (V.length - U.length) ++ V.drop (V.length - U.length) ++ Q := by
          rw [List.append_assoc (P ++ U) (V.take _), List.take_append_drop]
        refine run_call okd (s_swap lf d g n cap hr P U (V.take (V.length - U.length)) (V.drop (V.length - U.length)) Q N f _ _ _ hlf (by rw [← hs]; simp; omega) hNb hV1.symm hg rfl (by rw [hV2]; omega) rfl (by rw [← hs]; exact hA.1)) hn0 (fun b _ hb => hb ▸ hW) fun v h1 n1 _ _ hq => ?_
        obtain ⟨rfl, hA1⟩ := hq
        try simp (disch := first | omega | assumption | exact one_int _ _ | exact one_slice _ _ _ | exact one_ptr _ | exact one_bool _ | exact one_string _) only [RXA, RXB, Nat.reduceAdd, Nat.reduceLT, wrap_id, wrap_succ, wrap_pred, FX1, w1]
        have hA2 := hA.trans hA1
        have := ih P (V.drop (V.length - U.length)) (V.take (V.length - U.length)) (U ++ Q) fu h1 (by omega) (by omega) (by omega) (by omega) (by omega) (by rw [← hE]; rw [← List.append_assoc, List.append_assoc P, List.take_append_drop]) (by rw [← List.append_assoc]; exact hA2)
        rw [hV1, hV2] at this
        exact this
theorem s_rot (lf d g n cap : Nat) (h : H) (P X Y Q : List Nat) (N : Nat) (f : Value) (a m b : Int) (hlf : 3000000 ≤ lf) (hN : (P ++ X ++ Y ++ Q).length = N) (hNb : N ≤ 1000000) (hX : 1 ≤ X.length) (hY : 1 ≤ Y.length) (hg : g < n) (ha : a = (P.length : Nat)) (hm : m = ((P.length + X.length : Nat) : Int)) (hb : b = ((P.length + X.length + Y.length : Nat) : Int)) (hh : h.get g = some ⟨3, true, nats (P ++ X ++ Y ++ Q)⟩) :
    Run (fun x => x = g) n (evCall2 Tryd.prog gt lf (d + 2) 77 #[.slice (some ⟨g, 0, none⟩) N cap, .int .i64 a, .int .i64 m, .int .i64 b, f]) h n fun v h' n' => n' = n ∧ At h h' g (P ++ Y ++ X ++ Q) := by
  subst ha hm hb
  rw [sh_slices_rotateCmpFunc_int]
  refine Run.inside_ ?_
  unfold b_slices_rotateCmpFunc_int
  have lN := hN
  simp only [List.length_append] at lN
  have w1 : IntKind.i64.wrap (((P.length + X.length : Nat) : Int) - ((P.length : Nat) : Int)) = ((X.length : Nat) : Int) := by rw [wrap_id (by omega) (by omega)]; omega
  have w2 : IntKind.i64.wrap (((P.length + X.length + Y.length : Nat) : Int) - ((P.length + X.length : Nat) : Int)) = ((Y.length : Nat) : Int) := by rw [wrap_id (by omega) (by omega)]; omega
  try simp (disch := first | omega | assumption | exact one_int _ _ | exact one_slice _ _ _ | exact one_ptr _ | exact one_bool _ | exact one_string _) only [RXA, RXB, Nat.reduceAdd, Nat.reduceLT, wrap_id, wrap_succ, wrap_pred, FX1, w1, w2]
  refine roA (W := fun x => x = g) lf d g n cap h f (P ++ Y ++ X ++ Q) N (P.length + X.length) _ _ (by omega) (by rw [← hN]; simp; omega) hNb hg (Nat.le_refl _) (.inr rfl) _ (fun hr y20 I P1 U V Q1 hI hUV hP hE hA => ?_) _ P X Y Q lf h (Nat.le_refl _) (by omega) hX hY rfl rfl ⟨hh, fun b hb => rfl⟩
  rw [kcAa_slices_rotateCmpFunc_int]
  have lT := congrArg List.length hE
  simp only [List.length_append] at lT
  have w3 : IntKind.i64.wrap (((P.length + X.length : Nat) : Int) - ((I : Nat) : Int)) = ((P1.length : Nat) : Int) := by rw [wrap_id (by omega) (by omega)]; omega
  try simp (disch := first | omega | assumption | exact one_int _ _ | exact one_slice _ _ _ | exact one_ptr _ | exact one_bool _ | exact one_string _) only [RXA, RXB, Nat.reduceAdd, Nat.reduceLT, wrap_id, wrap_succ, wrap_pred, FX1, w3]
  refine run_call okd (s_swap lf d g n cap hr P1 U [] V Q1 N f _ _ _ (by omega) (by rw [← hN]; simp; omega) hNb hUV hg rfl (by simp; omega) (by rw [hI]) (by rw [List.append_nil]; exact hA.1)) (Nat.le_refl _) (fun b _ hb => .inr hb) fun v h1 n1 _ _ hq => ?_
  obtain ⟨rfl, hA1⟩ := hq
  try simp (disch := first | omega | assumption | exact one_int _ _ | exact one_slice _ _ _ | exact one_ptr _ | exact one_bool _ | exact one_string _) only [RXA, RXB, Nat.reduceAdd, Nat.reduceLT, wrap_id, wrap_succ, wrap_pred, FX1]
  rw [List.append_nil, hE] at hA1
  exact hA.trans hA1

end Go.Proofs.YtdagfcflbphoiaaDoor
/- The library's merge in place, by the second form: one element ahead, one element behind. -/
namespace Go.Proofs.YtdagfcflbphoiaaDoor
set_option linter.unusedVariables false
set_option linter.unusedSimpArgs false
open Go.RowKit Ev Hu

theorem wrap_u64 {x : Int} (h0 : 0 ≤ x) (h1 : x ≤ 9223372036854775807) : IntKind.u64.wrap x = x := by
  unfold IntKind.wrap
  have : (2 : Int) ^ IntKind.u64.bits = 18446744073709551616 := by decide
  simp only [show IntKind.u64.signed = false from rfl, Bool.false_eq_true, false_and, if_false, this]
  exact Int.emod_eq_of_lt h0 (by omega)
theorem half1 (x : Int) : x.fdiv (2 ^ min 1 IntKind.u64.bits) = x / 2 := by
  rw [show min 1 IntKind.u64.bits = 1 from rfl, Int.pow_succ, Int.pow_zero, Int.one_mul, Int.fdiv_eq_ediv_of_nonneg _ (by omega)]
theorem half2 (x : Int) : x.fdiv (2 ^ min (Int.toNat 1) IntKind.u64.bits) = x / 2 := half1 x

/-- of sorted Y the place for the one element ahead -/
theorem symA (lf d g n cap pw : Nat) (ws : List Int) (h : H) (P Y Q : List Nat) (x : Nat) (N : Nat) (hN : (P ++ x :: Y ++ Q).length = N) (hNb : N ≤ 1000000) (hE : EnvT h n g pw ws) (hg : g < n) (hh : h.get g = some ⟨3, true, nats (P ++ x :: Y ++ Q)⟩) (hx : x < ws.length) (hY : ∀ z ∈ Y, z < ws.length) {W : Nat → Prop} {n0 : Nat} (hn0 : n0 ≤ n) {R : Value → H → Nat → Prop} (k : Ex → Fr → M Value) (x2 x3 x28 : Value)
    (hK : ∀ p y33, p ≤ Y.length → (p = 0 ∨ keyW ws (Y.getD (p - 1) 0) < keyW ws x) → (p = Y.length ∨ ¬ keyW ws (Y.getD p 0) < keyW ws x) → Run W n0 (k (Ex.exit 0) [(0, .slice (some ⟨g, 0, none⟩) N cap), (1, .int .i64 (P.length : Nat)), (2, x2), (3, x3), (4, .func (.func 70) #[] #[.pointer (some ⟨pw, 0, none⟩)]), (10, .int .i64 ((P.length + 1 + p : Nat) : Int)), (11, .int .i64 ((P.length + 1 + p : Nat) : Int)), (28, x28), (33, y33)]) h n R) :
    ∀ (m p q fu : Nat), q - p ≤ m → m < fu → p ≤ q → q ≤ Y.length → (p = 0 ∨ keyW ws (Y.getD (p - 1) 0) < keyW ws x) → (q = Y.length ∨ ¬ keyW ws (Y.getD q 0) < keyW ws x) →
      Run W n0 (lpA_slices_symMergeCmpFunc_int lf (d + 3) fu k (.slice (some ⟨g, 0, none⟩) N cap) (.int .i64 (P.length : Nat)) x2 x3 (.func (.func 70) #[] #[.pointer (some ⟨pw, 0, none⟩)]) (.int .i64 ((P.length + 1 + p : Nat) : Int)) (.int .i64 ((P.length + 1 + q : Nat) : Int)) x28) h n R := by
  have lN := hN
  simp only [List.length_append, List.length_cons] at lN
  intro m
  induction m with
  | zero =>
    intro p q fu hm hfu hpq hq h1 h2
    obtain ⟨fu, rfl⟩ : ∃ f, fu = f + 1 := ⟨fu - 1, by omega⟩
    obtain rfl : p = q := by omega
    rw [succA_slices_symMergeCmpFunc_int]
    try simp (disch := first | omega | assumption | exact one_int _ _ | exact one_slice _ _ _ | exact one_ptr _ | exact one_bool _ | exact one_string _) only [RXA, RXB, Nat.reduceAdd, Nat.reduceLT, wrap_id, wrap_succ, wrap_pred, FX1, Int.lt_irrefl]
    exact hK p _ hq h1 h2
  | succ m ih =>
    intro p q fu hm hfu hpq hq h1 h2
    obtain ⟨fu, rfl⟩ : ∃ f, fu = f + 1 := ⟨fu - 1, by omega⟩
    rw [succA_slices_symMergeCmpFunc_int]
    by_cases hlt : p < q
    · obtain ⟨c, hc⟩ : ∃ c, (P.length + 1 + p + (P.length + 1 + q)) / 2 = P.length + 1 + c := ⟨(p + q) / 2, by omega⟩
      have hcp : p ≤ c := by omega
      have hcq : c < q := by omega
      have e1 : ((P.length + 1 + p : Nat) : Int) < ((P.length + 1 + q : Nat) : Int) := by omega
      have e2 : (((P.length + 1 + p : Nat) : Int) + ((P.length + 1 + q : Nat) : Int)) / 2 = ((P.length + 1 + c : Nat) : Int) := by omega
      have hy : Y.getD c 0 < ws.length := hY _ (by rw [List.getD_eq_getElem?_getD, List.getElem?_eq_getElem (by omega)]; exact List.getElem_mem _)
      have g1 : (nats (P ++ x :: Y ++ Q))[P.length + 1 + c]? = some (.int .i64 (Y.getD c 0 : Nat)) := by
        rw [nats_get (by omega), show P ++ x :: Y ++ Q = (P ++ [x]) ++ Y ++ Q by simp, getD_mid _ _ _ c _ (by simp) (by omega)]
      have g2 : (nats (P ++ x :: Y ++ Q))[P.length]? = some (.int .i64 (x : Nat)) := by
        rw [nats_get (by omega), show P ++ x :: Y ++ Q = P ++ x :: (Y ++ Q) by simp, getD_at _ _ _ _ rfl]
      try simp (disch := first | omega | assumption | exact one_int _ _ | exact one_slice _ _ _ | exact one_ptr _ | exact one_bool _ | exact one_string _) only [RXA, RXB, Nat.reduceAdd, Nat.reduceLT, wrap_id, wrap_succ, wrap_pred, FX1, e1, wrap_u64, half1, half2, e2, hh, g1, g2, callT]
      refine run_same (s_cmp lf d _ x h n g pw ws hE hy hx) hn0 (fun _ _ h => h.elim) ?_
      have e4 := cmp3_neg (keyW ws (Y.getD c 0)) (keyW ws x)
      try simp (disch := first | omega | assumption | exact one_int _ _ | exact one_slice _ _ _ | exact one_ptr _ | exact one_bool _ | exact one_string _) only [RXA, RXB, Nat.reduceAdd, Nat.reduceLT, wrap_id, wrap_succ, wrap_pred, FX1, e4]
      by_cases hk : keyW ws (Y.getD c 0) < keyW ws x
      · have w1 : IntKind.i64.wrap (((P.length + 1 + c : Nat) : Int) + 1) = ((P.length + 1 + (c + 1) : Nat) : Int) := by rw [wrap_id (by omega) (by omega)]; omega
        try simp (disch := first | omega | assumption | exact one_int _ _ | exact one_slice _ _ _ | exact one_ptr _ | exact one_bool _ | exact one_string _) only [RXA, RXB, Nat.reduceAdd, Nat.reduceLT, wrap_id, wrap_succ, wrap_pred, FX1, hk, w1]
        have w2 : ((P.length + 1 + c : Nat) : Int) + 1 = ((P.length + 1 + (c + 1) : Nat) : Int) := by omega
        try rw [w2]
        exact ih (c + 1) q fu (by omega) (by omega) (by omega) hq (.inr (by simpa using hk)) h2
      · try simp (disch := first | omega | assumption | exact one_int _ _ | exact one_slice _ _ _ | exact one_ptr _ | exact one_bool _ | exact one_string _) only [RXA, RXB, Nat.reduceAdd, Nat.reduceLT, wrap_id, wrap_succ, wrap_pred, FX1, hk]
        exact ih p c fu (by omega) (by omega) (by omega) (by omega) h1 (.inr hk)
    · obtain rfl : p = q := by omega
      try simp (disch := first | omega | assumption | exact one_int _ _ | exact one_slice _ _ _ | exact one_ptr _ | exact one_bool _ | exact one_string _) only [RXA, RXB, Nat.reduceAdd, Nat.reduceLT, wrap_id, wrap_succ, wrap_pred, FX1, Int.lt_irrefl]
      exact hK p _ hq h1 h2
/-- the one element ahead goes to its place -/
theorem symD (lf d g n cap : Nat) (h : H) (P Y Q : List Nat) (x p : Nat) (N : Nat) (hN : (P ++ x :: Y ++ Q).length = N) (hNb : N ≤ 1000000) (hp : p ≤ Y.length) (hg : g < n) {W : Nat → Prop} {n0 : Nat} (hW : n0 ≤ g ∨ W g) {R : Value → H → Nat → Prop} (k : Ex → Fr → M Value) (x1 x2 x3 x4 x11 x28 x33 : Value)
    (hK : ∀ hr y13 y58, At h hr g (P ++ (Y.take p ++ x :: Y.drop p) ++ Q) → Run W n0 (k (Ex.exit 2) [(0, .slice (some ⟨g, 0, none⟩) N cap), (1, x1), (2, x2), (3, x3), (4, x4), (10, .int .i64 ((P.length + 1 + p : Nat) : Int)), (11, x11), (13, y13), (28, x28), (33, x33), (58, y58)]) hr n R) :
    ∀ (m t fu : Nat) (hr : H), p - t ≤ m → m < fu → t ≤ p → At h hr g (P ++ (Y.take t ++ x :: Y.drop t) ++ Q) →
      Run W n0 (lpD_slices_symMergeCmpFunc_int lf d fu k (.slice (some ⟨g, 0, none⟩) N cap) x1 x2 x3 x4 (.int .i64 ((P.length + 1 + p : Nat) : Int)) x11 (.int .i64 ((P.length + t : Nat) : Int)) x28 x33) hr n R := by
  have lN := hN
  simp only [List.length_append, List.length_cons] at lN
  have w1 : IntKind.i64.wrap (((P.length + 1 + p : Nat) : Int) - 1) = ((P.length + p : Nat) : Int) := by rw [wrap_id (by omega) (by omega)]; omega
  intro m
  induction m with
  | zero =>
    intro t fu hr hm hfu ht hA
    obtain ⟨fu, rfl⟩ : ∃ f, fu = f + 1 := ⟨fu - 1, by omega⟩
    obtain rfl : t = p := by omega
    rw [succD_slices_symMergeCmpFunc_int]
    try simp (disch := first | omega | assumption | exact one_int _ _ | exact one_slice _ _ _ | exact one_ptr _ | exact one_bool _ | exact one_string _) only [RXA, RXB, Nat.reduceAdd, Nat.reduceLT, wrap_id, wrap_succ, wrap_pred, FX1, Int.lt_irrefl, w1]
    exact hK hr _ _ hA
  | succ m ih =>
    intro t fu hr hm hfu ht hA
    obtain ⟨fu, rfl⟩ : ∃ f, fu = f + 1 := ⟨fu - 1, by omega⟩
    rw [succD_slices_symMergeCmpFunc_int]
    by_cases hlt : t < p
    · have e1 : ((P.length + t : Nat) : Int) < ((P.length + p : Nat) : Int) := by omega
      have w2 : IntKind.i64.wrap (((P.length + t : Nat) : Int) + 1) = ((P.length + (t + 1) : Nat) : Int) := by rw [wrap_id (by omega) (by omega)]; omega
      have hd : Y.drop t = Y.getD t 0 :: Y.drop (t + 1) := by rw [List.drop_eq_getElem_cons (by omega), List.getD_eq_getElem?_getD, List.getElem?_eq_getElem (by omega)]; rfl
      have ht1 : Y.take (t + 1) = Y.take t ++ [Y.getD t 0] := by rw [List.take_succ_eq_append_getElem (by omega), List.getD_eq_getElem?_getD, List.getElem?_eq_getElem (by omega)]; rfl
      obtain ⟨y, hy⟩ : ∃ y, Y.getD t 0 = y := ⟨_, rfl⟩
      rw [hy] at hd ht1
      have lt : (Y.take t).length = t := by rw [List.length_take]; omega
      have ld : (Y.drop (t + 1)).length = Y.length - (t + 1) := List.length_drop
      rw [hd] at hA
      have s1 : P ++ (Y.take t ++ x :: y :: Y.drop (t + 1)) ++ Q = (P ++ Y.take t) ++ x :: (y :: (Y.drop (t + 1) ++ Q)) := by simp
      have s2 : P ++ (Y.take t ++ x :: y :: Y.drop (t + 1)) ++ Q = (P ++ Y.take t ++ [x]) ++ y :: (Y.drop (t + 1) ++ Q) := by simp
      have hl : (P ++ (Y.take t ++ x :: y :: Y.drop (t + 1)) ++ Q).length = N := by simp; omega
      have g1 : (nats (P ++ (Y.take t ++ x :: y :: Y.drop (t + 1)) ++ Q))[P.length + t]? = some (.int .i64 (x : Nat)) := by
        rw [nats_get (by omega), s1, getD_at _ _ _ _ (by simp; omega)]
      have g2 : (nats (P ++ (Y.take t ++ x :: y :: Y.drop (t + 1)) ++ Q))[P.length + (t + 1)]? = some (.int .i64 (y : Nat)) := by
        rw [nats_get (by omega), s2, getD_at _ _ _ _ (by simp; omega)]
      have hset : ((P ++ (Y.take t ++ x :: y :: Y.drop (t + 1)) ++ Q).set (P.length + t) y).set (P.length + (t + 1)) x = P ++ (Y.take (t + 1) ++ x :: Y.drop (t + 1)) ++ Q := by
        rw [s1, set_at _ _ _ _ _ (by simp; omega), show P ++ Y.take t ++ y :: y :: (Y.drop (t + 1) ++ Q) = (P ++ Y.take t ++ [y]) ++ y :: (Y.drop (t + 1) ++ Q) by simp, set_at _ _ _ _ _ (by simp; omega), ht1]
        simp
      have c0 := hA.1
      try simp (disch := first | omega | assumption | exact one_int _ _ | exact one_slice _ _ _ | exact one_ptr _ | exact one_bool _ | exact one_string _) only [RXA, RXB, Nat.reduceAdd, Nat.reduceLT, wrap_id, wrap_succ, wrap_pred, FX1, e1, w1, w2, c0, g1, g2, nats_len, nats_set, List.length_set, hset]
      refine ⟨by omega, hW, by omega, hW, ?_⟩
      exact ih (t + 1) fu _ (by omega) (by omega) (by omega) ((hA.set (ys := (P ++ (Y.take t ++ x :: y :: Y.drop (t + 1)) ++ Q).set (P.length + t) y) rfl rfl).set rfl rfl)
    · obtain rfl : t = p := by omega
      try simp (disch := first | omega | assumption | exact one_int _ _ | exact one_slice _ _ _ | exact one_ptr _ | exact one_bool _ | exact one_string _) only [RXA, RXB, Nat.reduceAdd, Nat.reduceLT, wrap_id, wrap_succ, wrap_pred, FX1, Int.lt_irrefl, w1]
      exact hK hr _ _ hA

/-- of sorted X the place for the one element behind -/
theorem symB (lf d g n cap pw : Nat) (ws : List Int) (h : H) (P X Q : List Nat) (y : Nat) (N : Nat) (hN : (P ++ X ++ y :: Q).length = N) (hNb : N ≤ 1000000) (hE : EnvT h n g pw ws) (hg : g < n) (hh : h.get g = some ⟨3, true, nats (P ++ X ++ y :: Q)⟩) (hy : y < ws.length) (hX : ∀ z ∈ X, z < ws.length) {W : Nat → Prop} {n0 : Nat} (hn0 : n0 ≤ n) {R : Value → H → Nat → Prop} (k : Ex → Fr → M Value) (x1 x3 x28 x80 : Value)
    (hK : ∀ p y85, p ≤ X.length → (p = 0 ∨ ¬ keyW ws y < keyW ws (X.getD (p - 1) 0)) → (p = X.length ∨ keyW ws y < keyW ws (X.getD p 0)) → Run W n0 (k (Ex.exit 4) [(0, .slice (some ⟨g, 0, none⟩) N cap), (1, x1), (2, .int .i64 ((P.length + X.length : Nat) : Int)), (3, x3), (4, .func (.func 70) #[] #[.pointer (some ⟨pw, 0, none⟩)]), (14, .int .i64 ((P.length + p : Nat) : Int)), (15, .int .i64 ((P.length + p : Nat) : Int)), (28, x28), (80, x80), (85, y85)]) h n R) :
    ∀ (m p q fu : Nat), q - p ≤ m → m < fu → p ≤ q → q ≤ X.length → (p = 0 ∨ ¬ keyW ws y < keyW ws (X.getD (p - 1) 0)) → (q = X.length ∨ keyW ws y < keyW ws (X.getD q 0)) →
      Run W n0 (lpB_slices_symMergeCmpFunc_int lf (d + 3) fu k (.slice (some ⟨g, 0, none⟩) N cap) x1 (.int .i64 ((P.length + X.length : Nat) : Int)) x3 (.func (.func 70) #[] #[.pointer (some ⟨pw, 0, none⟩)]) (.int .i64 ((P.length + p : Nat) : Int)) (.int .i64 ((P.length + q : Nat) : Int)) x28 x80) h n R := by
  have lN := hN
  simp only [List.length_append, List.length_cons] at lN
  intro m
  induction m with
  | zero =>
    intro p q fu hm hfu hpq hq h1 h2
    obtain ⟨fu, rfl⟩ : ∃ f, fu = f + 1 := ⟨fu - 1, by omega⟩
    obtain rfl : p = q := by omega
    rw [succB_slices_symMergeCmpFunc_int]
    try simp (disch := first | omega | assumption | exact one_int _ _ | exact one_slice _ _ _ | exact one_ptr _ | exact one_bool _ | exact one_string _) only [RXA, RXB, Nat.reduceAdd, Nat.reduceLT, wrap_id, wrap_succ, wrap_pred, FX1, Int.lt_irrefl]
    exact hK p _ hq h1 h2
  | succ m ih =>
    intro p q fu hm hfu hpq hq h1 h2
    obtain ⟨fu, rfl⟩ : ∃ f, fu = f + 1 := ⟨fu - 1, by omega⟩
    rw [succB_slices_symMergeCmpFunc_int]
    by_cases hlt : p < q
    · obtain ⟨c, hc⟩ : ∃ c, (P.length + p + (P.length + q)) / 2 = P.length + c := ⟨(p + q) / 2, by omega⟩
      have hcp : p ≤ c := by omega
      have hcq : c < q := by omega
      have e1 : ((P.length + p : Nat) : Int) < ((P.length + q : Nat) : Int) := by omega
      have e2 : (((P.length + p : Nat) : Int) + ((P.length + q : Nat) : Int)) / 2 = ((P.length + c : Nat) : Int) := by omega
      have hx : X.getD c 0 < ws.length := hX _ (by rw [List.getD_eq_getElem?_getD, List.getElem?_eq_getElem (by omega)]; exact List.getElem_mem _)
      have g1 : (nats (P ++ X ++ y :: Q))[P.length + c]? = some (.int .i64 (X.getD c 0 : Nat)) := by
        rw [nats_get (by omega), getD_mid _ _ _ c _ rfl (by omega)]
      have g2 : (nats (P ++ X ++ y :: Q))[P.length + X.length]? = some (.int .i64 (y : Nat)) := by
        rw [nats_get (by omega), getD_at _ _ _ _ (by simp)]
      try simp (disch := first | omega | assumption | exact one_int _ _ | exact one_slice _ _ _ | exact one_ptr _ | exact one_bool _ | exact one_string _) only [RXA, RXB, Nat.reduceAdd, Nat.reduceLT, wrap_id, wrap_succ, wrap_pred, FX1, e1, wrap_u64, half1, half2, e2, hh, g1, g2, callT]
      refine run_same (s_cmp lf d y _ h n g pw ws hE hy hx) hn0 (fun _ _ h => h.elim) ?_
      have e4 := cmp3_neg (keyW ws y) (keyW ws (X.getD c 0))
      try simp (disch := first | omega | assumption | exact one_int _ _ | exact one_slice _ _ _ | exact one_ptr _ | exact one_bool _ | exact one_string _) only [RXA, RXB, Nat.reduceAdd, Nat.reduceLT, wrap_id, wrap_succ, wrap_pred, FX1, e4]
      by_cases hk : keyW ws y < keyW ws (X.getD c 0)
      · try simp (disch := first | omega | assumption | exact one_int _ _ | exact one_slice _ _ _ | exact one_ptr _ | exact one_bool _ | exact one_string _) only [RXA, RXB, Nat.reduceAdd, Nat.reduceLT, wrap_id, wrap_succ, wrap_pred, FX1, hk, decide_true, Bool.not_true]
        exact ih p c fu (by omega) (by omega) (by omega) (by omega) h1 (.inr hk)
      · have w1 : IntKind.i64.wrap (((P.length + c : Nat) : Int) + 1) = ((P.length + (c + 1) : Nat) : Int) := by rw [wrap_id (by omega) (by omega)]; omega
        have w2 : ((P.length + c : Nat) : Int) + 1 = ((P.length + (c + 1) : Nat) : Int) := by omega
        try simp (disch := first | omega | assumption | exact one_int _ _ | exact one_slice _ _ _ | exact one_ptr _ | exact one_bool _ | exact one_string _) only [RXA, RXB, Nat.reduceAdd, Nat.reduceLT, wrap_id, wrap_succ, wrap_pred, FX1, hk, decide_false, Bool.not_false, w1]
        try rw [w2]
        exact ih (c + 1) q fu (by omega) (by omega) (by omega) hq (.inr (by simpa using hk)) h2
    · obtain rfl : p = q := by omega
      try simp (disch := first | omega | assumption | exact one_int _ _ | exact one_slice _ _ _ | exact one_ptr _ | exact one_bool _ | exact one_string _) only [RXA, RXB, Nat.reduceAdd, Nat.reduceLT, wrap_id, wrap_succ, wrap_pred, FX1, Int.lt_irrefl]
      exact hK p _ hq h1 h2
/-- the one element behind goes to its place -/
theorem symE (lf d g n cap : Nat) (h : H) (P X Q : List Nat) (y p : Nat) (N : Nat) (hN : (P ++ X ++ y :: Q).length = N) (hNb : N ≤ 1000000) (hp : p ≤ X.length) (hg : g < n) {W : Nat → Prop} {n0 : Nat} (hW : n0 ≤ g ∨ W g) {R : Value → H → Nat → Prop} (k : Ex → Fr → M Value) (x1 x2 x3 x4 x15 x28 x80 x85 : Value)
    (hK : ∀ hr y17 y110, At h hr g (P ++ (X.take p ++ y :: X.drop p) ++ Q) → Run W n0 (k (Ex.exit 6) [(0, .slice (some ⟨g, 0, none⟩) N cap), (1, x1), (2, x2), (3, x3), (4, x4), (14, .int .i64 ((P.length + p : Nat) : Int)), (15, x15), (17, y17), (28, x28), (80, x80), (85, x85), (110, y110)]) hr n R) :
    ∀ (m t fu : Nat) (hr : H), t - p = m → m < fu → p ≤ t → t ≤ X.length → At h hr g (P ++ (X.take t ++ y :: X.drop t) ++ Q) →
      Run W n0 (lpE_slices_symMergeCmpFunc_int lf d fu k (.slice (some ⟨g, 0, none⟩) N cap) x1 x2 x3 x4 (.int .i64 ((P.length + p : Nat) : Int)) x15 (.int .i64 ((P.length + t : Nat) : Int)) x28 x80 x85) hr n R := by
  have lN := hN
  simp only [List.length_append, List.length_cons] at lN
  intro m
  induction m with
  | zero =>
    intro t fu hr hm hfu ht htl hA
    obtain ⟨fu, rfl⟩ : ∃ f, fu = f + 1 := ⟨fu - 1, by omega⟩
    obtain rfl : t = p := by omega
    rw [succE_slices_symMergeCmpFunc_int]
    try simp (disch := first | omega | assumption | exact one_int _ _ | exact one_slice _ _ _ | exact one_ptr _ | exact one_bool _ | exact one_string _) only [RXA, RXB, Nat.reduceAdd, Nat.reduceLT, wrap_id, wrap_succ, wrap_pred, FX1, Int.lt_irrefl]
    exact hK hr _ _ hA
  | succ m ih =>
    intro t fu hr hm hfu ht htl hA
    obtain ⟨fu, rfl⟩ : ∃ f, fu = f + 1 := ⟨fu - 1, by omega⟩
    obtain ⟨t, rfl⟩ : ∃ f, t = f + 1 := ⟨t - 1, by omega⟩
    rw [succE_slices_symMergeCmpFunc_int]
    have e1 : ((P.length + p : Nat) : Int) < ((P.length + (t + 1) : Nat) : Int) := by omega
    have w2 : IntKind.i64.wrap (((P.length + (t + 1) : Nat) : Int) - 1) = ((P.length + t : Nat) : Int) := by rw [wrap_id (by omega) (by omega)]; omega
    have hd : X.drop t = X.getD t 0 :: X.drop (t + 1) := by rw [List.drop_eq_getElem_cons (by omega), List.getD_eq_getElem?_getD, List.getElem?_eq_getElem (by omega)]; rfl
    have ht1 : X.take (t + 1) = X.take t ++ [X.getD t 0] := by rw [List.take_succ_eq_append_getElem (by omega), List.getD_eq_getElem?_getD, List.getElem?_eq_getElem (by omega)]; rfl
    obtain ⟨x, hx⟩ : ∃ y, X.getD t 0 = y := ⟨_, rfl⟩
    rw [hx] at hd ht1
    have lt : (X.take t).length = t := by rw [List.length_take]; omega
    have ld : (X.drop (t + 1)).length = X.length - (t + 1) := List.length_drop
    rw [ht1] at hA
    have s1 : P ++ (X.take t ++ [x] ++ y :: X.drop (t + 1)) ++ Q = (P ++ X.take t) ++ x :: (y :: (X.drop (t + 1) ++ Q)) := by simp
    have s2 : P ++ (X.take t ++ [x] ++ y :: X.drop (t + 1)) ++ Q = (P ++ X.take t ++ [x]) ++ y :: (X.drop (t + 1) ++ Q) := by simp
    have hl : (P ++ (X.take t ++ [x] ++ y :: X.drop (t + 1)) ++ Q).length = N := by simp; omega
    have g1 : (nats (P ++ (X.take t ++ [x] ++ y :: X.drop (t + 1)) ++ Q))[P.length + t]? = some (.int .i64 (x : Nat)) := by
      rw [nats_get (by omega), s1, getD_at _ _ _ _ (by simp; omega)]
    have g2 : (nats (P ++ (X.take t ++ [x] ++ y :: X.drop (t + 1)) ++ Q))[P.length + (t + 1)]? = some (.int .i64 (y : Nat)) := by
      rw [nats_get (by omega), s2, getD_at _ _ _ _ (by simp; omega)]
    have hset : ((P ++ (X.take t ++ [x] ++ y :: X.drop (t + 1)) ++ Q).set (P.length + (t + 1)) x).set (P.length + t) y = P ++ (X.take t ++ y :: X.drop t) ++ Q := by
      rw [s2, set_at _ _ _ _ _ (by simp; omega), show P ++ X.take t ++ [x] ++ x :: (X.drop (t + 1) ++ Q) = (P ++ X.take t) ++ x :: (x :: (X.drop (t + 1) ++ Q)) by simp, set_at _ _ _ _ _ (by simp; omega), hd]
      simp
    have c0 := hA.1
    try simp (disch := first | omega | assumption | exact one_int _ _ | exact one_slice _ _ _ | exact one_ptr _ | exact one_bool _ | exact one_string _) only [RXA, RXB, Nat.reduceAdd, Nat.reduceLT, wrap_id, wrap_succ, wrap_pred, FX1, e1, w2, c0, g1, g2, nats_len, nats_set, List.length_set, hset]
    refine ⟨by omega, hW, by omega, hW, ?_⟩
    exact ih t fu _ (by omega) (by omega) (by omega) (by omega) ((hA.set (ys := (P ++ (X.take t ++ [x] ++ y :: X.drop (t + 1)) ++ Q).set (P.length + (t + 1)) x) rfl rfl).set rfl rfl)

end Go.Proofs.YtdagfcflbphoiaaDoor
/- The library's merge in place, by the second form: the whole. -/
namespace Go.Proofs.YtdagfcflbphoiaaDoor
set_option linter.unusedVariables false
set_option linter.unusedSimpArgs false
open Go.RowKit Ev Hu

/-- what a merge leaves -/
def SymQ (h : H) (g n : Nat) (ws : List Int) (P XY Q : List Nat) (h' : H) (n' : Nat) : Prop := n' = n ∧ ∃ Z, Z.Perm XY ∧ Z.Pairwise (RI (keyW ws)) ∧ At h h' g (P ++ Z ++ Q)
def FT (pw : Nat) : Value := .func (.func 70) #[] #[.pointer (some ⟨pw, 0, none⟩)]
theorem s_sym_one (lf d g n cap pw : Nat) (ws : List Int) (h : H) (P Y Q : List Nat) (x : Nat) (N : Nat) (a m b : Int) (hlf : 3000000 ≤ lf) (hN : (P ++ x :: Y ++ Q).length = N) (hNb : N ≤ 1000000) (ha : a = (P.length : Nat)) (hm : m = ((P.length + 1 : Nat) : Int)) (hb : b = ((P.length + 1 + Y.length : Nat) : Int)) (hE : EnvT h n g pw ws) (hg : g < n) (hh : h.get g = some ⟨3, true, nats (P ++ x :: Y ++ Q)⟩) (hin : ∀ z ∈ x :: Y, z < ws.length) (hy : Y.Pairwise (RI (keyW ws))) (hxy : ∀ y ∈ Y, x < y) :
    Run (fun z => z = g) n (evCall2 Tryd.prog gt lf (d + 4) 76 #[.slice (some ⟨g, 0, none⟩) N cap, .int .i64 a, .int .i64 m, .int .i64 b, FT pw]) h n fun _ h' n' => SymQ h g n ws P (x :: Y) Q h' n' := by
  subst ha hm hb
  have lN := hN
  simp only [List.length_append, List.length_cons] at lN
  rw [sh_slices_symMergeCmpFunc_int]
  refine Run.inside_ ?_
  unfold b_slices_symMergeCmpFunc_int FT
  have w1 : IntKind.i64.wrap (((P.length + 1 : Nat) : Int) - ((P.length : Nat) : Int)) = 1 := by rw [wrap_id (by omega) (by omega)]; omega
  try simp (disch := first | omega | assumption | exact one_int _ _ | exact one_slice _ _ _ | exact one_ptr _ | exact one_bool _ | exact one_string _) only [RXA, RXB, Nat.reduceAdd, Nat.reduceLT, wrap_id, wrap_succ, wrap_pred, FX1, w1, beq_self_eq_true]
  have := symA (W := fun z => z = g) lf d g n cap pw ws h P Y Q x N hN hNb hE hg hh (hin x (by simp)) (fun z hz => hin z (by simp [hz])) (Nat.le_refl n) (R := fun _ h' n' => SymQ h g n ws P (x :: Y) Q h' n') (kcA_slices_symMergeCmpFunc_int lf (d + 3)) (.int .i64 ((P.length + 1 : Nat) : Int)) (.int .i64 ((P.length + 1 + Y.length : Nat) : Int)) (.bool true) (fun p y33 hp h1 h2 => by
    rw [kcAa_slices_symMergeCmpFunc_int]
    refine symD (W := fun z => z = g) lf (d + 3) g n cap h P Y Q x p N hN hNb hp hg (.inr rfl) _ _ _ _ _ _ _ _ (fun hr y13 y58 hA => ?_) p 0 lf h (by omega) (by omega) (Nat.zero_le _) ⟨by simpa using hh, fun b hb => rfl⟩
    rw [kcDa_slices_symMergeCmpFunc_int]
    try simp (disch := first | omega | assumption | exact one_int _ _ | exact one_slice _ _ _ | exact one_ptr _ | exact one_bool _ | exact one_string _) only [RXA, RXB, Nat.reduceAdd, Nat.reduceLT, wrap_id, wrap_succ, wrap_pred, FX1]
    refine ⟨rfl, _, ?_, ?_, hA⟩
    · have := List.perm_middle (a := x) (l₁ := Y.take p) (l₂ := Y.drop p)
      rw [List.take_append_drop] at this
      exact this
    · refine put_in hy hp ?_ ?_
      · rcases h1 with h1 | h1
        · exact .inl h1
        · exact .inr (.inl h1)
      · rcases h2 with h2 | h2
        · exact .inl h2
        · by_cases hpl : p = Y.length
          · exact .inl hpl
          · exact .inr (RI_of_not (hxy _ (by rw [List.getD_eq_getElem?_getD, List.getElem?_eq_getElem (by omega)]; exact List.getElem_mem _)) h2)) Y.length 0 Y.length lf (by omega) (by omega) (by omega) (by omega) (.inl rfl) (.inl rfl)
  exact this
theorem s_sym_last (lf d g n cap pw : Nat) (ws : List Int) (h : H) (P X Q : List Nat) (y : Nat) (N : Nat) (a m b : Int) (hlf : 3000000 ≤ lf) (hN : (P ++ X ++ y :: Q).length = N) (hNb : N ≤ 1000000) (hX2 : 2 ≤ X.length) (ha : a = (P.length : Nat)) (hm : m = ((P.length + X.length : Nat) : Int)) (hb : b = ((P.length + X.length + 1 : Nat) : Int)) (hE : EnvT h n g pw ws) (hg : g < n) (hh : h.get g = some ⟨3, true, nats (P ++ X ++ y :: Q)⟩) (hyw : y < ws.length) (hin : ∀ z ∈ X, z < ws.length) (hx : X.Pairwise (RI (keyW ws))) (hxy : ∀ x ∈ X, x < y) :
    Run (fun z => z = g) n (evCall2 Tryd.prog gt lf (d + 4) 76 #[.slice (some ⟨g, 0, none⟩) N cap, .int .i64 a, .int .i64 m, .int .i64 b, FT pw]) h n fun _ h' n' => SymQ h g n ws P (X ++ [y]) Q h' n' := by
  subst ha hm hb
  have lN := hN
  simp only [List.length_append, List.length_cons] at lN
  rw [sh_slices_symMergeCmpFunc_int]
  refine Run.inside_ ?_
  unfold b_slices_symMergeCmpFunc_int FT
  have w1 : (IntKind.i64.wrap (((P.length + X.length : Nat) : Int) - ((P.length : Nat) : Int)) == 1) = false := by rw [wrap_id (by omega) (by omega), beq_eq_false_iff_ne]; omega
  have w1' : ((((P.length + X.length : Nat) : Int) - ((P.length : Nat) : Int)) == 1) = false := by rw [beq_eq_false_iff_ne]; omega
  have w2 : IntKind.i64.wrap (((P.length + X.length + 1 : Nat) : Int) - ((P.length + X.length : Nat) : Int)) = 1 := by rw [wrap_id (by omega) (by omega)]; omega
  try simp (disch := first | omega | assumption | exact one_int _ _ | exact one_slice _ _ _ | exact one_ptr _ | exact one_bool _ | exact one_string _) only [RXA, RXB, Nat.reduceAdd, Nat.reduceLT, wrap_id, wrap_succ, wrap_pred, FX1, w1, w1', w2, beq_self_eq_true]
  have := symB (W := fun z => z = g) lf d g n cap pw ws h P X Q y N hN hNb hE hg hh hyw hin (Nat.le_refl n) (R := fun _ h' n' => SymQ h g n ws P (X ++ [y]) Q h' n') (kcB_slices_symMergeCmpFunc_int lf (d + 3)) (.int .i64 ((P.length : Nat) : Int)) (.int .i64 ((P.length + X.length + 1 : Nat) : Int)) (.bool false) (.bool true) (fun p y85 hp h1 h2 => by
    rw [kcBa_slices_symMergeCmpFunc_int]
    refine symE (W := fun z => z = g) lf (d + 3) g n cap h P X Q y p N hN hNb hp hg (.inr rfl) _ _ _ _ _ _ _ _ _ (fun hr y17 y110 hA => ?_) (X.length - p) X.length lf h rfl (by omega) hp (Nat.le_refl _) ⟨by simpa using hh, fun b hb => rfl⟩
    rw [kcEa_slices_symMergeCmpFunc_int]
    try simp (disch := first | omega | assumption | exact one_int _ _ | exact one_slice _ _ _ | exact one_ptr _ | exact one_bool _ | exact one_string _) only [RXA, RXB, Nat.reduceAdd, Nat.reduceLT, wrap_id, wrap_succ, wrap_pred, FX1]
    refine ⟨rfl, _, ?_, ?_, hA⟩
    · have := List.perm_middle (a := y) (l₁ := X.take p) (l₂ := X.drop p)
      rw [List.take_append_drop] at this
      exact this.trans (List.perm_append_singleton y X).symm
    · refine put_in hx hp ?_ ?_
      · rcases h1 with h1 | h1
        · exact .inl h1
        · by_cases hp0 : p = 0
          · exact .inl hp0
          · exact .inr (RI_of_not (hxy _ (by rw [List.getD_eq_getElem?_getD, List.getElem?_eq_getElem (by omega)]; exact List.getElem_mem _)) h1)
      · rcases h2 with h2 | h2
        · exact .inl h2
        · exact .inr (.inl h2)) X.length 0 X.length lf (by omega) (by omega) (by omega) (by omega) (.inl rfl) (.inl rfl)
  exact this

/-- where the two stretches part is sought -/
theorem symC (lf d g n cap pw : Nat) (ws : List Int) (h : H) (P X Y Q : List Nat) (hm : Nat) (N : Nat) (hN : (P ++ X ++ Y ++ Q).length = N) (hNb : N ≤ 1000000) (hE : EnvT h n g pw ws) (hg : g < n) (hh : h.get g = some ⟨3, true, nats (P ++ X ++ Y ++ Q)⟩) (hX : ∀ z ∈ X, z < ws.length) (hY : ∀ z ∈ Y, z < ws.length) (hxy : ∀ x ∈ X, ∀ y ∈ Y, x < y) (hh1 : hm ≤ X.length + Y.length) {W : Nat → Prop} {n0 : Nat} (hn0 : n0 ≤ n) {R : Value → H → Nat → Prop} (k : Ex → Fr → M Value) (x1 x2 x3 x18 x19 x28 x80 x140 : Value) (pp : Int) (hpp : pp = ((P.length + hm + P.length + X.length : Nat) : Int) - 1)
    (hK : ∀ s y151, s ≤ X.length → s ≤ hm → hm - s ≤ Y.length → (s = 0 ∨ hm - s = Y.length ∨ RI (keyW ws) (X.getD (s - 1) 0) (Y.getD (hm - s) 0)) → (s = X.length ∨ s = hm ∨ RI (keyW ws) (Y.getD (hm - 1 - s) 0) (X.getD s 0)) → Run W n0 (k (Ex.exit 8) [(0, .slice (some ⟨g, 0, none⟩) N cap), (1, x1), (2, x2), (3, x3), (4, FT pw), (18, x18), (19, x19), (20, .int .i64 ((P.length + s : Nat) : Int)), (21, .int .i64 ((P.length + s : Nat) : Int)), (22, .int .i64 pp), (28, x28), (80, x80), (140, x140), (151, y151)]) h n R) :
    ∀ (m s r fu : Nat), r - s ≤ m → m < fu → s ≤ r → r ≤ X.length → r ≤ hm → hm - s ≤ Y.length → (s = 0 ∨ hm - s = Y.length ∨ RI (keyW ws) (X.getD (s - 1) 0) (Y.getD (hm - s) 0)) → (r = X.length ∨ r = hm ∨ RI (keyW ws) (Y.getD (hm - 1 - r) 0) (X.getD r 0)) →
      Run W n0 (lpC_slices_symMergeCmpFunc_int lf (d + 3) fu k (.slice (some ⟨g, 0, none⟩) N cap) x1 x2 x3 (FT pw) x18 x19 (.int .i64 ((P.length + s : Nat) : Int)) (.int .i64 ((P.length + r : Nat) : Int)) (.int .i64 pp) x28 x80 x140) h n R := by
  have lN := hN
  simp only [List.length_append] at lN
  intro m
  induction m with
  | zero =>
    intro s r fu hrs hfu hsr hrX hrh hsY h1 h2
    obtain ⟨fu, rfl⟩ : ∃ f, fu = f + 1 := ⟨fu - 1, by omega⟩
    obtain rfl : s = r := by omega
    rw [succC_slices_symMergeCmpFunc_int]
    try simp (disch := first | omega | assumption | exact one_int _ _ | exact one_slice _ _ _ | exact one_ptr _ | exact one_bool _ | exact one_string _) only [RXA, RXB, Nat.reduceAdd, Nat.reduceLT, wrap_id, wrap_succ, wrap_pred, FX1, Int.lt_irrefl]
    exact hK s _ hrX hrh hsY h1 h2
  | succ m ih =>
    intro s r fu hrs hfu hsr hrX hrh hsY h1 h2
    obtain ⟨fu, rfl⟩ : ∃ f, fu = f + 1 := ⟨fu - 1, by omega⟩
    rw [succC_slices_symMergeCmpFunc_int]
    by_cases hlt : s < r
    · obtain ⟨c, hc⟩ : ∃ c, (P.length + s + (P.length + r)) / 2 = P.length + c := ⟨(s + r) / 2, by omega⟩
      have hcp : s ≤ c := by omega
      have hcq : c < r := by omega
      have e1 : ((P.length + s : Nat) : Int) < ((P.length + r : Nat) : Int) := by omega
      have e2 : (((P.length + s : Nat) : Int) + ((P.length + r : Nat) : Int)) / 2 = ((P.length + c : Nat) : Int) := by omega
      have hx : X.getD c 0 ∈ X := by rw [List.getD_eq_getElem?_getD, List.getElem?_eq_getElem (by omega)]; exact List.getElem_mem _
      have hy : Y.getD (hm - 1 - c) 0 ∈ Y := by rw [List.getD_eq_getElem?_getD, List.getElem?_eq_getElem (by omega)]; exact List.getElem_mem _
      have w0 : IntKind.i64.wrap (pp - ((P.length + c : Nat) : Int)) = ((P.length + X.length + (hm - 1 - c) : Nat) : Int) := by rw [wrap_id (by omega) (by omega)]; omega
      have g1 : (nats (P ++ X ++ Y ++ Q))[P.length + c]? = some (.int .i64 (X.getD c 0 : Nat)) := by
        rw [nats_get (by simp; omega), show P ++ X ++ Y ++ Q = P ++ X ++ (Y ++ Q) by simp, getD_mid _ _ _ c _ rfl (by omega)]
      have g2 : (nats (P ++ X ++ Y ++ Q))[P.length + X.length + (hm - 1 - c)]? = some (.int .i64 (Y.getD (hm - 1 - c) 0 : Nat)) := by
        rw [nats_get (by simp; omega), getD_mid (P ++ X) Y Q (hm - 1 - c) _ (by simp) (by omega)]
      unfold FT at *
      try simp (disch := first | omega | assumption | exact one_int _ _ | exact one_slice _ _ _ | exact one_ptr _ | exact one_bool _ | exact one_string _) only [RXA, RXB, Nat.reduceAdd, Nat.reduceLT, wrap_id, wrap_succ, wrap_pred, FX1, e1, wrap_u64, half1, half2, e2, w0, hh, g1, g2, callT]
      refine run_same (s_cmp lf d _ _ h n g pw ws hE (hY _ hy) (hX _ hx)) hn0 (fun _ _ h => h.elim) ?_
      have e4 := cmp3_neg (keyW ws (Y.getD (hm - 1 - c) 0)) (keyW ws (X.getD c 0))
      try simp (disch := first | omega | assumption | exact one_int _ _ | exact one_slice _ _ _ | exact one_ptr _ | exact one_bool _ | exact one_string _) only [RXA, RXB, Nat.reduceAdd, Nat.reduceLT, wrap_id, wrap_succ, wrap_pred, FX1, e4]
      by_cases hk : keyW ws (Y.getD (hm - 1 - c) 0) < keyW ws (X.getD c 0)
      · try simp (disch := first | omega | assumption | exact one_int _ _ | exact one_slice _ _ _ | exact one_ptr _ | exact one_bool _ | exact one_string _) only [RXA, RXB, Nat.reduceAdd, Nat.reduceLT, wrap_id, wrap_succ, wrap_pred, FX1, hk, decide_true, Bool.not_true]
        exact ih s c fu (by omega) (by omega) (by omega) (by omega) (by omega) hsY h1 (.inr (.inr (.inl hk)))
      · have w1 : IntKind.i64.wrap (((P.length + c : Nat) : Int) + 1) = ((P.length + (c + 1) : Nat) : Int) := by rw [wrap_id (by omega) (by omega)]; omega
        have w2 : ((P.length + c : Nat) : Int) + 1 = ((P.length + (c + 1) : Nat) : Int) := by omega
        try simp (disch := first | omega | assumption | exact one_int _ _ | exact one_slice _ _ _ | exact one_ptr _ | exact one_bool _ | exact one_string _) only [RXA, RXB, Nat.reduceAdd, Nat.reduceLT, wrap_id, wrap_succ, wrap_pred, FX1, hk, decide_false, Bool.not_false, w1]
        try rw [w2]
        refine ih (c + 1) r fu (by omega) (by omega) (by omega) hrX hrh (by omega) (.inr (.inr ?_)) h2
        rw [show c + 1 - 1 = c by omega, show hm - (c + 1) = hm - 1 - c by omega]
        exact RI_of_not (hxy _ hx _ hy) hk
    · obtain rfl : s = r := by omega
      try simp (disch := first | omega | assumption | exact one_int _ _ | exact one_slice _ _ _ | exact one_ptr _ | exact one_bool _ | exact one_string _) only [RXA, RXB, Nat.reduceAdd, Nat.reduceLT, wrap_id, wrap_succ, wrap_pred, FX1, Int.lt_irrefl]
      exact hK s _ hrX hrh hsY h1 h2

end Go.Proofs.YtdagfcflbphoiaaDoor

/- Plain facts on sorted rows: insertion, merging in place, stable order. No program in sight. -/
import Derived.Test.YtapdcejhfooahaaLP
namespace Go.Proofs.Ytapdcejhfooahaa
set_option linter.unusedVariables false
set_option linter.unusedSimpArgs false
open Go.RowKit Hu

def cmp3 (x y : Int) : Int := if x < y then -1 else if y < x then 1 else 0
/-- to stand ahead: the key is less, or the keys are the same and the place is less -/
def RI (k : Nat → Int) (a b : Nat) : Prop := k a < k b ∨ k a = k b ∧ a < b
theorem ins_sorted {k : Nat → Int} {L R : List Nat} {x : Nat} (h : (L ++ R).Pairwise (RI k)) (h1 : ∀ r ∈ R, k x < k r) (h2 : ∀ l ∈ L, k l ≤ k x) (h3 : ∀ l ∈ L, k l = k x → l < x) : (L ++ x :: R).Pairwise (RI k) := by
  rw [List.pairwise_append] at h ⊢
  refine ⟨h.1, ?_, fun a ha b hb => ?_⟩
  · rw [List.pairwise_cons]
    exact ⟨fun r hr => .inl (h1 r hr), h.2.1⟩
  · rcases List.mem_cons.1 hb with e | e
    · subst e
      have := h2 a ha
      by_cases he : k a = k b
      · exact .inr ⟨he, h3 a ha he⟩
      · exact .inl (by omega)
    · exact h.2.2 a ha b e
def keyW (ws : List Int) (i : Nat) : Int := ws.getD i 0
theorem getD_cons_at (pre : List Nat) (v : Nat) (post : List Nat) : (pre ++ v :: post).getD pre.length 0 = v := by
  simp [List.getD_eq_getElem?_getD]
theorem cmp3_neg (x y : Int) : decide (cmp3 x y < 0) = decide (x < y) := by
  unfold cmp3
  by_cases h : x < y
  · simp [h]
  · by_cases h2 : y < x
    · simp [h, h2]
    · simp [h, h2]
theorem getD_at (pre : List Nat) (v : Nat) (post : List Nat) (j : Nat) (hj : j = pre.length) : (pre ++ v :: post).getD j 0 = v := by subst hj; exact getD_cons_at _ _ _
theorem set_at (pre : List Nat) (v u : Nat) (post : List Nat) (j : Nat) (hj : j = pre.length) : (pre ++ v :: post).set j u = pre ++ u :: post := by
  subst hj
  rw [List.set_append_right (h := Nat.le_refl _), Nat.sub_self]; rfl
theorem RI.trans' {k : Nat → Int} {a b c : Nat} (h1 : RI k a b) (h2 : RI k b c) : RI k a c := by
  unfold RI at *
  omega
theorem RI_of_not {k : Nat → Int} {x y : Nat} (hxy : x < y) (h : ¬ k y < k x) : RI k x y := by
  unfold RI
  omega
theorem ri_le {k : Nat → Int} {L : List Nat} (h : L.Pairwise (RI k)) {i j : Nat} (hij : i ≤ j) (hj : j < L.length) : L.getD i 0 = L.getD j 0 ∨ RI k (L.getD i 0) (L.getD j 0) := by
  rcases Nat.lt_or_eq_of_le hij with hlt | rfl
  · right
    have := List.pairwise_iff_getElem.1 h i j (by omega) hj hlt
    rw [List.getD_eq_getElem?_getD, List.getD_eq_getElem?_getD, List.getElem?_eq_getElem (by omega), List.getElem?_eq_getElem hj]
    exact this
  · left; rfl
theorem ri_le_l {k : Nat → Int} {L : List Nat} (h : L.Pairwise (RI k)) {i j c : Nat} (hij : i ≤ j) (hj : j < L.length) (hc : RI k (L.getD j 0) c) : RI k (L.getD i 0) c := by
  rcases ri_le h hij hj with e | e
  · rw [e]; exact hc
  · exact e.trans' hc
theorem ri_le_r {k : Nat → Int} {L : List Nat} (h : L.Pairwise (RI k)) {i j c : Nat} (hij : i ≤ j) (hj : j < L.length) (hc : RI k c (L.getD i 0)) : RI k c (L.getD j 0) := by
  rcases ri_le h hij hj with e | e
  · rw [← e]; exact hc
  · exact hc.trans' e
theorem mem_take_getD {L : List Nat} {n : Nat} {u : Nat} (h : u ∈ L.take n) : ∃ i, i < n ∧ i < L.length ∧ L.getD i 0 = u := by
  obtain ⟨i, hi, e⟩ := List.mem_iff_getElem.1 h
  rw [List.length_take] at hi
  refine ⟨i, by omega, by omega, ?_⟩
  rw [List.getElem_take] at e
  rw [List.getD_eq_getElem?_getD, List.getElem?_eq_getElem (by omega)]
  exact e
theorem mem_drop_getD {L : List Nat} {n : Nat} {u : Nat} (h : u ∈ L.drop n) : ∃ i, n ≤ i ∧ i < L.length ∧ L.getD i 0 = u := by
  obtain ⟨i, hi, e⟩ := List.mem_iff_getElem.1 h
  rw [List.length_drop] at hi
  refine ⟨n + i, by omega, by omega, ?_⟩
  rw [List.getElem_drop] at e
  rw [List.getD_eq_getElem?_getD, List.getElem?_eq_getElem (by omega)]
  exact e
theorem ins2 {k : Nat → Int} {L R : List Nat} {x : Nat} (h : (L ++ R).Pairwise (RI k)) (h1 : ∀ r ∈ R, RI k x r) (h2 : ∀ l ∈ L, RI k l x) : (L ++ x :: R).Pairwise (RI k) := by
  rw [List.pairwise_append] at h ⊢
  refine ⟨h.1, ?_, fun a ha b hb => ?_⟩
  · rw [List.pairwise_cons]
    exact ⟨h1, h.2.1⟩
  · rcases List.mem_cons.1 hb with e | e
    · subst e; exact h2 a ha
    · exact h.2.2 a ha b e
/-- where one element goes in -/
theorem put_in {k : Nat → Int} {Y : List Nat} {x p : Nat} (hy : Y.Pairwise (RI k)) (hp : p ≤ Y.length) (h1 : p = 0 ∨ RI k (Y.getD (p - 1) 0) x) (h2 : p = Y.length ∨ RI k x (Y.getD p 0)) : (Y.take p ++ x :: Y.drop p).Pairwise (RI k) := by
  refine ins2 (by rw [List.take_append_drop]; exact hy) (fun r hr => ?_) (fun l hl => ?_)
  · obtain ⟨i, hi, hl, rfl⟩ := mem_drop_getD hr
    rcases h2 with h | h
    · omega
    · exact ri_le_r hy hi hl h
  · obtain ⟨i, hi, hl, rfl⟩ := mem_take_getD hl
    rcases h1 with h | h
    · omega
    · exact ri_le_l hy (by omega) (by omega) h
/-- where the two stretches part -/
theorem sym_split {k : Nat → Int} {X Y : List Nat} (hx : X.Pairwise (RI k)) (hy : Y.Pairwise (RI k)) (h s : Nat) (hs : s ≤ X.length) (hh : s ≤ h) (he : h - s ≤ Y.length) (c1 : s = 0 ∨ h - s = Y.length ∨ RI k (X.getD (s - 1) 0) (Y.getD (h - s) 0)) (c2 : s = X.length ∨ s = h ∨ RI k (Y.getD (h - 1 - s) 0) (X.getD s 0)) : ∀ u ∈ X.take s ++ Y.take (h - s), ∀ v ∈ X.drop s ++ Y.drop (h - s), RI k u v := by
  intro u hu v hv
  rcases List.mem_append.1 hu with hu | hu
  · obtain ⟨i, hi, hil, rfl⟩ := mem_take_getD hu
    rcases List.mem_append.1 hv with hv | hv
    · obtain ⟨j, hj, hjl, rfl⟩ := mem_drop_getD hv
      rcases ri_le hx (i := i) (j := j) (by omega) hjl with e | e
      · exfalso
        have := List.pairwise_iff_getElem.1 hx i j (by omega) hjl (by omega)
        rw [List.getD_eq_getElem?_getD, List.getD_eq_getElem?_getD, List.getElem?_eq_getElem (by omega), List.getElem?_eq_getElem hjl] at e
        unfold RI at this
        simp only [Option.getD_some] at e
        rw [e] at this
        omega
      · exact e
    · obtain ⟨j, hj, hjl, rfl⟩ := mem_drop_getD hv
      rcases c1 with h1 | h1 | h1
      · omega
      · omega
      · exact ri_le_l hx (j := s - 1) (by omega) (by omega) (ri_le_r hy hj hjl h1)
  · obtain ⟨i, hi, hil, rfl⟩ := mem_take_getD hu
    rcases List.mem_append.1 hv with hv | hv
    · obtain ⟨j, hj, hjl, rfl⟩ := mem_drop_getD hv
      rcases c2 with h1 | h1 | h1
      · omega
      · omega
      · exact ri_le_l hy (j := h - 1 - s) (by omega) (by omega) (ri_le_r hx hj hjl h1)
    · obtain ⟨j, hj, hjl, rfl⟩ := mem_drop_getD hv
      rcases ri_le hy (i := i) (j := j) (by omega) hjl with e | e
      · exfalso
        have := List.pairwise_iff_getElem.1 hy i j (by omega) hjl (by omega)
        rw [List.getD_eq_getElem?_getD, List.getD_eq_getElem?_getD, List.getElem?_eq_getElem (by omega), List.getElem?_eq_getElem hjl] at e
        unfold RI at this
        simp only [Option.getD_some] at e
        rw [e] at this
        omega
      · exact e
theorem sym_join {k : Nat → Int} {Z1 Z2 X Y : List Nat} {h s : Nat} (p1 : Z1.Perm (X.take s ++ Y.take (h - s))) (p2 : Z2.Perm (X.drop s ++ Y.drop (h - s))) (s1 : Z1.Pairwise (RI k)) (s2 : Z2.Pairwise (RI k)) (hc : ∀ u ∈ X.take s ++ Y.take (h - s), ∀ v ∈ X.drop s ++ Y.drop (h - s), RI k u v) : (Z1 ++ Z2).Perm (X ++ Y) ∧ (Z1 ++ Z2).Pairwise (RI k) := by
  refine ⟨(p1.append p2).trans ?_, List.pairwise_append.2 ⟨s1, s2, fun a ha b hb => hc a (p1.mem_iff.1 ha) b (p2.mem_iff.1 hb)⟩⟩
  have e1 : X.take s ++ Y.take (h - s) ++ (X.drop s ++ Y.drop (h - s)) = X.take s ++ (Y.take (h - s) ++ X.drop s) ++ Y.drop (h - s) := by simp
  have e2 : X ++ Y = X.take s ++ (X.drop s ++ Y.take (h - s)) ++ Y.drop (h - s) := by
    have a1 := List.take_append_drop s X
    have a2 := List.take_append_drop (h - s) Y
    calc X ++ Y = (X.take s ++ X.drop s) ++ (Y.take (h - s) ++ Y.drop (h - s)) := by rw [a1, a2]
      _ = _ := by simp only [List.append_assoc]
  rw [e1, e2]
  exact ((List.perm_append_comm).append_left _).append_right _
theorem getD_mid (P X Q : List Nat) (i j : Nat) (hj : j = P.length + i) (hi : i < X.length) : (P ++ X ++ Q).getD j 0 = X.getD i 0 := by
  subst hj
  rw [List.getD_eq_getElem?_getD, List.getD_eq_getElem?_getD, List.append_assoc, List.getElem?_append_right (by omega), Nat.add_sub_cancel_left, List.getElem?_append_left hi]

/-- every block of c is sorted, and what stands ahead of a block's start is less than what stands behind -/
def BS (k : Nat → Int) (c : Nat) (D : List Nat) : Prop := ∀ i, ((D.drop (i * c)).take c).Pairwise (RI k) ∧ ∀ x ∈ D.take (i * c), ∀ y ∈ D.drop (i * c), x < y
theorem BS.nil (k : Nat → Int) (c : Nat) : BS k c [] := fun i => ⟨by simp, fun x hx => by simp at hx⟩
theorem BS.drop {k : Nat → Int} {c : Nat} {D : List Nat} (h : BS k c D) (m : Nat) : BS k c (D.drop (m * c)) := by
  intro i
  have h1 := h (m + i)
  rw [Nat.add_mul] at h1
  rw [List.drop_drop]
  refine ⟨h1.1, fun x hx y hy => h1.2 x ?_ y hy⟩
  rw [List.take_drop] at hx
  exact List.mem_of_mem_drop hx
theorem BS.first {k : Nat → Int} {c : Nat} {D : List Nat} (h : BS k c D) : (D.take c).Pairwise (RI k) := by
  have := (h 0).1
  rw [Nat.zero_mul, List.drop_zero] at this
  exact this
theorem BS.cross {k : Nat → Int} {c : Nat} {D : List Nat} (h : BS k c D) : ∀ x ∈ D.take c, ∀ y ∈ D.drop c, x < y := by
  have := (h 1).2
  rw [Nat.one_mul] at this
  exact this
theorem BS.snoc {k : Nat → Int} {c t : Nat} {U Z : List Nat} (h : BS k c U) (hl : U.length = t * c) (hz : Z.length ≤ c) (hs : Z.Pairwise (RI k)) (hc : ∀ x ∈ U, ∀ z ∈ Z, x < z) : BS k c (U ++ Z) := by
  intro i
  rcases Nat.lt_trichotomy i t with hlt | heq | hgt
  · have hi : i * c + c ≤ U.length := by
      rw [hl]
      have := Nat.mul_le_mul_right c (show i + 1 ≤ t by omega)
      rw [Nat.add_mul] at this
      omega
    have h1 := h i
    rw [List.drop_append_of_le_length (by omega), List.take_append_of_le_length (by rw [List.length_drop]; omega), List.take_append_of_le_length (by omega)]
    refine ⟨h1.1, fun x hx y hy => ?_⟩
    rcases List.mem_append.1 hy with hy | hy
    · exact h1.2 x hx y hy
    · exact hc x (List.mem_of_mem_take hx) y hy
  · subst heq
    rw [← hl, List.drop_left, List.take_left, List.take_of_length_le hz]
    exact ⟨hs, hc⟩
  · have hi : (U ++ Z).length ≤ i * c := by
      rw [List.length_append, hl]
      have := Nat.mul_le_mul_right c (show t + 1 ≤ i by omega)
      rw [Nat.add_mul] at this
      omega
    rw [List.drop_of_length_le hi]
    exact ⟨by simp, fun x hx y hy => by simp at hy⟩
theorem BS.all {k : Nat → Int} {c : Nat} {D : List Nat} (h : BS k c D) (hl : D.length ≤ c) : D.Pairwise (RI k) := by
  have := h.first
  rwa [List.take_of_length_le hl] at this

def St1 (k : Nat → Int) (xs : List Nat) (t : Nat) (U V : List Nat) : Prop := U.length = t * 20 ∧ BS k 20 U ∧ V.Pairwise (fun a b => a < b) ∧ (∀ x ∈ U, ∀ y ∈ V, x < y) ∧ (U ++ V).Perm xs
theorem St1.start (k : Nat → Int) {xs : List Nat} (h : xs.Pairwise (fun a b => a < b)) : St1 k xs 0 [] xs := ⟨by simp, BS.nil k 20, h, fun x hx => by simp at hx, List.Perm.refl _⟩
theorem perm_mid {U V Z : List Nat} {n : Nat} (p : Z.Perm (V.take n)) : (U ++ Z ++ V.drop n).Perm (U ++ V) := by
  have h := ((p.append_left U).append_right (V.drop n))
  rw [List.append_assoc U (V.take n), List.take_append_drop] at h
  exact h
theorem St1.next {k : Nat → Int} {xs U V Z : List Nat} {t : Nat} (h : St1 k xs t U V) (hV : 20 ≤ V.length) (p : Z.Perm (V.take 20)) (s : Z.Pairwise (RI k)) : St1 k xs (t + 1) (U ++ Z) (V.drop 20) := by
  obtain ⟨h1, h2, h3, h4, h5⟩ := h
  have hz : Z.length = 20 := by rw [p.length_eq, List.length_take]; omega
  have hm : ∀ z ∈ Z, z ∈ V.take 20 := fun z hz => p.mem_iff.1 hz
  have h3' : (V.take 20 ++ V.drop 20).Pairwise (fun a b => a < b) := by rw [List.take_append_drop]; exact h3
  rw [List.pairwise_append] at h3'
  refine ⟨by rw [List.length_append, h1, hz, Nat.add_mul], h2.snoc h1 (by omega) s fun x hx z hz => h4 x hx z (List.mem_of_mem_take (hm z hz)), h3'.2.1, fun x hx y hy => ?_, (perm_mid p).trans h5⟩
  rcases List.mem_append.1 hx with hx | hx
  · exact h4 x hx y (List.mem_of_mem_drop hy)
  · exact h3'.2.2 x (hm x hx) y hy
theorem St1.last {k : Nat → Int} {xs U V Z : List Nat} {t : Nat} (h : St1 k xs t U V) (hV : V.length < 20) (p : Z.Perm V) (s : Z.Pairwise (RI k)) : BS k 20 (U ++ Z) ∧ (U ++ Z).Perm xs := by
  obtain ⟨h1, h2, h3, h4, h5⟩ := h
  exact ⟨h2.snoc h1 (by rw [p.length_eq]; omega) s fun x hx z hz => h4 x hx z (p.mem_iff.1 hz), (p.append_left U).trans h5⟩
def St3 (k : Nat → Int) (xs : List Nat) (C t : Nat) (U V : List Nat) : Prop := U.length = t * (2 * C) ∧ BS k (2 * C) U ∧ BS k C V ∧ (∀ x ∈ U, ∀ y ∈ V, x < y) ∧ (U ++ V).Perm xs
theorem St3.start {k : Nat → Int} {xs D : List Nat} {C : Nat} (h : BS k C D) (p : D.Perm xs) : St3 k xs C 0 [] D := ⟨by simp, BS.nil k _, h, fun x hx => by simp at hx, p⟩
theorem two_takes (V : List Nat) (C : Nat) : V.take C ++ (V.drop C).take C = V.take (2 * C) := by
  rw [Nat.two_mul, List.take_add]
theorem St3.next {k : Nat → Int} {xs U V Z : List Nat} {C t : Nat} (h : St3 k xs C t U V) (hV : 2 * C ≤ V.length) (p : Z.Perm (V.take C ++ (V.drop C).take C)) (s : Z.Pairwise (RI k)) : St3 k xs C (t + 1) (U ++ Z) (V.drop (2 * C)) := by
  obtain ⟨h1, h2, h3, h4, h5⟩ := h
  rw [two_takes] at p
  have hz : Z.length = 2 * C := by rw [p.length_eq, List.length_take]; omega
  have hm : ∀ z ∈ Z, z ∈ V.take (2 * C) := fun z hz => p.mem_iff.1 hz
  refine ⟨by rw [List.length_append, h1, hz, Nat.add_mul, Nat.one_mul], h2.snoc h1 (by omega) s fun x hx z hz => h4 x hx z (List.mem_of_mem_take (hm z hz)), h3.drop 2, fun x hx y hy => ?_, (perm_mid p).trans h5⟩
  rcases List.mem_append.1 hx with hx | hx
  · exact h4 x hx y (List.mem_of_mem_drop hy)
  · exact (h3 2).2 x (hm x hx) y hy
theorem St3.last {k : Nat → Int} {xs U V Z : List Nat} {C t : Nat} (h : St3 k xs C t U V) (hV : V.length < 2 * C) (p : Z.Perm (V.take C ++ V.drop C)) (s : Z.Pairwise (RI k)) : BS k (2 * C) (U ++ Z) ∧ (U ++ Z).Perm xs := by
  obtain ⟨h1, h2, h3, h4, h5⟩ := h
  rw [List.take_append_drop] at p
  exact ⟨h2.snoc h1 (by rw [p.length_eq]; omega) s fun x hx z hz => h4 x hx z (p.mem_iff.1 hz), (p.append_left U).trans h5⟩
theorem St3.none {k : Nat → Int} {xs U V : List Nat} {C t : Nat} (h : St3 k xs C t U V) (hV : V.length ≤ C) : BS k (2 * C) (U ++ V) ∧ (U ++ V).Perm xs := by
  obtain ⟨h1, h2, h3, h4, h5⟩ := h
  exact ⟨h2.snoc h1 (by omega) (h3.all hV) fun x hx z hz => h4 x hx z hz, h5⟩

end Go.Proofs.Ytapdcejhfooahaa

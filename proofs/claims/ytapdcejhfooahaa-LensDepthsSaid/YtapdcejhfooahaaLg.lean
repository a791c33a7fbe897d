/- None is cheaper: depths that merging gives cost no more than any lengths whose share is no more than one. No program in sight. -/
import Derived.Test.YtapdcejhfooahaaLe
namespace Go.Proofs.Ytapdcejhfooahaa
set_option linter.unusedVariables false
set_option linter.unusedSimpArgs false
open Hu

theorem sum_one {g g' : Nat → Int} {x : Nat} : ∀ {X : List Nat}, X.Nodup → x ∈ X → (∀ i ∈ X, i ≠ x → g' i = g i) → sumI (X.map g') = sumI (X.map g) + (g' x - g x)
  | [], _, hx, _ => by simp at hx
  | y :: X, hn, hx, h => by
    rw [List.nodup_cons] at hn
    simp only [List.map_cons, sumI]
    by_cases e : y = x
    · subst e
      have : X.map g' = X.map g := List.map_congr_left fun i hi => h i (by simp [hi]) (fun q => hn.1 (q ▸ hi))
      rw [this]
      omega
    · have hx' : x ∈ X := by
        rcases List.mem_cons.1 hx with q | q
        · exact absurd q.symm e
        · exact q
      rw [sum_one hn.2 hx' (fun i hi => h i (by simp [hi])), h y (by simp) e]
      omega
theorem sum_dvd {d : Int} {g : Nat → Int} : ∀ {X : List Nat}, (∀ i ∈ X, d ∣ g i) → d ∣ sumI (X.map g)
  | [], _ => by simp [sumI]
  | y :: X, h => by
    simp only [List.map_cons, sumI]
    exact Int.dvd_add (h y (by simp)) (sum_dvd fun i hi => h i (by simp [hi]))
theorem sum_nonneg {g : Nat → Int} : ∀ {X : List Nat}, (∀ i ∈ X, 0 ≤ g i) → 0 ≤ sumI (X.map g)
  | [], _ => by simp [sumI]
  | y :: X, h => by
    simp only [List.map_cons, sumI]
    have := h y (by simp)
    have := sum_nonneg (X := X) (g := g) fun i hi => h i (by simp [hi])
    omega
theorem top_of (l : Nat → Nat) : ∀ X : List Nat, X ≠ [] → ∃ p ∈ X, ∀ i ∈ X, l i ≤ l p
  | [], h => absurd rfl h
  | [x], _ => ⟨x, by simp, fun i hi => by rw [List.mem_singleton.1 hi]; exact Nat.le_refl _⟩
  | x :: y :: X, _ => by
    obtain ⟨p, hp, h⟩ := top_of l (y :: X) (by simp)
    by_cases e : l x ≤ l p
    · exact ⟨p, by simp at hp ⊢; exact .inr hp, fun i hi => by
        rcases List.mem_cons.1 hi with q | q
        · rw [q]; exact e
        · exact h i q⟩
    · exact ⟨x, by simp, fun i hi => by
        rcases List.mem_cons.1 hi with q | q
        · rw [q]; exact Nat.le_refl _
        · have := h i q; omega⟩

def krf (M : Nat) (l : Nat → Nat) (X : List Nat) : Int := sumI (X.map fun i => (2 : Int) ^ (M - l i))
def cst (w : Nat → Int) (l : Nat → Nat) (X : List Nat) : Int := sumI (X.map fun i => w i * l i)
def swp (l : Nat → Nat) (x p : Nat) : Nat → Nat := fun i => if i = x then l p else if i = p then l x else l i
theorem swap_ok (M : Nat) (w : Nat → Int) (l : Nat → Nat) {X : List Nat} (hn : X.Nodup) {x p : Nat} (hx : x ∈ X) (hp : p ∈ X) (hl : l x ≤ l p) (hw : w x ≤ w p) : krf M (swp l x p) X = krf M l X ∧ cst w (swp l x p) X ≤ cst w l X := by
  by_cases e : x = p
  · subst e
    have : swp l x x = l := by funext i; unfold swp; split <;> simp_all
    rw [this]
    exact ⟨rfl, Int.le_refl _⟩
  · have two : ∀ F : Nat → Nat → Int, sumI (X.map fun i => F i (swp l x p i)) = sumI (X.map fun i => F i (l i)) + (F x (l p) - F x (l x)) + (F p (l x) - F p (l p)) := by
      intro F
      have h1 := sum_one (g := fun i => F i (l i)) (g' := fun i => if i = x then F x (l p) else F i (l i)) hn hx (fun i _ hi => if_neg hi)
      have h2 := sum_one (g := fun i => if i = x then F x (l p) else F i (l i)) (g' := fun i => F i (swp l x p i)) hn hp (fun i _ hi => by
        unfold swp
        by_cases q : i = x
        · subst q; simp
        · simp [q, hi])
      rw [h2, h1]
      simp only [if_true, if_neg (Ne.symm e)]
      have e1 : swp l x p p = l x := by unfold swp; rw [if_neg (Ne.symm e), if_pos rfl]
      rw [e1]
    refine ⟨?_, ?_⟩
    · have := two (fun _ j => (2 : Int) ^ (M - j))
      unfold krf
      omega
    · have := two (fun i j => w i * j)
      unfold cst
      have h0 : 0 ≤ (w p - w x) * ((l p : Int) - (l x : Int)) := Int.mul_nonneg (by omega) (by omega)
      rw [Int.sub_mul, Int.mul_sub, Int.mul_sub] at h0
      omega
theorem swp_le {M : Nat} {l : Nat → Nat} {X : List Nat} {x p : Nat} (h : ∀ i ∈ X, l i ≤ M) (hx : x ∈ X) (hp : p ∈ X) : ∀ i ∈ X, swp l x p i ≤ M := fun i hi => by
  unfold swp
  split
  · exact h p hp
  · split
    · exact h x hx
    · exact h i hi

theorem opt_pair (M : Nat) (w : Nat → Int) {X : List Nat} (hn : X.Nodup) (hw : ∀ i ∈ X, 0 ≤ w i) {a b : Nat} (ha : a ∈ X) (hb : b ∈ X) (hab : a ≠ b) (la : ∀ i ∈ X, w a ≤ w i) (lb : ∀ i ∈ X, i ≠ a → w b ≤ w i) :
    ∀ (s : Nat) (l : Nat → Nat), sumI (X.map fun i => (l i : Int)) ≤ s → (∀ i ∈ X, l i ≤ M) → krf M l X ≤ 2 ^ M →
      ∃ l', (∀ i ∈ X, l' i ≤ M) ∧ l' a = l' b ∧ 1 ≤ l' a ∧ krf M l' X ≤ 2 ^ M ∧ cst w l' X ≤ cst w l X := by
  intro s
  induction s with
  | zero =>
    intro l hs hM hk
    exfalso
    have h0 : ∀ i ∈ X, l i = 0 := fun i hi => by
      have h1 := sum_one (g := fun i => (l i : Int)) (g' := fun j => if j = i then 0 else (l j : Int)) hn hi (fun j _ hj => if_neg hj)
      have h2 := sum_nonneg (X := X) (g := fun j => if j = i then 0 else (l j : Int)) (fun j _ => by show 0 ≤ (if j = i then (0 : Int) else _); split <;> omega)
      simp only [if_true] at h1
      omega
    have h3 := sum_one (g := fun i => (2 : Int) ^ (M - l i)) (g' := fun j => if j = a then 0 else (2 : Int) ^ (M - l j)) hn ha (fun j _ hj => if_neg hj)
    have h4 := sum_one (g := fun j => if j = a then 0 else (2 : Int) ^ (M - l j)) (g' := fun j => if j = b then 0 else if j = a then 0 else (2 : Int) ^ (M - l j)) hn hb (fun j _ hj => if_neg hj)
    have h5 := sum_nonneg (X := X) (g := fun j => if j = b then 0 else if j = a then 0 else (2 : Int) ^ (M - l j)) (fun j _ => by
      show 0 ≤ (if j = b then (0 : Int) else _)
      split
      · omega
      · split
        · omega
        · exact Int.pow_nonneg (by omega))
    simp only [if_true, if_neg (Ne.symm hab), h0 a ha, h0 b hb, Nat.sub_zero] at h3 h4
    have : (0 : Int) < 2 ^ M := Int.pow_pos (by omega)
    unfold krf at hk
    omega
  | succ s ih =>
    intro l hs hM hk
    obtain ⟨p, hp, hmax⟩ := top_of l X (fun e => by rw [e] at ha; simp at ha)
    by_cases hone : ∃ q ∈ X, q ≠ p ∧ l q = l p
    · obtain ⟨q, hq, hqp, hlq⟩ := hone
      obtain ⟨k1, c1⟩ := swap_ok M w l hn ha hp (hmax a ha) (la p hp)
      have m1 := swp_le (M := M) hM ha hp
      have tA : swp l a p a = l p := by unfold swp; rw [if_pos rfl]
      have le1 : ∀ i ∈ X, swp l a p i ≤ l p := fun i hi => swp_le (M := l p) hmax ha hp i hi
      obtain ⟨r, hr, hra, hlr⟩ : ∃ r ∈ X, r ≠ a ∧ swp l a p r = l p := by
        by_cases e : q = a
        · subst e
          refine ⟨p, hp, Ne.symm hqp, ?_⟩
          unfold swp
          rw [if_neg (Ne.symm hqp), if_pos rfl]
          exact hlq
        · refine ⟨q, hq, e, ?_⟩
          unfold swp
          rw [if_neg e, if_neg hqp]
          exact hlq
      obtain ⟨k2, c2⟩ := swap_ok M w (swp l a p) hn hb hr (by rw [hlr]; exact le1 b hb) (lb r hr hra)
      have m2 := swp_le (M := M) m1 hb hr
      have uA : swp (swp l a p) b r a = l p := by
        show (if a = b then _ else if a = r then _ else _) = _
        rw [if_neg hab, if_neg (Ne.symm hra), tA]
      have uB : swp (swp l a p) b r b = l p := by
        show (if b = b then _ else _) = _
        rw [if_pos rfl, hlr]
      refine ⟨_, m2, by rw [uA, uB], ?_, by rw [k2, k1]; exact hk, by omega⟩
      rw [uA]
      -- the longest is no empty one
      apply Decidable.byContradiction
      intro hc
      have z : ∀ i ∈ X, l i = 0 := fun i hi => by have := hmax i hi; omega
      have h3 := sum_one (g := fun i => (2 : Int) ^ (M - l i)) (g' := fun j => if j = a then 0 else (2 : Int) ^ (M - l j)) hn ha (fun j _ hj => if_neg hj)
      have h4 := sum_one (g := fun j => if j = a then 0 else (2 : Int) ^ (M - l j)) (g' := fun j => if j = b then 0 else if j = a then 0 else (2 : Int) ^ (M - l j)) hn hb (fun j _ hj => if_neg hj)
      have h5 := sum_nonneg (X := X) (g := fun j => if j = b then 0 else if j = a then 0 else (2 : Int) ^ (M - l j)) (fun j _ => by
        show 0 ≤ (if j = b then (0 : Int) else _)
        split
        · omega
        · split
          · omega
          · exact Int.pow_nonneg (by omega))
      simp only [if_true, if_neg (Ne.symm hab), z a ha, z b hb, Nat.sub_zero] at h3 h4
      have : (0 : Int) < 2 ^ M := Int.pow_pos (by omega)
      unfold krf at hk
      omega
    · have oth : ∀ i ∈ X, i ≠ p → l i + 1 ≤ l p := fun i hi hip => by
        have := hmax i hi
        have : l i ≠ l p := fun e => hone ⟨i, hi, hip, e⟩
        omega
      have hL : 1 ≤ l p := by
        by_cases e : a = p
        · have := oth b hb (fun q => hab (e.trans q.symm)); omega
        · have := oth a ha e; omega
      have hLM := hM p hp
      -- one unit is free
      have h3 := sum_one (g := fun i => (2 : Int) ^ (M - l i)) (g' := fun j => if j = p then 0 else (2 : Int) ^ (M - l j)) hn hp (fun j _ hj => if_neg hj)
      have h4 := sum_dvd (X := X) (d := 2 * 2 ^ (M - l p)) (g := fun j => if j = p then 0 else (2 : Int) ^ (M - l j)) (fun j hj => by
        show _ ∣ (if j = p then (0 : Int) else _)
        split
        · exact Int.dvd_zero _
        · rename_i e
          have := oth j hj e
          rw [show M - l j = (M - l p + 1) + (l p - 1 - l j) by omega, Int.pow_add, Int.pow_succ, Int.mul_comm 2]
          exact Int.dvd_mul_right _ _)
      have h5 : (2 : Int) ^ M = 2 * 2 ^ (M - l p) * 2 ^ (l p - 1) := by
        rw [Int.mul_comm 2, ← Int.pow_succ, ← Int.pow_add]
        congr 1
        omega
      obtain ⟨t, ht⟩ := h4
      simp only [if_true] at h3
      obtain ⟨u, hu⟩ : ∃ u : Int, (2 : Int) ^ (M - l p) = u := ⟨_, rfl⟩
      obtain ⟨y, hy⟩ : ∃ y : Int, (2 : Int) ^ (l p - 1) = y := ⟨_, rfl⟩
      have hu0 : 0 < u := by rw [← hu]; exact Int.pow_pos (by omega)
      rw [hu] at h3 ht h5
      rw [hy] at h5
      have hty : t < y := by
        apply Decidable.byContradiction
        intro hc
        have : 2 * u * y ≤ 2 * u * t := Int.mul_le_mul_of_nonneg_left (by omega) (by omega)
        unfold krf at hk
        omega
      have hfit : 2 * u * t + 2 * u ≤ 2 * u * y := by
        have : 2 * u * (t + 1) ≤ 2 * u * y := Int.mul_le_mul_of_nonneg_left (by omega) (by omega)
        rw [Int.mul_add] at this
        omega
      obtain ⟨l1, hl1⟩ : ∃ l1 : Nat → Nat, l1 = fun i => if i = p then l p - 1 else l i := ⟨_, rfl⟩
      have l1p : l1 p = l p - 1 := by rw [hl1]; exact if_pos rfl
      have l1o : ∀ i, i ≠ p → l1 i = l i := fun i hi => by rw [hl1]; exact if_neg hi
      have s1 := sum_one (g := fun i => (l i : Int)) (g' := fun i => (l1 i : Int)) hn hp (fun i _ hi => by show (l1 i : Int) = l i; rw [l1o i hi])
      have s2 := sum_one (g := fun i => (2 : Int) ^ (M - l i)) (g' := fun i => (2 : Int) ^ (M - l1 i)) hn hp (fun i _ hi => by show (2 : Int) ^ (M - l1 i) = _; rw [l1o i hi])
      have s3 := sum_one (g := fun i => w i * (l i : Int)) (g' := fun i => w i * (l1 i : Int)) hn hp (fun i _ hi => by show w i * (l1 i : Int) = _; rw [l1o i hi])
      simp only [l1p] at s1 s2 s3
      have e1 : (2 : Int) ^ (M - (l p - 1)) = u + u := by
        rw [show M - (l p - 1) = (M - l p) + 1 by omega, Int.pow_succ, hu]
        omega
      rw [e1, hu] at s2
      have e2 : ((l p - 1 : Nat) : Int) = (l p : Int) - 1 := by omega
      rw [e2] at s1 s3
      have wp := hw p hp
      obtain ⟨l', q1, q2, q3, q4, q5⟩ := ih l1 (by omega) (fun i hi => by
        by_cases e : i = p
        · rw [e, l1p]; omega
        · rw [l1o i e]; exact hM i hi) (by unfold krf at hk ⊢; omega)
      refine ⟨l', q1, q2, q3, q4, ?_⟩
      unfold cst at q5 ⊢
      rw [Int.mul_sub] at s3
      omega

/-- none is cheaper -/
theorem Merge.cheap {N : Nat} {w : Nat → Int} {I A B : Nat → Nat} {X R : Nat → List Nat} (m : Merge N w I A B X R) {dep : Nat → Nat} (d0 : dep (2 * N - 2) = 0) (d1 : ∀ i, i < 2 * N - 2 → dep i = dep (I i) + 1) (M : Nat) :
    ∀ d k, k + d + 1 = N → ∀ l : Nat → Nat, (∀ i ∈ X k, l i ≤ M) → krf M l (X k) ≤ 2 ^ M → cst w dep (X k) ≤ cst w l (X k) := by
  intro d
  induction d with
  | zero =>
    intro k hk l hM _
    have hN := m.two
    have := m.last
    rw [show N - 1 = k by omega] at this
    rw [this]
    unfold cst
    simp only [List.map_cons, List.map_nil, sumI, d0]
    have := Int.mul_nonneg (m.pos (2 * N - 2) (Nat.le_refl _)) (show (0 : Int) ≤ (l (2 * N - 2) : Int) by omega)
    omega
  | succ d ih =>
    intro k hk l hM hk2
    have hN := m.two
    have h2 : k + 2 ≤ N := by omega
    have a := m.aX h2
    have hnd := m.nodup (k := k) (by omega)
    have pst := m.st k h2
    have hnd2 := pst.nodup_iff.1 hnd
    rw [List.nodup_cons, List.nodup_cons] at hnd2
    have hpos : ∀ i ∈ X k, 0 ≤ w i := fun i hi => m.pos i (by have := m.lt (by omega) hi; omega)
    have la : ∀ i ∈ X k, w (A k) ≤ w i := fun i hi => by
      rcases List.mem_cons.1 (pst.mem_iff.1 hi) with e | e
      · rw [e]; exact Int.le_refl _
      · have := m.mA k h2 i e; unfold RI at this; omega
    have lb : ∀ i ∈ X k, i ≠ A k → w (B k) ≤ w i := fun i hi hne => by
      rcases List.mem_cons.1 (pst.mem_iff.1 hi) with e | e
      · exact absurd e hne
      · rcases List.mem_cons.1 e with e | e
        · rw [e]; exact Int.le_refl _
        · have := m.mB k h2 i e; unfold RI at this; omega
    have hs0 := sum_nonneg (X := X k) (g := fun i => (l i : Int)) (fun i _ => by show (0 : Int) ≤ l i; omega)
    obtain ⟨l', q1, q2, q3, q4, q5⟩ := opt_pair M w hnd hpos a.1 a.2.1 (fun e => hnd2.1 (by simp [e])) la lb (sumI ((X k).map fun i => (l i : Int))).toNat l (by omega) hM hk2
    refine Int.le_trans ?_ q5
    obtain ⟨l2, hl2⟩ : ∃ l2 : Nat → Nat, l2 = fun i => if i = N + k then l' (A k) - 1 else l' i := ⟨_, rfl⟩
    have l2n : l2 (N + k) = l' (A k) - 1 := by rw [hl2]; exact if_pos rfl
    have l2o : ∀ i ∈ R k, l2 i = l' i := fun i hi => by
      rw [hl2]
      refine if_neg (fun e => ?_)
      have := m.lt (by omega) (a.2.2.1 i hi)
      omega
    have pn := m.nx k h2
    have h := ih (k + 1) (by omega) l2 (fun i hi => by
      rcases List.mem_cons.1 (pn.mem_iff.1 hi) with e | e
      · rw [e, l2n]; have := q1 _ a.1; omega
      · rw [l2o i e]; exact q1 i (a.2.2.1 i e)) (by
      unfold krf at q4 ⊢
      rw [sumI_perm (pst.map _)] at q4
      rw [sumI_perm (pn.map _)]
      have hr : (R k).map (fun i => (2 : Int) ^ (M - l2 i)) = (R k).map fun i => (2 : Int) ^ (M - l' i) := List.map_congr_left fun i hi => by rw [l2o i hi]
      simp only [List.map_cons, sumI, l2n] at q4 ⊢
      rw [hr]
      rw [← q2] at q4
      have := q1 _ a.1
      rw [show M - (l' (A k) - 1) = (M - l' (A k)) + 1 by omega, Int.pow_succ]
      omega)
    unfold cst at h ⊢
    rw [sumI_perm (pn.map _), sumI_perm (pn.map _)] at h
    rw [sumI_perm (pst.map _), sumI_perm (pst.map _)]
    have hr : (R k).map (fun i => w i * (l2 i : Int)) = (R k).map fun i => w i * (l' i : Int) := List.map_congr_left fun i hi => by rw [l2o i hi]
    simp only [List.map_cons, sumI, l2n] at h ⊢
    rw [hr] at h
    obtain ⟨e1, e2⟩ := m.dep_ab d1 h2
    rw [e1, e2, ← q2]
    have hwn := m.wn k h2
    rw [hwn] at h
    have e3 : ((l' (A k) - 1 : Nat) : Int) = (l' (A k) : Int) - 1 := by omega
    rw [e3, Int.mul_sub, Int.add_mul, Int.add_mul] at h
    rw [show ((dep (N + k) + 1 : Nat) : Int) = (dep (N + k) : Int) + 1 by omega, Int.mul_add, Int.mul_add]
    omega

end Go.Proofs.Ytapdcejhfooahaa

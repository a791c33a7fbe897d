/- Depths as a plain function of weights, and what they obey. No program in sight. -/
import Derived.Test.YtapdcejhfooahaaLd
namespace Go.Proofs.Ytapdcejhfooahaa
set_option linter.unusedVariables false
set_option linter.unusedSimpArgs false
open Hu

theorem fill_keep (into : List Int) : ∀ (i : Nat) (out : List Int) (j : Nat), i ≤ j → (fillD into i out).getD j 0 = out.getD j 0
  | 0, out, j, _ => rfl
  | i + 1, out, j, h => by
    unfold fillD
    rw [fill_keep into i _ j (by omega), getD_setI, if_neg (by omega)]
theorem fill_rec (into : List Int) (T : Nat) : ∀ (i : Nat) (out : List Int), out.length = T → i ≤ T → (∀ j, j < i → j < (into.getD j 0).toNat ∧ (into.getD j 0).toNat < T) → ∀ j, j < i → (fillD into i out).getD j 0 = (fillD into i out).getD (into.getD j 0).toNat 0 + 1
  | 0, out, _, _, _, j, hj => by omega
  | i + 1, out, hl, hi, hin, j, hj => by
    have h0 := hin i (by omega)
    unfold fillD
    by_cases e : j = i
    · subst e
      rw [fill_keep into j _ j (by omega), fill_keep into j _ _ (by omega), getD_setI, getD_setI, if_pos ⟨rfl, by omega⟩, if_neg (by omega)]
    · exact fill_rec into T i _ (by rw [List.length_set]; exact hl) (by omega) (fun j hj => hin j (by omega)) j (by omega)
theorem fill_pos (into : List Int) : ∀ (i : Nat) (out : List Int), (∀ j, 0 ≤ out.getD j 0) → ∀ j, 0 ≤ (fillD into i out).getD j 0
  | 0, out, h, j => h j
  | i + 1, out, h, j => by
    unfold fillD
    refine fill_pos into i _ (fun j => ?_) j
    rw [getD_setI]
    have := h j
    have := h (into.getD i 0).toNat
    split <;> omega

/-- the merging of weights and the depths that come of it -/
structure Deps (ws : List Int) (D : List Nat) (w : Nat → Int) (I A B : Nat → Nat) (X R : Nat → List Nat) (dep : Nat → Nat) : Prop where
  m : Merge ws.length w I A B X R
  d0 : dep (2 * ws.length - 2) = 0
  d1 : ∀ i, i < 2 * ws.length - 2 → dep i = dep (I i) + 1
  ww : ∀ i, i < ws.length → w i = ws.getD i 0
  eq : depthsP ws D = (List.range ws.length).map fun i => (dep i : Int)
theorem deps_of {ws : List Int} {D : List Nat} (hN : 2 ≤ ws.length) (hp : D.Perm (List.range ws.length)) (hs : D.Pairwise (RI (keyW ws))) (hw : ∀ x ∈ ws, 0 ≤ x) : ∃ w I A B X R dep, Deps ws D w I A B X R dep := by
  obtain ⟨A, B, X, R, m, ww⟩ := merge_of hN hp hs hw
  obtain ⟨out, hout⟩ : ∃ out, fillD (treeOf ws D).into (2 * ws.length - 2) (List.replicate (2 * ws.length - 1) 0) = out := ⟨_, rfl⟩
  have hpos : ∀ j, 0 ≤ out.getD j 0 := by
    rw [← hout]
    refine fill_pos _ _ _ fun j => ?_
    rw [List.getD_eq_getElem?_getD, List.getElem?_replicate]
    split <;> simp
  have hlen : out.length = 2 * ws.length - 1 := by rw [← hout, fillD_len, List.length_replicate]
  refine ⟨_, _, A, B, X, R, fun i => (out.getD i 0).toNat, m, ?_, fun i hi => ?_, ww, ?_⟩
  · rw [← hout, fill_keep _ _ _ _ (Nat.le_refl _), List.getD_eq_getElem?_getD, List.getElem?_replicate]
    split <;> rfl
  · have h1 := fill_rec (treeOf ws D).into (2 * ws.length - 1) (2 * ws.length - 2) (List.replicate (2 * ws.length - 1) 0) (by rw [List.length_replicate]) (by omega) (fun j hj => by
      have := m.up hj
      omega) i hi
    rw [hout] at h1
    have := hpos ((treeOf ws D).into.getD i 0).toNat
    show (out.getD i 0).toNat = (out.getD ((treeOf ws D).into.getD i 0).toNat 0).toNat + 1
    rw [h1]
    omega
  · unfold depthsP
    rw [hout]
    apply List.ext_getElem
    · simp [hlen]; omega
    · intro i h1 h2
      have h3 : i < ws.length := by simpa using h2
      have := hpos i
      rw [List.getD_eq_getElem?_getD, List.getElem?_eq_getElem (by omega)] at this
      simp only [List.getElem_take, List.getElem_map, List.getElem_range]
      rw [List.getD_eq_getElem?_getD, List.getElem?_eq_getElem (by omega)]
      simp only [Option.getD_some] at this ⊢
      omega

/-! the order is one alone -/
theorem sorted_one {k : Nat → Int} : ∀ {a b : List Nat}, a.Perm b → a.Pairwise (RI k) → b.Pairwise (RI k) → a = b
  | [], b, h, _, _ => (List.nil_perm.1 h).symm
  | x :: a, [], h, _, _ => by simp at h
  | x :: a, y :: b, h, h1, h2 => by
    have h1' := List.pairwise_cons.1 h1
    have h2' := List.pairwise_cons.1 h2
    have e : x = y := by
      have m1 : x ∈ y :: b := h.mem_iff.1 (by simp)
      have m2 : y ∈ x :: a := h.mem_iff.2 (by simp)
      rcases List.mem_cons.1 m1 with e | e
      · exact e
      · rcases List.mem_cons.1 m2 with e2 | e2
        · exact e2.symm
        · have r1 := h2'.1 x e
          have r2 := h1'.1 y e2
          unfold RI at r1 r2
          omega
    subst e
    rw [sorted_one h.cons_inv h1'.2 h2'.2]
def Sorts (ws : List Int) (D : List Nat) : Prop := D.Perm (List.range ws.length) ∧ D.Pairwise (RI (keyW ws))
theorem Sorts.one {ws : List Int} {D E : List Nat} (h : Sorts ws D) (k : Sorts ws E) : D = E := sorted_one (h.1.trans k.1.symm) h.2 k.2
open Classical in
noncomputable def sortD (ws : List Int) : List Nat := if h : ∃ D, Sorts ws D then h.choose else []
theorem Sorts.eq {ws : List Int} {D : List Nat} (h : Sorts ws D) : sortD ws = D := by
  unfold sortD
  have hx : ∃ D, Sorts ws D := ⟨D, h⟩
  rw [dif_pos hx]
  exact hx.choose_spec.one h
/-- the depths of weights -/
noncomputable def depF (ws : List Int) : List Int := depthsP ws (sortD ws)
theorem Sorts.dep {ws : List Int} {D : List Nat} (h : Sorts ws D) : depthsP ws D = depF ws := by unfold depF; rw [h.eq]

/-! what depths obey -/
theorem getD_map_range {f : Nat → Int} {n i : Nat} (h : i < n) : ((List.range n).map f).getD i 0 = f i := by
  rw [List.getD_eq_getElem?_getD, List.getElem?_map, List.getElem?_range h]
  rfl
section
variable {ws : List Int} {D : List Nat} {w : Nat → Int} {I A B : Nat → Nat} {X R : Nat → List Nat} {dep : Nat → Nat}
theorem Deps.at_ (d : Deps ws D w I A B X R dep) {i : Nat} (h : i < ws.length) : (depthsP ws D).getD i 0 = dep i := by
  rw [d.eq, getD_map_range h]
theorem Deps.ge1 (d : Deps ws D w I A B X R dep) {i : Nat} (h : i < ws.length) : 1 ≤ dep i := by
  have := d.m.two
  rw [d.d1 i (by omega)]
  omega
theorem Deps.le (d : Deps ws D w I A B X R dep) {i : Nat} (h : i < ws.length) : dep i < ws.length := by
  have hN := d.m.two
  have u := d.m.up (show i < 2 * ws.length - 2 by omega)
  have := d.m.dep_le d.d0 d.d1 (2 * ws.length) (I i) (by omega) (by omega)
  rw [d.d1 i (by omega)]
  omega
theorem Deps.mem (d : Deps ws D w I A B X R dep) {P : Int → Prop} : (∀ x ∈ depthsP ws D, P x) ↔ ∀ i, i < ws.length → P (dep i) := by
  rw [d.eq]
  simp
end

/-- shares -/
def shr1 (x : Int) : Int := 2 ^ (20 - x).toNat
def shrL (xs : List Int) : Int := sumI (xs.map shr1)
theorem Deps.share {ws : List Int} {D : List Nat} {w : Nat → Int} {I A B : Nat → Nat} {X R : Nat → List Nat} {dep : Nat → Nat} (d : Deps ws D w I A B X R dep) (h : ∀ x ∈ depthsP ws D, x ≤ 20) : shrL (depthsP ws D) = 1048576 := by
  have h := d.mem.1 h
  have hN := d.m.two
  obtain ⟨M, hM⟩ : ∃ M, M = 2 * ws.length + 20 := ⟨_, rfl⟩
  have hk := d.m.kraft d.d0 d.d1 M (by omega)
  have e : ∀ l : List Nat, (∀ i ∈ l, i < ws.length) → sumI (l.map fun i => (2 : Int) ^ (M - dep i)) = 2 ^ (M - 20) * sumI (l.map fun i => shr1 (dep i)) := by
    intro l
    induction l with
    | nil => intro _; simp [sumI]
    | cons x l ih =>
      intro hl
      have hx := h x (hl x (by simp))
      simp only [List.map_cons, sumI]
      rw [ih (fun i hi => hl i (by simp [hi])), Int.mul_add]
      congr 1
      unfold shr1
      rw [← Int.pow_add]
      congr 1
      omega
  rw [e _ (fun i hi => List.mem_range.1 hi)] at hk
  unfold shrL
  rw [d.eq, List.map_map]
  have hk2 : (2 : Int) ^ M = 2 ^ (M - 20) * 1048576 := by
    rw [show (1048576 : Int) = 2 ^ 20 by rfl, ← Int.pow_add]
    congr 1
    omega
  rw [hk2] at hk
  exact Int.eq_of_mul_eq_mul_left (Int.ne_of_gt (Int.pow_pos (by omega))) hk

end Go.Proofs.Ytapdcejhfooahaa

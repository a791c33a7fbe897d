/- Plain facts: the sorted places of a text are one list: the one that the reference makes. No program in sight. -/
import Derived.Test.YtbakfaihnecmoaaPlain3
namespace Go.Proofs.Ytbakfaihnecmoaa.Pl
set_option linter.unusedVariables false
set_option linter.unusedSimpArgs false

def insRec (s : ByteArray) (i : Int) : List Int → List Int
  | [] => [i]
  | k :: ks => if aheadS s i k then i :: k :: ks else k :: insRec s i ks

theorem foldl_put (s : ByteArray) (i : Int) : ∀ (l acc : List Int), l.foldl (insStep s i) (acc, true) = (acc ++ l, true)
  | [], acc => by simp
  | k :: ks, acc => by
    rw [List.foldl_cons, show insStep s i (acc, true) k = (acc ++ [k], true) from rfl, foldl_put s i ks]
    simp
theorem foldl_ins (s : ByteArray) (i : Int) : ∀ (l acc : List Int), (if (l.foldl (insStep s i) (acc, false)).2 then (l.foldl (insStep s i) (acc, false)).1 else (l.foldl (insStep s i) (acc, false)).1 ++ [i]) = acc ++ insRec s i l
  | [], acc => by simp [insRec]
  | k :: ks, acc => by
    rw [List.foldl_cons]
    cases h : aheadS s i k with
    | true =>
      rw [show insStep s i (acc, false) k = (acc ++ [i] ++ [k], true) by simp [insStep, h], foldl_put]
      simp [insRec, h]
    | false =>
      rw [show insStep s i (acc, false) k = (acc ++ [k], false) by simp [insStep, h], foldl_ins s i ks]
      simp [insRec, h]
theorem insAll_rec (s : ByteArray) (i : Int) (l : List Int) : insAll s i l = insRec s i l := by
  have := foldl_ins s i l []
  unfold insAll insTo
  rw [List.take_length]
  simpa using this

theorem mem_insRec (s : ByteArray) (i x : Int) : ∀ l, x ∈ insRec s i l ↔ x = i ∨ x ∈ l
  | [] => by simp [insRec]
  | k :: ks => by
    simp only [insRec]
    split
    · simp
    · simp only [List.mem_cons, mem_insRec s i x ks]
      exact ⟨fun h => by rcases h with h | h | h <;> simp [h], fun h => by rcases h with h | h | h <;> simp [h]⟩

theorem mem_sortTo (s : ByteArray) (x : Int) : ∀ i : Nat, x ∈ sortTo s i ↔ 0 ≤ x ∧ x < i
  | 0 => by
    constructor
    · intro h; simp [sortTo] at h
    · intro h; omega
  | i + 1 => by
    rw [sortTo, insAll_rec, mem_insRec, mem_sortTo s x i]
    omega

def Ahd (s : ByteArray) (a b : Int) : Prop := aheadS s a b = true

theorem pairwise_ins (s : ByteArray) (i : Int) (hi : isB s i = true) : ∀ l : List Int, (∀ x ∈ l, isB s x = true ∧ x ≠ i) → l.Pairwise (Ahd s) → (insRec s i l).Pairwise (Ahd s)
  | [], _, _ => by simp [insRec]
  | k :: ks, h, hp => by
    rw [List.pairwise_cons] at hp
    simp only [insRec]
    split
    · rename_i h1
      rw [List.pairwise_cons, List.pairwise_cons]
      refine ⟨fun x hx => ?_, hp⟩
      cases List.mem_cons.1 hx with
      | inl e => subst e; exact h1
      | inr e => exact ahead_trans s i k x h1 (hp.1 x e)
    · rename_i h1
      have hk := h k (by simp)
      have hki : aheadS s k i = true := by
        rcases ahead_total s i k hi hk.1 (fun e => hk.2 e.symm) with e | e
        · exact absurd e h1
        · exact e
      rw [List.pairwise_cons]
      refine ⟨fun x hx => ?_, pairwise_ins s i hi ks (fun x hx => h x (by simp [hx])) hp.2⟩
      rw [mem_insRec] at hx
      rcases hx with rfl | hx
      · exact hki
      · exact hp.1 x hx

theorem pairwise_sortTo (s : ByteArray) : ∀ i : Nat, i ≤ s.size → (sortTo s i).Pairwise (Ahd s)
  | 0, _ => by simp [sortTo]
  | i + 1, h => by
    rw [sortTo, insAll_rec]
    refine pairwise_ins s i (isB_of (by omega) (by omega)) _ (fun x hx => ?_) (pairwise_sortTo s i (by omega))
    rw [mem_sortTo] at hx
    exact ⟨isB_of hx.1 (by omega), by omega⟩

theorem places_sortTo (s : ByteArray) (i : Nat) (hi : i ≤ s.size) : ∀ j, j < (sortTo s i).length → isB s ((sortTo s i).getD j 0) = true := by
  intro j hj
  have : (sortTo s i).getD j 0 ∈ sortTo s i := by
    rw [List.getD_eq_getElem?_getD, List.getElem?_eq_getElem hj]; exact List.getElem_mem hj
  rw [mem_sortTo] at this
  exact isB_of this.1 (by omega)

theorem nodup_of_pairwise (s : ByteArray) {l : List Int} (h : l.Pairwise (Ahd s)) : l.Nodup := by
  refine List.Pairwise.imp ?_ h
  intro a b hab e
  subst e
  have := ahead_irrefl s a
  rw [hab] at this
  cases this

/-- what the package asks of each place is what is asked of any two -/
theorem pairwise_of_ok (s : ByteArray) (xs : List Int) (h : ∀ j, j < xs.length → okAt s xs j = true) : xs.Pairwise (Ahd s) := by
  rw [List.pairwise_iff_getElem]
  have step : ∀ j, j + 1 < xs.length → aheadS s (xs.getD j 0) (xs.getD (j + 1) 0) = true := by
    intro j hj
    have := h (j + 1) hj
    unfold okAt at this
    simpa using (Bool.and_eq_true_iff.1 this).2
  have far : ∀ d i, i + d + 1 < xs.length → aheadS s (xs.getD i 0) (xs.getD (i + d + 1) 0) = true := by
    intro d
    induction d with
    | zero => intro i hi; exact step i hi
    | succ d ih =>
      intro i hi
      exact ahead_trans s _ _ _ (ih i (by omega)) (step (i + d + 1) (by omega))
  intro i j hi hj hij
  have := far (j - i - 1) i (by omega)
  rw [show i + (j - i - 1) + 1 = j by omega, List.getD_eq_getElem?_getD, List.getD_eq_getElem?_getD, List.getElem?_eq_getElem hi, List.getElem?_eq_getElem hj] at this
  exact this
theorem ok_of_pairwise (s : ByteArray) (xs : List Int) (h : xs.Pairwise (Ahd s)) (hp : ∀ x ∈ xs, isB s x = true) : ∀ j, j < xs.length → okAt s xs j = true := by
  intro j hj
  rw [List.pairwise_iff_getElem] at h
  unfold okAt
  rw [Bool.and_eq_true_iff]
  constructor
  · rw [List.getD_eq_getElem?_getD, List.getElem?_eq_getElem hj]; exact hp _ (List.getElem_mem hj)
  · by_cases h0 : j = 0
    · subst h0; rfl
    · have := h (j - 1) j (by omega) hj (by omega)
      rw [List.getD_eq_getElem?_getD, List.getD_eq_getElem?_getD, List.getElem?_eq_getElem hj, List.getElem?_eq_getElem (show j - 1 < xs.length by omega)]
      rw [Bool.or_eq_true_iff]; right; exact this

theorem sorted_perm (s : ByteArray) (xs : List Int) (h : xs.Pairwise (Ahd s)) (hp : ∀ x ∈ xs, isB s x = true) (hl : xs.length = s.size) : ∀ a, a ∈ xs ↔ a ∈ sortTo s s.size := by
  have hn := nodup_of_pairwise s h
  have hsub : ∀ x ∈ xs, x ∈ sortTo s s.size := fun x hx => by rw [mem_sortTo]; exact isB_true (hp x hx)
  intro a
  refine ⟨hsub a, fun ha => ?_⟩
  refine Decidable.byContradiction fun hna => ?_
  have h2 : (a :: xs).Nodup := List.nodup_cons.2 ⟨hna, hn⟩
  have := h2.length_le_of_subset (l₂ := sortTo s s.size) (fun x hx => by
    cases List.mem_cons.1 hx with
    | inl e => subst e; exact ha
    | inr e => exact hsub x e)
  rw [sortTo_length] at this
  simp at this
  omega

theorem sorted_unique (s : ByteArray) (xs : List Int) : sortedS s xs = (xs == sortTo s s.size) := by
  have hps := pairwise_sortTo s s.size (Nat.le_refl _)
  have hpl : ∀ x ∈ sortTo s s.size, isB s x = true := fun x hx => by rw [mem_sortTo] at hx; exact isB_of hx.1 hx.2
  rw [Bool.eq_iff_iff]
  constructor
  · intro h
    unfold sortedS at h
    rw [Bool.and_eq_true_iff, List.all_eq_true, beq_iff_eq] at h
    have hok : ∀ j, j < xs.length → okAt s xs j = true := fun j hj => h.1 j (by simpa using hj)
    have hpw := pairwise_of_ok s xs hok
    have hp : ∀ x ∈ xs, isB s x = true := by
      intro x hx
      obtain ⟨j, hj, rfl⟩ := List.mem_iff_getElem.1 hx
      have := (Bool.and_eq_true_iff.1 (hok j hj)).1
      rwa [List.getD_eq_getElem?_getD, List.getElem?_eq_getElem hj] at this
    have hmem := sorted_perm s xs hpw hp h.2
    have hperm := (List.perm_ext_iff_of_nodup (nodup_of_pairwise s hpw) (nodup_of_pairwise s hps)).2 hmem
    rw [beq_iff_eq]
    refine List.Perm.eq_of_pairwise (le := Ahd s) (fun a b _ _ hab hba => ?_) hpw hps hperm
    have := ahead_asymm s a b hab
    unfold Ahd at hba
    rw [hba] at this
    cases this
  · intro h
    rw [beq_iff_eq] at h
    subst h
    unfold sortedS
    rw [Bool.and_eq_true_iff, List.all_eq_true, beq_iff_eq, sortTo_length]
    exact ⟨fun j hj => ok_of_pairwise s _ hps hpl j (by rw [sortTo_length]; simpa using hj), rfl⟩

theorem sorted_self (s : ByteArray) : sortedS s (sortTo s s.size) = true := by rw [sorted_unique]; simp

end Go.Proofs.Ytbakfaihnecmoaa.Pl

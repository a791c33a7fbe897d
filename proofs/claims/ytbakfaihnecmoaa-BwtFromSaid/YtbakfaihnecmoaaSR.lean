/- A sorter, in plain Lean: a whole pass, and all passes: the order is the sorted one, and how many steps there are. No program in sight. -/
import Derived.Test.YtbakfaihnecmoaaSQ
namespace Go.Proofs.Ytbakfaihnecmoaa
set_option linter.unusedVariables false
set_option linter.unusedSimpArgs false
open Go.RowKit
namespace Sp
open Pl

/-! the first bytes of rotations -/
def eqL (s : ByteArray) (L a b : Nat) : Prop := ∀ i, i < L → rnd s (a + i) = rnd s (b + i)
def ltL (s : ByteArray) (L a b : Nat) : Prop := ∃ j, j < L ∧ (∀ i, i < j → rnd s (a + i) = rnd s (b + i)) ∧ rnd s (a + j) < rnd s (b + j)
def RL (s : ByteArray) (L a b : Nat) : Prop := ltL s L a b ∨ eqL s L a b ∧ a < b
def distinctL (s : ByteArray) (L : Nat) : Prop := ∀ a b, a < b → b < s.size → ¬ eqL s L a b
theorem rnd_in (s : ByteArray) (a i : Nat) : rnd s (a % s.size + i) = rnd s (a + i) := by unfold rnd; rw [Nat.mod_add_mod]
theorem rnd_in2 (s : ByteArray) (a i : Nat) : rnd s (a + i % s.size) = rnd s (a + i) := by unfold rnd; rw [Nat.add_mod_mod]
theorem eqL_in (s : ByteArray) (L a b : Nat) : eqL s L (a % s.size) (b % s.size) ↔ eqL s L a b := by unfold eqL; simp only [rnd_in]
theorem ltL_in (s : ByteArray) (L a b : Nat) : ltL s L (a % s.size) (b % s.size) ↔ ltL s L a b := by unfold ltL; simp only [rnd_in]
theorem ltL_ne {s : ByteArray} {L a b : Nat} (h : ltL s L a b) : ¬ eqL s L a b := by
  obtain ⟨j, h1, h2, h3⟩ := h
  intro h4
  rw [h4 j h1] at h3
  exact UInt8.lt_irrefl _ h3
theorem eqL_symm {s : ByteArray} {L a b : Nat} (h : eqL s L a b) : eqL s L b a := fun i hi => (h i hi).symm
theorem ltL_asymm {s : ByteArray} {L a b : Nat} (h : ltL s L a b) : ¬ ltL s L b a := by
  obtain ⟨j, h1, h2, h3⟩ := h
  rintro ⟨k, k1, k2, k3⟩
  rcases Nat.lt_trichotomy j k with h4 | h4 | h4
  · rw [k2 j h4] at h3; exact UInt8.lt_irrefl _ h3
  · subst h4; exact UInt8.lt_irrefl _ (UInt8.lt_trans h3 k3)
  · rw [h2 k h4] at k3; exact UInt8.lt_irrefl _ k3
theorem ltL_tri (s : ByteArray) (a b : Nat) : ∀ L, ltL s L a b ∨ eqL s L a b ∨ ltL s L b a
  | 0 => .inr (.inl fun i hi => absurd hi (Nat.not_lt_zero i))
  | L + 1 => by
    rcases ltL_tri s a b L with ⟨j, h1, h2⟩ | h | ⟨j, h1, h2⟩
    · exact .inl ⟨j, by omega, h2⟩
    · by_cases h1 : rnd s (a + L) < rnd s (b + L)
      · exact .inl ⟨L, by omega, h, h1⟩
      · by_cases h2 : rnd s (b + L) < rnd s (a + L)
        · exact .inr (.inr ⟨L, by omega, fun i hi => (h i hi).symm, h2⟩)
        · refine .inr (.inl fun i hi => ?_)
          by_cases h3 : i < L
          · exact h i h3
          · obtain rfl : i = L := by omega
            exact UInt8.le_antisymm (UInt8.not_lt.1 h2) (UInt8.not_lt.1 h1)
    · exact .inr (.inr ⟨j, by omega, h2⟩)
theorem ltL_double (s : ByteArray) (r a b : Nat) : ltL s (2 * r) a b ↔ ltL s r a b ∨ eqL s r a b ∧ ltL s r (a + r) (b + r) := by
  constructor
  · rintro ⟨j, h1, h2, h3⟩
    by_cases h4 : j < r
    · exact .inl ⟨j, h4, h2, h3⟩
    · refine .inr ⟨fun i hi => h2 i (by omega), j - r, by omega, fun i hi => ?_, ?_⟩
      · rw [Nat.add_assoc, Nat.add_assoc]; exact h2 _ (by omega)
      · rw [Nat.add_assoc, Nat.add_assoc, show r + (j - r) = j by omega]; exact h3
  · rintro (⟨j, h1, h2, h3⟩ | ⟨h, j, h1, h2, h3⟩)
    · exact ⟨j, by omega, h2, h3⟩
    · refine ⟨r + j, by omega, fun i hi => ?_, ?_⟩
      · by_cases h4 : i < r
        · exact h i h4
        · have := h2 (i - r) (by omega)
          rw [Nat.add_assoc, Nat.add_assoc, show r + (i - r) = i by omega] at this
          exact this
      · rw [Nat.add_assoc, Nat.add_assoc] at h3; exact h3
theorem eqL_double (s : ByteArray) (r a b : Nat) : eqL s (2 * r) a b ↔ eqL s r a b ∧ eqL s r (a + r) (b + r) := by
  constructor
  · intro h
    refine ⟨fun i hi => h i (by omega), fun i hi => ?_⟩
    rw [Nat.add_assoc, Nat.add_assoc]; exact h _ (by omega)
  · rintro ⟨h, k⟩ i hi
    by_cases h4 : i < r
    · exact h i h4
    · have := k (i - r) (by omega)
      rw [Nat.add_assoc, Nat.add_assoc, show r + (i - r) = i by omega] at this
      exact this
theorem eqL_ge {s : ByteArray} (hn : 0 < s.size) {L a b : Nat} (hL : s.size ≤ L) : eqL s L a b ↔ eqL s s.size a b := by
  constructor
  · intro h i hi; exact h i (by omega)
  · intro h i hi
    rw [← rnd_in2 s a i, ← rnd_in2 s b i]
    exact h _ (Nat.mod_lt _ hn)
theorem ltL_ge {s : ByteArray} (hn : 0 < s.size) {L a b : Nat} (h : ltL s L a b) : ltL s s.size a b := by
  obtain ⟨j, h1, h2, h3⟩ := h
  by_cases h4 : j < s.size
  · exact ⟨j, h4, h2, h3⟩
  · exfalso
    have h5 : eqL s s.size a b := fun i hi => h2 i (by omega)
    rw [← rnd_in2 s a j, ← rnd_in2 s b j, h5 _ (Nat.mod_lt _ hn)] at h3
    exact UInt8.lt_irrefl _ h3

/-! classes -/
structure Rinv (k : Nat → Nat × Nat) (o u : Nat → Nat) (i last : Nat) : Prop where
  lt : ∀ p, p < i → ∀ q, q < i → (u (o p) < u (o q) ↔ gtP (k (o q)) (k (o p)) = true)
  le : ∀ p, p < i → u (o p) ≤ last
  top : 0 < i → u (o (i - 1)) = last ∧ last + 1 ≤ i
  all : 0 < i → (last + 1 = i ↔ ∀ p q, p < q → q < i → k (o p) ≠ k (o q))

theorem Rinv.next {k : Nat → Nat × Nat} {o u u' : Nat → Nat} {n i last c : Nat} (h : Rinv k o u i last) (hi : i < n) (inj : ∀ p q, p < q → q < n → o p ≠ o q) (pw : ∀ p q, p < q → q < n → gtP (k (o q)) (k (o p)) = true ∨ k (o p) = k (o q))
    (hc : c = if i = 0 then 0 else if gtP (k (o i)) (k (o (i - 1))) = true then last + 1 else last) (hu : ∀ v, u' v = if v = o i then c else u v) : Rinv k o u' (i + 1) c := by
  have self : ∀ v, gtP (k v) (k v) = false := fun v => by rw [gtP_not]; exact .inr rfl
  have un : ∀ p, p < i → u' (o p) = u (o p) := fun p hp => by rw [hu, if_neg (inj p i hp hi)]
  have ui : u' (o i) = c := by rw [hu, if_pos rfl]
  by_cases h0 : i = 0
  · subst h0
    rw [if_pos rfl] at hc
    subst hc
    have e0 : ∀ p, p < 0 + 1 → p = 0 := fun p hp => by omega
    refine ⟨fun p hp q hq => ?_, fun p hp => ?_, fun _ => ⟨ui, by omega⟩, fun _ => ⟨fun _ p q hpq hq => by omega, fun _ => by omega⟩⟩
    · rw [e0 p hp, e0 q hq, self]; simp
    · rw [e0 p hp, ui]; exact Nat.le_refl _
  · rw [if_neg h0] at hc
    have hlast := h.top (by omega)
    have key : ∀ p, p < i → (u (o p) < c ↔ gtP (k (o i)) (k (o p)) = true) ∧ u (o p) ≤ c := by
      intro p hp
      have hle := h.le p hp
      have hl := h.lt p hp (i - 1) (by omega)
      have hpi : gtP (k (o (i - 1))) (k (o p)) = true ∨ k (o p) = k (o (i - 1)) := by
        by_cases e : p = i - 1
        · subst e; exact .inr rfl
        · exact pw p (i - 1) (by omega) (by omega)
      by_cases hg : gtP (k (o i)) (k (o (i - 1))) = true
      · rw [if_pos hg] at hc
        refine ⟨⟨fun _ => ?_, fun _ => by omega⟩, by omega⟩
        rw [gtP_iff] at hg hpi ⊢
        rw [Prod.ext_iff] at hpi
        omega
      · rw [if_neg hg] at hc
        have he := (pw (i - 1) i (by omega) hi).resolve_left hg
        rw [hc, ← hlast.1, hl, he]
        exact ⟨Iff.rfl, by rw [hlast.1]; exact hle⟩
    refine ⟨fun p hp q hq => ?_, fun p hp => ?_, fun _ => ⟨ui, ?_⟩, fun _ => ?_⟩
    · by_cases hpi : p = i
      · by_cases hqi : q = i
        · subst hpi hqi; rw [self]; simp
        · subst hpi
          rw [un q (by omega), ui]
          have := (key q (by omega)).2
          constructor
          · intro h1; omega
          · intro h1
            have h2 := pw q p (by omega) hi
            rw [gtP_iff] at h1 h2
            rw [Prod.ext_iff] at h2
            omega
      · by_cases hqi : q = i
        · subst hqi
          rw [un p (by omega), ui]
          exact (key p (by omega)).1
        · rw [un p (by omega), un q (by omega)]
          exact h.lt p (by omega) q (by omega)
    · by_cases hpi : p = i
      · subst hpi; rw [ui]; exact Nat.le_refl _
      · rw [un p (by omega)]; exact (key p (by omega)).2
    · have : c ≤ last + 1 := by rw [hc]; split <;> omega
      omega
    · have hall := h.all (by omega)
      by_cases hg : gtP (k (o i)) (k (o (i - 1))) = true
      · rw [if_pos hg] at hc
        rw [hc, show last + 1 + 1 = i + 1 ↔ last + 1 = i by omega, hall]
        constructor
        · intro h1 p q hpq hq
          by_cases hqi : q = i
          · subst hqi
            intro e
            have h2 : gtP (k (o (q - 1))) (k (o p)) = true ∨ k (o p) = k (o (q - 1)) := by
              by_cases e : p = q - 1
              · subst e; exact .inr rfl
              · exact pw p (q - 1) (by omega) (by omega)
            rw [← e] at hg
            rw [gtP_iff] at hg h2
            rw [Prod.ext_iff] at h2
            omega
          · exact h1 p q hpq (by omega)
        · intro h1 p q hpq hq
          exact h1 p q hpq (by omega)
      · rw [if_neg hg] at hc
        have he := (pw (i - 1) i (by omega) hi).resolve_left hg
        constructor
        · intro h1; omega
        · intro h1; exact absurd he (h1 (i - 1) i (by omega) (by omega))

theorem getD_set2 (l : List Nat) (i v j : Nat) (hi : i < l.length) : (l.set i v).getD j 0 = if j = i then v else l.getD j 0 := by
  rw [List.getD_eq_getElem?_getD, List.getElem?_set]
  by_cases h : j = i
  · subst h; simp [hi]
  · rw [if_neg (fun e => h e.symm), if_neg h, List.getD_eq_getElem?_getD]

/-- what is asked of an order that classes are made of -/
structure OrdOk (k : Nat → Nat × Nat) (n : Nat) (ord : List Nat) : Prop where
  len : ord.length = n
  lt : ∀ i, i < n → ord.getD i 0 < n
  inj : ∀ p q, p < q → q < n → ord.getD p 0 ≠ ord.getD q 0
  pw : ∀ p q, p < q → q < n → gtP (k (ord.getD q 0)) (k (ord.getD p 0)) = true ∨ k (ord.getD p 0) = k (ord.getD q 0)

theorem class_next (s : ByteArray) {k : Nat → Nat × Nat} {n : Nat} {x : SS} (hk : ∀ a, k a = keyS s x.reach x.cls a) (ho : OrdOk k n x.ord) (ha : x.asd.length = n) (hi : x.rnk < n) (h : Rinv k (fun p => x.ord.getD p 0) (fun v => x.asd.getD v 0) x.rnk x.last) :
    Rinv k (fun p => x.ord.getD p 0) (fun v => (classS s x).asd.getD v 0) (x.rnk + 1) (classS s x).last ∧ (classS s x).asd.length = n := by
  refine ⟨h.next hi ho.inj ho.pw ?_ (fun v => ?_), by simp [classS, ha]⟩
  · unfold classS lastS abS
    simp only [← hk]
  · exact getD_set2 _ _ _ _ (by rw [ha]; exact ho.lt _ hi)

theorem step_rank (s : ByteArray) {x : SS} (h0 : x.hi = 0) (hs : x.stk = []) : stepS s x = { rankS s x with steps := x.steps + 1 } := by
  have hj : joinS x = x := by unfold joinS; rw [hs]
  unfold stepS
  rw [hj]
  unfold actS
  rw [if_neg (by omega), hs]

theorem rank_run (s : ByteArray) {k : Nat → Nat × Nat} {n : Nat} : ∀ (j : Nat) (x : SS), x.stk = [] → x.hi = 0 → x.rnk + j < n → (∀ a, k a = keyS s x.reach x.cls a) → OrdOk k n x.ord → x.asd.length = n → Rinv k (fun p => x.ord.getD p 0) (fun v => x.asd.getD v 0) x.rnk x.last →
    ∃ asd last, asd.length = n ∧ Rinv k (fun p => x.ord.getD p 0) (fun v => asd.getD v 0) (x.rnk + j) last ∧ iterS s j x = { x with asd := asd, last := last, rnk := x.rnk + j, steps := x.steps + j }
  | 0, x, _, _, _, _, _, ha, h => ⟨x.asd, x.last, ha, h, rfl⟩
  | j + 1, x, hs, h0, hj, hk, ho, ha, h => by
    obtain ⟨c1, c2⟩ := class_next s hk ho ha (by omega) h
    have e1 : stepS s x = { classS s x with steps := x.steps + 1 } := by
      rw [step_rank s h0 hs]
      unfold rankS
      rw [if_neg (by rw [ho.len]; simp only [classS]; omega)]
    obtain ⟨asd, last, q1, q2, q3⟩ := rank_run s j { classS s x with steps := x.steps + 1 } hs h0 (by simp only [classS]; omega) hk ho c2 c1
    refine ⟨asd, last, q1, ?_, ?_⟩
    · have e : (classS s x).rnk + j = x.rnk + (j + 1) := by simp only [classS]; omega
      exact e ▸ q2
    · show iterS s j (stepS s x) = _
      rw [e1, q3]
      simp [classS, Nat.add_assoc, Nat.add_comm, Nat.add_left_comm]

/-! passes -/
structure PassAt (s : ByteArray) (x : SS) : Prop where
  n2 : 2 ≤ s.size
  stk : x.stk = [(0, 0, s.size)]
  hi : x.hi = 0
  rnk : x.rnk = 0
  done : x.done = false
  perm : x.ord.Perm (List.range s.size)
  al : x.asd.length = s.size
  cl : x.cls.length = s.size
  cls : x.reach ≠ 0 → ∀ a b, a < s.size → b < s.size → (x.cls.getD a 0 < x.cls.getD b 0 ↔ ltL s x.reach a b)
  old : x.ord.Pairwise (fun a b => eqL s x.reach a b → a < b)

def nextL (x : SS) : Nat := max 1 (2 * x.reach)

theorem key_lt {s : ByteArray} {x : SS} (h : PassAt s x) (a b : Nat) (ha : a < s.size) (hb : b < s.size) :
    (gtP (keyS s x.reach x.cls b) (keyS s x.reach x.cls a) = true ↔ ltL s (nextL x) a b) ∧ (keyS s x.reach x.cls a = keyS s x.reach x.cls b ↔ eqL s (nextL x) a b) := by
  have r0 : ∀ c, c < s.size → rnd s (c + 0) = s.data.toList.getD c 0 := fun c hc => by unfold rnd; rw [Nat.add_zero, Nat.mod_eq_of_lt hc]
  unfold nextL keyS
  by_cases h0 : x.reach = 0
  · rw [h0]
    simp only [if_pos]
    rw [gtP_iff, Prod.ext_iff]
    constructor
    · constructor
      · intro h1
        refine ⟨0, by omega, fun i hi => by omega, ?_⟩
        rw [r0 a ha, r0 b hb, UInt8.lt_iff_toNat_lt]
        simpa using h1
      · rintro ⟨j, h1, _, h3⟩
        obtain rfl : j = 0 := by omega
        rw [r0 a ha, r0 b hb, UInt8.lt_iff_toNat_lt] at h3
        exact .inl h3
    · constructor
      · rintro ⟨h1, _⟩ i hi
        obtain rfl : i = 0 := by omega
        rw [r0 a ha, r0 b hb]
        exact UInt8.toNat_inj.1 h1
      · intro h1
        have := h1 0 (by omega)
        rw [r0 a ha, r0 b hb] at this
        exact ⟨by rw [this], rfl⟩
  · rw [if_neg h0, if_neg h0, show max 1 (2 * x.reach) = 2 * x.reach by omega]
    have hc := h.cls h0
    have hm : ∀ c, (c + x.reach) % s.size < s.size := fun c => Nat.mod_lt _ (by omega)
    have hce : ∀ u v, u < s.size → v < s.size → (x.cls.getD u 0 = x.cls.getD v 0 ↔ eqL s x.reach u v) := by
      intro u v hu hv
      have a1 := hc u v hu hv
      have a2 := hc v u hv hu
      constructor
      · intro e
        rcases ltL_tri s u v x.reach with t | t | t
        · have := a1.2 t; omega
        · exact t
        · have := a2.2 t; omega
      · intro e
        have b1 : ¬ x.cls.getD u 0 < x.cls.getD v 0 := fun t => ltL_ne (a1.1 t) e
        have b2 : ¬ x.cls.getD v 0 < x.cls.getD u 0 := fun t => ltL_ne (a2.1 t) (eqL_symm e)
        omega
    rw [gtP_iff, Prod.ext_iff, ltL_double, eqL_double]
    simp only
    rw [hc a b ha hb, hce a b ha hb, hc _ _ (hm a) (hm b), hce _ _ (hm a) (hm b), ltL_in, eqL_in]
    exact ⟨Iff.rfl, Iff.rfl⟩

theorem done_stays (s : ByteArray) (x : SS) (h : x.done = true) : (stepS s x).done = true := by
  have hj : (joinS x).done = true := by rw [join_done]; exact h
  have hp : ∀ y : SS, y.done = true → (passS y).done = true := fun y hy => by unfold passS; split <;> simp [hy]
  have he : ∀ (y : SS) (e : Bool), y.done = true → (endS y e).done = true := fun y e hy => by unfold endS; cases e <;> simp [hy]
  unfold stepS
  show (actS s (joinS x)).done = true
  generalize joinS x = y at *
  unfold actS
  split
  · split
    · exact hj
    · unfold putS
      split <;> exact he _ _ hj
  · split
    · unfold rankS
      split
      · exact hp _ hj
      · exact hj
    · unfold beginS
      split
      · exact hj
      · split <;> exact hj
theorem iter_done (s : ByteArray) : ∀ j (x : SS), x.done = true → (iterS s j x).done = true
  | 0, _, h => h
  | j + 1, x, h => iter_done s j _ (done_stays s x h)
theorem not_done_before (s : ByteArray) {j m : Nat} {x : SS} (h : (iterS s m x).done = false) (hj : j ≤ m) : (iterS s j x).done = false := by
  obtain ⟨d, rfl⟩ : ∃ d, m = j + d := ⟨m - j, by omega⟩
  rw [iter_add] at h
  cases hd : (iterS s j x).done with
  | false => rfl
  | true => rw [iter_done s d _ hd] at h; cases h

theorem getD_range_perm {n : Nat} {l : List Nat} (h : l.Perm (List.range n)) : l.length = n ∧ (∀ i, i < n → l.getD i 0 < n) ∧ (∀ p q, p < q → q < n → l.getD p 0 ≠ l.getD q 0) := by
  have hl : l.length = n := by have := h.length_eq; simpa using this
  have hg : ∀ i (hi : i < n), l.getD i 0 = l[i]'(by omega) := fun i hi => by rw [List.getD_eq_getElem?_getD, List.getElem?_eq_getElem (by omega)]; rfl
  refine ⟨hl, fun i hi => ?_, fun p q hpq hq => ?_⟩
  · rw [hg i hi]
    have := h.mem_iff.1 (List.getElem_mem (l := l) (n := i) (by omega))
    simpa using this
  · have hn : l.Nodup := h.nodup_iff.2 List.nodup_range
    rw [hg p (by omega), hg q hq]
    have := List.pairwise_iff_getElem.1 hn p q (by omega) (by omega) hpq
    exact this

theorem onto_of {n : Nat} {l : List Nat} (h : l.Perm (List.range n)) (a : Nat) (ha : a < n) : ∃ p, p < n ∧ l.getD p 0 = a := by
  have hm : a ∈ l := h.mem_iff.2 (by simpa using ha)
  obtain ⟨p, hp, e⟩ := List.mem_iff_getElem.1 hm
  have hl : l.length = n := by have := h.length_eq; simpa using this
  exact ⟨p, by omega, by rw [List.getD_eq_getElem?_getD, List.getElem?_eq_getElem hp]; exact e⟩

theorem pw_imp {R S : Nat → Nat → Prop} {n : Nat} {l : List Nat} (h : l.Perm (List.range n)) (hp : l.Pairwise R) (hi : ∀ a b, a < n → b < n → R a b → S a b) : l.Pairwise S := by
  have hb : ∀ a ∈ l, a < n := fun a ha => by simpa using h.mem_iff.1 ha
  rw [List.pairwise_iff_getElem] at *
  intro i j hi' hj hij
  exact hi _ _ (hb _ (List.getElem_mem hi')) (hb _ (List.getElem_mem hj)) (hp i j hi' hj hij)

theorem pass_run {s : ByteArray} {x : SS} (h : PassAt s x) :
    (∀ j, j < costT s.size + s.size → (iterS s j x).done = false) ∧
    ((distinctL s (nextL x) ∨ s.size ≤ x.reach) → (iterS s (costT s.size + s.size) x).done = true ∧ (iterS s (costT s.size + s.size) x).ord.Perm (List.range s.size) ∧ (iterS s (costT s.size + s.size) x).ord.Pairwise (RL s (nextL x))) ∧
    (¬ (distinctL s (nextL x) ∨ s.size ≤ x.reach) → PassAt s (iterS s (costT s.size + s.size) x) ∧ (iterS s (costT s.size + s.size) x).reach = nextL x) := by
  have n2 := h.n2
  obtain ⟨hl, hlt, _⟩ := getD_range_perm h.perm
  obtain ⟨k, hk⟩ : ∃ k : Nat → Nat × Nat, ∀ a, k a = keyS s x.reach x.cls a := ⟨_, fun _ => rfl⟩
  have hkey : ∀ a b, a < s.size → b < s.size → (gtP (k b) (k a) = true ↔ ltL s (nextL x) a b) ∧ (k a = k b ↔ eqL s (nextL x) a b) := fun a b ha hb => by rw [hk, hk]; exact key_lt h a b ha hb
  have hold : x.ord.Pairwise (fun a b => k a = k b → a < b) := by
    refine pw_imp h.perm h.old fun a b ha hb h1 h2 => h1 ?_
    rw [(hkey a b ha hb).2] at h2
    intro i hi
    exact h2 i (by unfold nextL; omega)
  obtain ⟨ord, asd, lo, mid, laid, one, two, o1, o2, o3, o4⟩ := sort_run s k s.size s.size (Nat.le_refl _) x [] x.ord [] [] hl hk (by simp) (by rw [h.al, hl]) (by rw [h.stk]; simp) h.hi hold
  have operm : ord.Perm (List.range s.size) := o1.trans h.perm
  obtain ⟨ol, olt, oinj⟩ := getD_range_perm operm
  have hg : ∀ i (hi : i < s.size), ord.getD i 0 = ord[i]'(by omega) := fun i hi => by rw [List.getD_eq_getElem?_getD, List.getElem?_eq_getElem (by omega)]; rfl
  have oRL : ord.Pairwise (RL s (nextL x)) := by
    refine pw_imp operm o2 fun a b ha hb h1 => ?_
    unfold Rk at h1
    rw [(hkey a b ha hb).1, (hkey a b ha hb).2] at h1
    exact h1
  have oOk : OrdOk k s.size ord := ⟨ol, olt, oinj, fun p q hpq hq => by
    have := List.pairwise_iff_getElem.1 o2 p q (by omega) (by omega) hpq
    rw [hg p (by omega), hg q hq]
    rcases this with h1 | h1
    · exact .inl h1
    · exact .inr h1.1⟩
  simp only [List.nil_append, List.append_nil] at o4
  -- the state when all parts are sorted
  obtain ⟨y, hy⟩ : ∃ y : SS, y = { x with ord := ord, asd := asd, stk := [], lo := lo, mid := mid, hi := 0, laid := laid, one := one, two := two, steps := x.steps + costT s.size } := ⟨_, rfl⟩
  rw [← hy] at o4
  have yinv : Rinv k (fun p => y.ord.getD p 0) (fun v => y.asd.getD v 0) y.rnk y.last := by
    have : y.rnk = 0 := by rw [hy]; exact h.rnk
    rw [this]
    exact ⟨fun p hp => absurd hp (Nat.not_lt_zero _), fun p hp => absurd hp (Nat.not_lt_zero _), fun hp => absurd hp (Nat.not_lt_zero _), fun hp => absurd hp (Nat.not_lt_zero _)⟩
  have yr : y.rnk = 0 := by rw [hy]; exact h.rnk
  have ysz : y.reach = x.reach := by rw [hy]
  have ycl : y.cls = x.cls := by rw [hy]
  have yord : y.ord = ord := by rw [hy]
  have yasd : y.asd.length = s.size := by rw [hy]; show asd.length = _; rw [o3, h.al]
  have yk : ∀ a, k a = keyS s y.reach y.cls a := by rw [ysz, ycl]; exact hk
  have yOk : OrdOk k s.size y.ord := yord ▸ oOk
  have ydone : y.done = false := by rw [hy]; exact h.done
  obtain ⟨asd2, last2, q1, q2, q3⟩ := rank_run s (s.size - 1) y (by rw [hy]) (by rw [hy]) (by omega) yk yOk yasd yinv
  obtain ⟨z, hz⟩ : ∃ z : SS, z = { y with asd := asd2, last := last2, rnk := y.rnk + (s.size - 1), steps := y.steps + (s.size - 1) } := ⟨_, rfl⟩
  rw [← hz] at q3
  have zr : z.rnk = s.size - 1 := by rw [hz]; simp only [yr]; omega
  have zord : z.ord = ord := by rw [hz]; exact yord
  have zreach : z.reach = x.reach := by rw [hz]; exact ysz
  have zcls : z.cls = x.cls := by rw [hz]; exact ycl
  have zasd : z.asd = asd2 := by rw [hz]
  have zlast : z.last = last2 := by rw [hz]
  have zstk : z.stk = [] := by rw [hz, hy]
  have zhi : z.hi = 0 := by rw [hz, hy]
  have zdone : z.done = false := by rw [hz]; exact ydone
  have zk : ∀ a, k a = keyS s z.reach z.cls a := by rw [zreach, zcls]; exact hk
  have hpre : iterS s (costT s.size + (s.size - 1)) x = z := by rw [iter_add, o4, q3]
  have hfin : iterS s (costT s.size + s.size) x = stepS s z := by
    rw [show costT s.size + s.size = costT s.size + (s.size - 1) + 1 by omega, iter_add, hpre]; rfl
  have zinv : Rinv k (fun p => z.ord.getD p 0) (fun v => z.asd.getD v 0) z.rnk z.last := by
    rw [zord, zasd, zr, zlast]
    rw [yord, yr, Nat.zero_add] at q2
    exact q2
  obtain ⟨c1, c2⟩ := class_next s (n := s.size) zk (zord ▸ oOk) (by rw [zasd]; exact q1) (by omega) zinv
  have hstep : stepS s z = { passS (classS s z) with steps := z.steps + 1 } := by
    rw [step_rank s zhi zstk]
    unfold rankS
    rw [if_pos (by simp only [classS]; rw [zord, ol, zr]; omega)]
  have hclen : (classS s z).ord.length = s.size := by simp only [classS]; rw [zord, ol]
  have hcreach : (classS s z).reach = x.reach := zreach
  rw [show z.rnk + 1 = s.size by omega, zord] at c1
  -- the classes are those of the first bytes
  have hcls : ∀ a b, a < s.size → b < s.size → ((classS s z).asd.getD a 0 < (classS s z).asd.getD b 0 ↔ ltL s (nextL x) a b) := by
    intro a b ha hb
    obtain ⟨p, hp, rfl⟩ := onto_of operm a ha
    obtain ⟨q, hq, rfl⟩ := onto_of operm b hb
    have := c1.lt p hp q hq
    rw [this, (hkey _ _ ha hb).1]
  have hall : (classS s z).last + 1 = s.size ↔ distinctL s (nextL x) := by
    rw [c1.all (by omega)]
    constructor
    · intro h1 a b hab hb he
      obtain ⟨p, hp, ea⟩ := onto_of operm a (by omega)
      obtain ⟨q, hq, eb⟩ := onto_of operm b hb
      have hne : p ≠ q := by rintro rfl; omega
      have h2 := (hkey a b (by omega) hb).2.2 he
      rw [← ea, ← eb] at h2
      rcases Nat.lt_or_gt_of_ne hne with h3 | h3
      · exact h1 p q h3 hq h2
      · exact h1 q p h3 hp h2.symm
    · intro h1 p q hpq hq he
      have hp := olt p (by omega)
      have hq' := olt q hq
      have hne := oinj p q hpq hq
      have h2 := (hkey _ _ hp hq').2.1 he
      rcases Nat.lt_or_gt_of_ne hne with h3 | h3
      · exact h1 _ _ h3 hq' h2
      · exact h1 _ _ h3 hp (eqL_symm h2)
  rw [hfin, hstep]
  refine ⟨fun j hj => not_done_before s (m := costT s.size + (s.size - 1)) (by rw [hpre]; exact zdone) (by omega), fun hd => ?_, fun hd => ?_⟩
  · have : passS (classS s z) = { classS s z with cls := (classS s z).asd, asd := (classS s z).cls, rnk := 0, done := true } := by
      unfold passS; rw [if_pos (by rw [hclen, hcreach, hall]; exact hd)]
    rw [this]
    exact ⟨rfl, by show z.ord.Perm _; rw [zord]; exact operm, by show z.ord.Pairwise _; rw [zord]; exact oRL⟩
  · have : passS (classS s z) = { classS s z with cls := (classS s z).asd, asd := (classS s z).cls, rnk := 0, reach := max 1 (2 * x.reach), stk := [(0, 0, s.size)] } := by
      unfold passS; rw [if_neg (by rw [hclen, hcreach, hall]; exact hd), hclen, hcreach]
      show _ = _
      simp only [classS, zstk]
    rw [this]
    refine ⟨⟨n2, rfl, zhi, rfl, zdone, by show z.ord.Perm _; rw [zord]; exact operm, ?_, c2, fun _ => hcls, ?_⟩, rfl⟩
    · show z.cls.length = _; rw [zcls]; exact h.cl
    · show z.ord.Pairwise _
      rw [zord]
      refine oRL.imp fun {a b} h1 h2 => ?_
      rcases h1 with h1 | h1
      · exact absurd h2 (ltL_ne h1)
      · exact h1.2

end Sp
end Go.Proofs.Ytbakfaihnecmoaa

import Derived.Test.YtcehhgppfahbkaaGreatDoorMac
import Derived.Test.YtcehhgppfahbkaaGreatDoorRows
namespace Go.Proofs.YtcehhgppfahbkaaGreatDoor
set_option linter.unusedVariables false
set_option linter.unusedSimpArgs false
open Go.RowKit
namespace Sp
open Pl

def eqL (s : ByteArray) (L a b : Nat) : Prop := ∀ i, i < L → rnd s (a + i) = rnd s (b + i)
def ltL (s : ByteArray) (L a b : Nat) : Prop := ∃ j, j < L ∧ (∀ i, i < j → rnd s (a + i) = rnd s (b + i)) ∧ rnd s (a + j) < rnd s (b + j)
def RL (s : ByteArray) (L a b : Nat) : Prop := ltL s L a b ∨ eqL s L a b ∧ a < b
def distinctL (s : ByteArray) (L : Nat) : Prop := ∀ a b, a < b → b < s.size → ¬ eqL s L a b
theorem rnd_in (s : ByteArray) (a i : Nat) : rnd s (a % s.size + i) = rnd s (a + i) := by unfold rnd; rw [Nat.mod_add_mod]
theorem rnd_in2 (s : ByteArray) (a i : Nat) : rnd s (a + i % s.size) = rnd s (a + i) := by unfold rnd; rw [Nat.add_mod_mod]
theorem eqL_in (s : ByteArray) (L a b : Nat) : eqL s L (a % s.size) (b % s.size) ↔ eqL s L a b := by unfold eqL; simp only [rnd_in]
theorem ltL_in (s : ByteArray) (L a b : Nat) : ltL s L (a % s.size) (b % s.size) ↔ ltL s L a b := by unfold ltL; simp only [rnd_in]
theorem ltL_ne {s : ByteArray} {L a b : Nat} (h : ltL s L a b) : ¬ eqL s L a b := by
  obtain ⟨j, h1, h2, h3⟩ := h
  intro h4
  rw [h4 j h1] at h3
  exact UInt8.lt_irrefl _ h3
theorem eqL_symm {s : ByteArray} {L a b : Nat} (h : eqL s L a b) : eqL s L b a := fun i hi => (h i hi).symm
theorem ltL_tri (s : ByteArray) (a b : Nat) : ∀ L, ltL s L a b ∨ eqL s L a b ∨ ltL s L b a
  | 0 => .inr (.inl fun i hi => absurd hi (Nat.not_lt_zero i))
  | L + 1 => by
    rcases ltL_tri s a b L with ⟨j, h1, h2⟩ | h | ⟨j, h1, h2⟩
    · exact .inl ⟨j, by omega, h2⟩
    · by_cases h1 : rnd s (a + L) < rnd s (b + L)
      · exact .inl ⟨L, by omega, h, h1⟩
      · by_cases h2 : rnd s (b + L) < rnd s (a + L)
        · exact .inr (.inr ⟨L, by omega, fun i hi => (h i hi).symm, h2⟩)
        · refine .inr (.inl fun i hi => ?_)
          by_cases h3 : i < L
          · exact h i h3
          · obtain rfl : i = L := by omega
            exact UInt8.le_antisymm (UInt8.not_lt.1 h2) (UInt8.not_lt.1 h1)
    · exact .inr (.inr ⟨j, by omega, h2⟩)
theorem ltL_double (s : ByteArray) (r a b : Nat) : ltL s (2 * r) a b ↔ ltL s r a b ∨ eqL s r a b ∧ ltL s r (a + r) (b + r) := by
  constructor
  · rintro ⟨j, h1, h2, h3⟩
    by_cases h4 : j < r
    · exact .inl ⟨j, h4, h2, h3⟩
    · refine .inr ⟨fun i hi => h2 i (by omega), j - r, by omega, fun i hi => ?_, ?_⟩
      · rw [Nat.add_assoc, Nat.add_assoc]; exact h2 _ (by omega)
      · rw [Nat.add_assoc, Nat.add_assoc, show r + (j - r) = j by omega]; exact h3
  · rintro (⟨j, h1, h2, h3⟩ | ⟨h, j, h1, h2, h3⟩)
    · exact ⟨j, by omega, h2, h3⟩
    · refine ⟨r + j, by omega, fun i hi => ?_, ?_⟩
      · by_cases h4 : i < r
        · exact h i h4
        · have := h2 (i - r) (by omega)
          rw [Nat.add_assoc, Nat.add_assoc, show r + (i - r) = i by omega] at this
          exact this
      · rw [Nat.add_assoc, Nat.add_assoc] at h3; exact h3
theorem eqL_double (s : ByteArray) (r a b : Nat) : eqL s (2 * r) a b ↔ eqL s r a b ∧ eqL s r (a + r) (b + r) := by
  constructor
  · intro h
    refine ⟨fun i hi => h i (by omega), fun i hi => ?_⟩
    rw [Nat.add_assoc, Nat.add_assoc]; exact h _ (by omega)
  · rintro ⟨h, k⟩ i hi
    by_cases h4 : i < r
    · exact h i h4
    · have := k (i - r) (by omega)
      rw [Nat.add_assoc, Nat.add_assoc, show r + (i - r) = i by omega] at this
      exact this
theorem eqL_ge {s : ByteArray} (hn : 0 < s.size) {L a b : Nat} (hL : s.size ≤ L) : eqL s L a b ↔ eqL s s.size a b := by
  constructor
  · intro h i hi; exact h i (by omega)
  · intro h i hi
    rw [← rnd_in2 s a i, ← rnd_in2 s b i]
    exact h _ (Nat.mod_lt _ hn)
theorem ltL_ge {s : ByteArray} (hn : 0 < s.size) {L a b : Nat} (h : ltL s L a b) : ltL s s.size a b := by
  obtain ⟨j, h1, h2, h3⟩ := h
  by_cases h4 : j < s.size
  · exact ⟨j, h4, h2, h3⟩
  · exfalso
    have h5 : eqL s s.size a b := fun i hi => h2 i (by omega)
    rw [← rnd_in2 s a j, ← rnd_in2 s b j, h5 _ (Nat.mod_lt _ hn)] at h3
    exact UInt8.lt_irrefl _ h3

structure Rinv (k : Nat → Nat × Nat) (o u : Nat → Nat) (i last : Nat) : Prop where
  lt : ∀ p, p < i → ∀ q, q < i → (u (o p) < u (o q) ↔ gtP (k (o q)) (k (o p)) = true)
  le : ∀ p, p < i → u (o p) ≤ last
  top : 0 < i → u (o (i - 1)) = last ∧ last + 1 ≤ i
  all : 0 < i → (last + 1 = i ↔ ∀ p q, p < q → q < i → k (o p) ≠ k (o q))

theorem Rinv.next {k : Nat → Nat × Nat} {o u u' : Nat → Nat} {n i last c : Nat} (h : Rinv k o u i last) (hi : i < n) (inj : ∀ p q, p < q → q < n → o p ≠ o q) (pw : ∀ p q, p < q → q < n → gtP (k (o q)) (k (o p)) = true ∨ k (o p) = k (o q))
    (hc : c = if i = 0 then 0 else if gtP (k (o i)) (k (o (i - 1))) = true then last + 1 else last) (hu : ∀ v, u' v = if v = o i then c else u v) : Rinv k o u' (i + 1) c := by
  have self : ∀ v, gtP (k v) (k v) = false := fun v => by rw [gtP_not]; exact .inr rfl
  have un : ∀ p, p < i → u' (o p) = u (o p) := fun p hp => by rw [hu, if_neg (inj p i hp hi)]
  have ui : u' (o i) = c := by rw [hu, if_pos rfl]
  by_cases h0 : i = 0
  · subst h0
    rw [if_pos rfl] at hc
    subst hc
    have e0 : ∀ p, p < 0 + 1 → p = 0 := fun p hp => by omega
    refine ⟨fun p hp q hq => ?_, fun p hp => ?_, fun _ => ⟨ui, by omega⟩, fun _ => ⟨fun _ p q hpq hq => by omega, fun _ => by omega⟩⟩
    · rw [e0 p hp, e0 q hq, self]; simp
    · rw [e0 p hp, ui]; exact Nat.le_refl _
  · rw [if_neg h0] at hc
    have hlast := h.top (by omega)
    have key : ∀ p, p < i → (u (o p) < c ↔ gtP (k (o i)) (k (o p)) = true) ∧ u (o p) ≤ c := by
      intro p hp
      have hle := h.le p hp
      have hl := h.lt p hp (i - 1) (by omega)
      have hpi : gtP (k (o (i - 1))) (k (o p)) = true ∨ k (o p) = k (o (i - 1)) := by
        by_cases e : p = i - 1
        · subst e; exact .inr rfl
        · exact pw p (i - 1) (by omega) (by omega)
      by_cases hg : gtP (k (o i)) (k (o (i - 1))) = true
      · rw [if_pos hg] at hc
        refine ⟨⟨fun _ => ?_, fun _ => by omega⟩, by omega⟩
        rw [gtP_iff] at hg hpi ⊢
        rw [Prod.ext_iff] at hpi
        omega
      · rw [if_neg hg] at hc
        have he := (pw (i - 1) i (by omega) hi).resolve_left hg
        rw [hc, ← hlast.1, hl, he]
        exact ⟨Iff.rfl, by rw [hlast.1]; exact hle⟩
    refine ⟨fun p hp q hq => ?_, fun p hp => ?_, fun _ => ⟨ui, ?_⟩, fun _ => ?_⟩
    · by_cases hpi : p = i
      · by_cases hqi : q = i
        · subst hpi hqi; rw [self]; simp
        · subst hpi
          rw [un q (by omega), ui]
          have := (key q (by omega)).2
          constructor
          · intro h1; omega
          · intro h1
            have h2 := pw q p (by omega) hi
            rw [gtP_iff] at h1 h2
            rw [Prod.ext_iff] at h2
            omega
      · by_cases hqi : q = i
        · subst hqi
          rw [un p (by omega), ui]
          exact (key p (by omega)).1
        · rw [un p (by omega), un q (by omega)]
          exact h.lt p (by omega) q (by omega)
    · by_cases hpi : p = i
      · subst hpi; rw [ui]; exact Nat.le_refl _
      · rw [un p (by omega)]; exact (key p (by omega)).2
    · have : c ≤ last + 1 := by rw [hc]; split <;> omega
      omega
    · have hall := h.all (by omega)
      by_cases hg : gtP (k (o i)) (k (o (i - 1))) = true
      · rw [if_pos hg] at hc
        rw [hc, show last + 1 + 1 = i + 1 ↔ last + 1 = i by omega, hall]
        constructor
        · intro h1 p q hpq hq
          by_cases hqi : q = i
          · subst hqi
            intro e
            have h2 : gtP (k (o (q - 1))) (k (o p)) = true ∨ k (o p) = k (o (q - 1)) := by
              by_cases e : p = q - 1
              · subst e; exact .inr rfl
              · exact pw p (q - 1) (by omega) (by omega)
            rw [← e] at hg
            rw [gtP_iff] at hg h2
            rw [Prod.ext_iff] at h2
            omega
          · exact h1 p q hpq (by omega)
        · intro h1 p q hpq hq
          exact h1 p q hpq (by omega)
      · rw [if_neg hg] at hc
        have he := (pw (i - 1) i (by omega) hi).resolve_left hg
        constructor
        · intro h1; omega
        · intro h1; exact absurd he (h1 (i - 1) i (by omega) (by omega))

theorem getD_set2 (l : List Nat) (i v j : Nat) (hi : i < l.length) : (l.set i v).getD j 0 = if j = i then v else l.getD j 0 := by
  rw [List.getD_eq_getElem?_getD, List.getElem?_set]
  by_cases h : j = i
  · subst h; simp [hi]
  · rw [if_neg (fun e => h e.symm), if_neg h, List.getD_eq_getElem?_getD]

structure OrdOk (k : Nat → Nat × Nat) (n : Nat) (ord : List Nat) : Prop where
  len : ord.length = n
  lt : ∀ i, i < n → ord.getD i 0 < n
  inj : ∀ p q, p < q → q < n → ord.getD p 0 ≠ ord.getD q 0
  pw : ∀ p q, p < q → q < n → gtP (k (ord.getD q 0)) (k (ord.getD p 0)) = true ∨ k (ord.getD p 0) = k (ord.getD q 0)

theorem class_next (s : ByteArray) {k : Nat → Nat × Nat} {n : Nat} {x : SS} (hk : ∀ a, k a = keyS s x.reach x.cls a) (ho : OrdOk k n x.ord) (ha : x.asd.length = n) (hi : x.rnk < n) (h : Rinv k (fun p => x.ord.getD p 0) (fun v => x.asd.getD v 0) x.rnk x.last) :
    Rinv k (fun p => x.ord.getD p 0) (fun v => (classS s x).asd.getD v 0) (x.rnk + 1) (classS s x).last ∧ (classS s x).asd.length = n := by
  refine ⟨h.next hi ho.inj ho.pw ?_ (fun v => ?_), by simp [classS, ha]⟩
  · unfold classS lastS abS
    simp only [← hk]
  · exact getD_set2 _ _ _ _ (by rw [ha]; exact ho.lt _ hi)

theorem step_rank (s : ByteArray) {x : SS} (h0 : x.hi = 0) (hs : x.stk = []) : stepS s x = { rankS s x with steps := x.steps + 1 } := by
  have hj : joinS x = x := by unfold joinS; rw [hs]
  unfold stepS
  rw [hj]
  unfold actS
  rw [if_neg (by omega), hs]

theorem rank_run (s : ByteArray) {k : Nat → Nat × Nat} {n : Nat} : ∀ (j : Nat) (x : SS), x.stk = [] → x.hi = 0 → x.rnk + j < n → (∀ a, k a = keyS s x.reach x.cls a) → OrdOk k n x.ord → x.asd.length = n → Rinv k (fun p => x.ord.getD p 0) (fun v => x.asd.getD v 0) x.rnk x.last →
    ∃ asd last, asd.length = n ∧ Rinv k (fun p => x.ord.getD p 0) (fun v => asd.getD v 0) (x.rnk + j) last ∧ iterS s j x = { x with asd := asd, last := last, rnk := x.rnk + j, steps := x.steps + j }
  | 0, x, _, _, _, _, _, ha, h => ⟨x.asd, x.last, ha, h, rfl⟩
  | j + 1, x, hs, h0, hj, hk, ho, ha, h => by
    obtain ⟨c1, c2⟩ := class_next s hk ho ha (by omega) h
    have e1 : stepS s x = { classS s x with steps := x.steps + 1 } := by
      rw [step_rank s h0 hs]
      unfold rankS
      rw [if_neg (by rw [ho.len]; simp only [classS]; omega)]
    obtain ⟨asd, last, q1, q2, q3⟩ := rank_run s j { classS s x with steps := x.steps + 1 } hs h0 (by simp only [classS]; omega) hk ho c2 c1
    refine ⟨asd, last, q1, ?_, ?_⟩
    · have e : (classS s x).rnk + j = x.rnk + (j + 1) := by simp only [classS]; omega
      exact e ▸ q2
    · show iterS s j (stepS s x) = _
      rw [e1, q3]
      simp [classS, Nat.add_assoc, Nat.add_comm, Nat.add_left_comm]

structure PassAt (s : ByteArray) (x : SS) : Prop where
  n2 : 2 ≤ s.size
  stk : x.stk = [(0, 0, s.size)]
  hi : x.hi = 0
  rnk : x.rnk = 0
  done : x.done = false
  perm : x.ord.Perm (List.range s.size)
  al : x.asd.length = s.size
  cl : x.cls.length = s.size
  cls : x.reach ≠ 0 → ∀ a b, a < s.size → b < s.size → (x.cls.getD a 0 < x.cls.getD b 0 ↔ ltL s x.reach a b)
  old : x.ord.Pairwise (fun a b => eqL s x.reach a b → a < b)

def nextL (x : SS) : Nat := max 1 (2 * x.reach)

theorem key_lt {s : ByteArray} {x : SS} (h : PassAt s x) (a b : Nat) (ha : a < s.size) (hb : b < s.size) :
    (gtP (keyS s x.reach x.cls b) (keyS s x.reach x.cls a) = true ↔ ltL s (nextL x) a b) ∧ (keyS s x.reach x.cls a = keyS s x.reach x.cls b ↔ eqL s (nextL x) a b) := by
  have r0 : ∀ c, c < s.size → rnd s (c + 0) = s.data.toList.getD c 0 := fun c hc => by unfold rnd; rw [Nat.add_zero, Nat.mod_eq_of_lt hc]
  unfold nextL keyS
  by_cases h0 : x.reach = 0
  · rw [h0]
    simp only [if_pos]
    rw [gtP_iff, Prod.ext_iff]
    constructor
    · constructor
      · intro h1
        refine ⟨0, by omega, fun i hi => by omega, ?_⟩
        rw [r0 a ha, r0 b hb, UInt8.lt_iff_toNat_lt]
        simpa using h1
      · rintro ⟨j, h1, _, h3⟩
        obtain rfl : j = 0 := by omega
        rw [r0 a ha, r0 b hb, UInt8.lt_iff_toNat_lt] at h3
        exact .inl h3
    · constructor
      · rintro ⟨h1, _⟩ i hi
        obtain rfl : i = 0 := by omega
        rw [r0 a ha, r0 b hb]
        exact UInt8.toNat_inj.1 h1
      · intro h1
        have := h1 0 (by omega)
        rw [r0 a ha, r0 b hb] at this
        exact ⟨by rw [this], rfl⟩
  · rw [if_neg h0, if_neg h0, show max 1 (2 * x.reach) = 2 * x.reach by omega]
    have hc := h.cls h0
    have hm : ∀ c, (c + x.reach) % s.size < s.size := fun c => Nat.mod_lt _ (by omega)
    have hce : ∀ u v, u < s.size → v < s.size → (x.cls.getD u 0 = x.cls.getD v 0 ↔ eqL s x.reach u v) := by
      intro u v hu hv
      have a1 := hc u v hu hv
      have a2 := hc v u hv hu
      constructor
      · intro e
        rcases ltL_tri s u v x.reach with t | t | t
        · have := a1.2 t; omega
        · exact t
        · have := a2.2 t; omega
      · intro e
        have b1 : ¬ x.cls.getD u 0 < x.cls.getD v 0 := fun t => ltL_ne (a1.1 t) e
        have b2 : ¬ x.cls.getD v 0 < x.cls.getD u 0 := fun t => ltL_ne (a2.1 t) (eqL_symm e)
        omega
    rw [gtP_iff, Prod.ext_iff, ltL_double, eqL_double]
    simp only
    rw [hc a b ha hb, hce a b ha hb, hc _ _ (hm a) (hm b), hce _ _ (hm a) (hm b), ltL_in, eqL_in]
    exact ⟨Iff.rfl, Iff.rfl⟩

theorem done_stays (s : ByteArray) (x : SS) (h : x.done = true) : (stepS s x).done = true := by
  have hj : (joinS x).done = true := by rw [join_done]; exact h
  have hp : ∀ y : SS, y.done = true → (passS y).done = true := fun y hy => by unfold passS; split <;> simp [hy]
  have he : ∀ (y : SS) (e : Bool), y.done = true → (endS y e).done = true := fun y e hy => by unfold endS; cases e <;> simp [hy]
  unfold stepS
  show (actS s (joinS x)).done = true
  generalize joinS x = y at *
  unfold actS
  split
  · split
    · exact hj
    · unfold putS
      split <;> exact he _ _ hj
  · split
    · unfold rankS
      split
      · exact hp _ hj
      · exact hj
    · unfold beginS
      split
      · exact hj
      · split <;> exact hj
theorem iter_done (s : ByteArray) : ∀ j (x : SS), x.done = true → (iterS s j x).done = true
  | 0, _, h => h
  | j + 1, x, h => iter_done s j _ (done_stays s x h)
theorem not_done_before (s : ByteArray) {j m : Nat} {x : SS} (h : (iterS s m x).done = false) (hj : j ≤ m) : (iterS s j x).done = false := by
  obtain ⟨d, rfl⟩ : ∃ d, m = j + d := ⟨m - j, by omega⟩
  rw [iter_add] at h
  cases hd : (iterS s j x).done with
  | false => rfl
  | true => rw [iter_done s d _ hd] at h; cases h

theorem getD_range_perm {n : Nat} {l : List Nat} (h : l.Perm (List.range n)) : l.length = n ∧ (∀ i, i < n → l.getD i 0 < n) ∧ (∀ p q, p < q → q < n → l.getD p 0 ≠ l.getD q 0) := by
  have hl : l.length = n := by have := h.length_eq; simpa using this
  have hg : ∀ i (hi : i < n), l.getD i 0 = l[i]'(by omega) := fun i hi => by rw [List.getD_eq_getElem?_getD, List.getElem?_eq_getElem (by omega)]; rfl
  refine ⟨hl, fun i hi => ?_, fun p q hpq hq => ?_⟩
  · rw [hg i hi]
    have := h.mem_iff.1 (List.getElem_mem (l := l) (n := i) (by omega))
    simpa using this
  · have hn : l.Nodup := h.nodup_iff.2 List.nodup_range
    rw [hg p (by omega), hg q hq]
    have := List.pairwise_iff_getElem.1 hn p q (by omega) (by omega) hpq
    exact this

theorem onto_of {n : Nat} {l : List Nat} (h : l.Perm (List.range n)) (a : Nat) (ha : a < n) : ∃ p, p < n ∧ l.getD p 0 = a := by
  have hm : a ∈ l := h.mem_iff.2 (by simpa using ha)
  obtain ⟨p, hp, e⟩ := List.mem_iff_getElem.1 hm
  have hl : l.length = n := by have := h.length_eq; simpa using this
  exact ⟨p, by omega, by rw [List.getD_eq_getElem?_getD, List.getElem?_eq_getElem hp]; exact e⟩

theorem pw_imp {R S : Nat → Nat → Prop} {n : Nat} {l : List Nat} (h : l.Perm (List.range n)) (hp : l.Pairwise R) (hi : ∀ a b, a < n → b < n → R a b → S a b) : l.Pairwise S := by
  have hb : ∀ a ∈ l, a < n := fun a ha => by simpa using h.mem_iff.1 ha
  rw [List.pairwise_iff_getElem] at *
  intro i j hi' hj hij
  exact hi _ _ (hb _ (List.getElem_mem hi')) (hb _ (List.getElem_mem hj)) (hp i j hi' hj hij)

theorem pass_run {s : ByteArray} {x : SS} (h : PassAt s x) :
    (∀ j, j < costT s.size + s.size → (iterS s j x).done = false) ∧
    ((distinctL s (nextL x) ∨ s.size ≤ x.reach) → (iterS s (costT s.size + s.size) x).done = true ∧ (iterS s (costT s.size + s.size) x).ord.Perm (List.range s.size) ∧ (iterS s (costT s.size + s.size) x).ord.Pairwise (RL s (nextL x))) ∧
    (¬ (distinctL s (nextL x) ∨ s.size ≤ x.reach) → PassAt s (iterS s (costT s.size + s.size) x) ∧ (iterS s (costT s.size + s.size) x).reach = nextL x) := by
  have n2 := h.n2
  obtain ⟨hl, hlt, _⟩ := getD_range_perm h.perm
  obtain ⟨k, hk⟩ : ∃ k : Nat → Nat × Nat, ∀ a, k a = keyS s x.reach x.cls a := ⟨_, fun _ => rfl⟩
  have hkey : ∀ a b, a < s.size → b < s.size → (gtP (k b) (k a) = true ↔ ltL s (nextL x) a b) ∧ (k a = k b ↔ eqL s (nextL x) a b) := fun a b ha hb => by rw [hk, hk]; exact key_lt h a b ha hb
  have hold : x.ord.Pairwise (fun a b => k a = k b → a < b) := by
    refine pw_imp h.perm h.old fun a b ha hb h1 h2 => h1 ?_
    rw [(hkey a b ha hb).2] at h2
    intro i hi
    exact h2 i (by unfold nextL; omega)
  obtain ⟨ord, asd, lo, mid, laid, one, two, o1, o2, o3, o4⟩ := sort_run s k s.size s.size (Nat.le_refl _) x [] x.ord [] [] hl hk (by simp) (by rw [h.al, hl]) (by rw [h.stk]; simp) h.hi hold
  have operm : ord.Perm (List.range s.size) := o1.trans h.perm
  obtain ⟨ol, olt, oinj⟩ := getD_range_perm operm
  have hg : ∀ i (hi : i < s.size), ord.getD i 0 = ord[i]'(by omega) := fun i hi => by rw [List.getD_eq_getElem?_getD, List.getElem?_eq_getElem (by omega)]; rfl
  have oRL : ord.Pairwise (RL s (nextL x)) := by
    refine pw_imp operm o2 fun a b ha hb h1 => ?_
    unfold Rk at h1
    rw [(hkey a b ha hb).1, (hkey a b ha hb).2] at h1
    exact h1
  have oOk : OrdOk k s.size ord := ⟨ol, olt, oinj, fun p q hpq hq => by
    have := List.pairwise_iff_getElem.1 o2 p q (by omega) (by omega) hpq
    rw [hg p (by omega), hg q hq]
    rcases this with h1 | h1
    · exact .inl h1
    · exact .inr h1.1⟩
  simp only [List.nil_append, List.append_nil] at o4
  -- the state when all parts are sorted
  obtain ⟨y, hy⟩ : ∃ y : SS, y = { x with ord := ord, asd := asd, stk := [], lo := lo, mid := mid, hi := 0, laid := laid, one := one, two := two, steps := x.steps + costT s.size } := ⟨_, rfl⟩
  rw [← hy] at o4
  have yinv : Rinv k (fun p => y.ord.getD p 0) (fun v => y.asd.getD v 0) y.rnk y.last := by
    have : y.rnk = 0 := by rw [hy]; exact h.rnk
    rw [this]
    exact ⟨fun p hp => absurd hp (Nat.not_lt_zero _), fun p hp => absurd hp (Nat.not_lt_zero _), fun hp => absurd hp (Nat.not_lt_zero _), fun hp => absurd hp (Nat.not_lt_zero _)⟩
  have yr : y.rnk = 0 := by rw [hy]; exact h.rnk
  have ysz : y.reach = x.reach := by rw [hy]
  have ycl : y.cls = x.cls := by rw [hy]
  have yord : y.ord = ord := by rw [hy]
  have yasd : y.asd.length = s.size := by rw [hy]; show asd.length = _; rw [o3, h.al]
  have yk : ∀ a, k a = keyS s y.reach y.cls a := by rw [ysz, ycl]; exact hk
  have yOk : OrdOk k s.size y.ord := yord ▸ oOk
  have ydone : y.done = false := by rw [hy]; exact h.done
  obtain ⟨asd2, last2, q1, q2, q3⟩ := rank_run s (s.size - 1) y (by rw [hy]) (by rw [hy]) (by omega) yk yOk yasd yinv
  obtain ⟨z, hz⟩ : ∃ z : SS, z = { y with asd := asd2, last := last2, rnk := y.rnk + (s.size - 1), steps := y.steps + (s.size - 1) } := ⟨_, rfl⟩
  rw [← hz] at q3
  have zr : z.rnk = s.size - 1 := by rw [hz]; simp only [yr]; omega
  have zord : z.ord = ord := by rw [hz]; exact yord
  have zreach : z.reach = x.reach := by rw [hz]; exact ysz
  have zcls : z.cls = x.cls := by rw [hz]; exact ycl
  have zasd : z.asd = asd2 := by rw [hz]
  have zlast : z.last = last2 := by rw [hz]
  have zstk : z.stk = [] := by rw [hz, hy]
  have zhi : z.hi = 0 := by rw [hz, hy]
  have zdone : z.done = false := by rw [hz]; exact ydone
  have zk : ∀ a, k a = keyS s z.reach z.cls a := by rw [zreach, zcls]; exact hk
  have hpre : iterS s (costT s.size + (s.size - 1)) x = z := by rw [iter_add, o4, q3]
  have hfin : iterS s (costT s.size + s.size) x = stepS s z := by
    rw [show costT s.size + s.size = costT s.size + (s.size - 1) + 1 by omega, iter_add, hpre]; rfl
  have zinv : Rinv k (fun p => z.ord.getD p 0) (fun v => z.asd.getD v 0) z.rnk z.last := by
    rw [zord, zasd, zr, zlast]
    rw [yord, yr, Nat.zero_add] at q2
    exact q2
  obtain ⟨c1, c2⟩ := class_next s (n := s.size) zk (zord ▸ oOk) (by rw [zasd]; exact q1) (by omega) zinv
  have hstep : stepS s z = { passS (classS s z) with steps := z.steps + 1 } := by
    rw [step_rank s zhi zstk]
    unfold rankS
    rw [if_pos (by simp only [classS]; rw [zord, ol, zr]; omega)]
  have hclen : (classS s z).ord.length = s.size := by simp only [classS]; rw [zord, ol]
  have hcreach : (classS s z).reach = x.reach := zreach
  rw [show z.rnk + 1 = s.size by omega, zord] at c1
  -- the classes are those of the first bytes
  have hcls : ∀ a b, a < s.size → b < s.size → ((classS s z).asd.getD a 0 < (classS s z).asd.getD b 0 ↔ ltL s (nextL x) a b) := by
    intro a b ha hb
    obtain ⟨p, hp, rfl⟩ := onto_of operm a ha
    obtain ⟨q, hq, rfl⟩ := onto_of operm b hb
    have := c1.lt p hp q hq
    rw [this, (hkey _ _ ha hb).1]
  have hall : (classS s z).last + 1 = s.size ↔ distinctL s (nextL x) := by
    rw [c1.all (by omega)]
    constructor
    · intro h1 a b hab hb he
      obtain ⟨p, hp, ea⟩ := onto_of operm a (by omega)
      obtain ⟨q, hq, eb⟩ := onto_of operm b hb
      have hne : p ≠ q := by rintro rfl; omega
      have h2 := (hkey a b (by omega) hb).2.2 he
      rw [← ea, ← eb] at h2
      rcases Nat.lt_or_gt_of_ne hne with h3 | h3
      · exact h1 p q h3 hq h2
      · exact h1 q p h3 hp h2.symm
    · intro h1 p q hpq hq he
      have hp := olt p (by omega)
      have hq' := olt q hq
      have hne := oinj p q hpq hq
      have h2 := (hkey _ _ hp hq').2.1 he
      rcases Nat.lt_or_gt_of_ne hne with h3 | h3
      · exact h1 _ _ h3 hq' h2
      · exact h1 _ _ h3 hp (eqL_symm h2)
  rw [hfin, hstep]
  refine ⟨fun j hj => not_done_before s (m := costT s.size + (s.size - 1)) (by rw [hpre]; exact zdone) (by omega), fun hd => ?_, fun hd => ?_⟩
  · have : passS (classS s z) = { classS s z with cls := (classS s z).asd, asd := (classS s z).cls, rnk := 0, done := true } := by
      unfold passS; rw [if_pos (by rw [hclen, hcreach, hall]; exact hd)]
    rw [this]
    exact ⟨rfl, by show z.ord.Perm _; rw [zord]; exact operm, by show z.ord.Pairwise _; rw [zord]; exact oRL⟩
  · have : passS (classS s z) = { classS s z with cls := (classS s z).asd, asd := (classS s z).cls, rnk := 0, reach := max 1 (2 * x.reach), stk := [(0, 0, s.size)] } := by
      unfold passS; rw [if_neg (by rw [hclen, hcreach, hall]; exact hd), hclen, hcreach]
      show _ = _
      simp only [classS, zstk]
    rw [this]
    refine ⟨⟨n2, rfl, zhi, rfl, zdone, by show z.ord.Perm _; rw [zord]; exact operm, ?_, c2, fun _ => hcls, ?_⟩, rfl⟩
    · show z.cls.length = _; rw [zcls]; exact h.cl
    · show z.ord.Pairwise _
      rw [zord]
      refine oRL.imp fun {a b} h1 h2 => ?_
      rcases h1 with h1 | h1
      · exact absurd h2 (ltL_ne h1)
      · exact h1.2

end Sp
end Go.Proofs.YtcehhgppfahbkaaGreatDoor
namespace Go.Proofs.YtcehhgppfahbkaaGreatDoor
set_option linter.unusedVariables false
set_option linter.unusedSimpArgs false
open Go.RowKit
namespace Sp
open Pl

def eqLB (s : ByteArray) (L a b : Nat) : Bool := (List.range L).all fun i => rnd s (a + i) == rnd s (b + i)
def unlikeB (s : ByteArray) (L : Nat) : Bool := (List.range s.size).all fun i => (List.range i).all fun k => !(eqLB s L i k)
theorem eqLB_iff (s : ByteArray) (L a b : Nat) : eqLB s L a b = true ↔ eqL s L a b := by
  unfold eqLB eqL
  rw [List.all_eq_true]
  simp
theorem unlikeB_iff (s : ByteArray) (L : Nat) : unlikeB s L = true ↔ distinctL s L := by
  unfold unlikeB distinctL
  rw [List.all_eq_true]
  constructor
  · intro h a b hab hb he
    have h1 := h b (by simpa using hb)
    rw [List.all_eq_true] at h1
    have h2 := h1 a (by simpa using hab)
    have h3 := (eqLB_iff s L b a).2 (eqL_symm he)
    rw [h3] at h2
    cases h2
  · intro h b hb
    rw [List.all_eq_true]
    intro a ha
    cases he : eqLB s L b a with
    | false => rfl
    | true => exact absurd (eqL_symm ((eqLB_iff s L b a).1 he)) (h a b (by simpa using ha) (by simpa using hb))
theorem distinct_min {s : ByteArray} (hn : 0 < s.size) (L : Nat) : distinctL s (min L s.size) ↔ distinctL s L := by
  by_cases h : L ≤ s.size
  · rw [Nat.min_eq_left h]
  · rw [Nat.min_eq_right (by omega)]
    unfold distinctL
    simp only [eqL_ge hn (show s.size ≤ L by omega)]

def goR (s : ByteArray) (each : Nat) : Nat → Nat → Nat
  | 0, _ => 0
  | f + 1, r => if s.size ≤ r || unlikeB s (min (2 * r) s.size) then each else each + goR s each f (2 * r)
def stepsR (s : ByteArray) : Nat := if s.size < 2 then 0 else if unlikeB s 1 then costT s.size + s.size else costT s.size + s.size + goR s (costT s.size + s.size) 30 1

structure Fin (s : ByteArray) (x : SS) (T : Nat) : Prop where
  before : ∀ j, j < T → (iterS s j x).done = false
  after : (iterS s T x).done = true
  perm : (iterS s T x).ord.Perm (List.range s.size)
  sorted : (iterS s T x).ord.Pairwise (RL s s.size)

theorem RL_ge {s : ByteArray} (hn : 0 < s.size) {L a b : Nat} (ha : a < s.size) (hb : b < s.size) (h : RL s L a b) (hL : distinctL s L ∨ s.size ≤ L) : RL s s.size a b := by
  rcases h with h | h
  · exact .inl (ltL_ge hn h)
  · rcases hL with hL | hL
    · exact absurd h.1 (hL a b h.2 hb)
    · exact .inr ⟨(eqL_ge hn hL).1 h.1, h.2⟩

theorem Fin.of_pass {s : ByteArray} {x : SS} (h : PassAt s x) (hd : distinctL s (nextL x) ∨ s.size ≤ x.reach) : Fin s x (costT s.size + s.size) := by
  obtain ⟨p1, p2, _⟩ := pass_run h
  obtain ⟨q1, q2, q3⟩ := p2 hd
  have n2 := h.n2
  refine ⟨p1, q1, q2, pw_imp q2 q3 fun a b ha hb h1 => RL_ge (by omega) ha hb h1 (hd.imp id fun h => ?_)⟩
  unfold nextL; omega
theorem Fin.then {s : ByteArray} {x : SS} {c T : Nat} (h : Fin s (iterS s c x) T) (hb : ∀ j, j < c → (iterS s j x).done = false) : Fin s x (c + T) := by
  refine ⟨fun j hj => ?_, by rw [iter_add]; exact h.after, by rw [iter_add]; exact h.perm, by rw [iter_add]; exact h.sorted⟩
  by_cases h1 : j < c
  · exact hb j h1
  · rw [show j = c + (j - c) by omega, iter_add]
    exact h.before _ (by omega)

theorem passes {s : ByteArray} : ∀ (f : Nat) (x : SS), PassAt s x → 1 ≤ x.reach → s.size ≤ x.reach * 2 ^ f → Fin s x (goR s (costT s.size + s.size) (f + 1) x.reach)
  | f, x, h, hr, hf => by
    have n2 := h.n2
    have hL : nextL x = 2 * x.reach := by unfold nextL; omega
    have hB : (decide (s.size ≤ x.reach) || unlikeB s (min (2 * x.reach) s.size)) = true ↔ (distinctL s (nextL x) ∨ s.size ≤ x.reach) := by
      rw [Bool.or_eq_true, decide_eq_true_iff, unlikeB_iff, distinct_min (by omega), hL]
      exact Or.comm
    by_cases hd : distinctL s (nextL x) ∨ s.size ≤ x.reach
    · rw [goR, if_pos (hB.2 hd)]
      exact Fin.of_pass h hd
    · rw [goR, if_neg (fun e => hd (hB.1 e))]
      obtain ⟨p1, _, p3⟩ := pass_run h
      obtain ⟨q1, q2⟩ := p3 hd
      match f with
      | 0 => simp at hf; exact absurd (.inr hf) hd
      | f + 1 =>
        have := passes f _ q1 (by rw [q2, hL]; omega) (by rw [q2, hL]; rw [Nat.pow_succ] at hf; rw [Nat.mul_comm 2 x.reach, Nat.mul_assoc, Nat.mul_comm 2]; exact hf)
        rw [q2, hL] at this
        exact this.then p1

theorem range_old (n : Nat) (R : Nat → Nat → Prop) : (List.range n).Pairwise (fun a b => R a b → a < b) := by
  rw [List.pairwise_iff_getElem]
  intro i j hi hj hij _
  simpa using hij
theorem start_pass (s : ByteArray) (h : 2 ≤ s.size) : PassAt s (startS s.size) :=
  ⟨h, rfl, rfl, rfl, by show decide (s.size < 2) = false; simp; omega, List.Perm.refl _, by simp [startS], by simp [startS], fun h => absurd rfl h, range_old _ _⟩

theorem whole (s : ByteArray) (h : 2 ≤ s.size) (h2 : s.size ≤ 536870912) : Fin s (startS s.size) (stepsR s) := by
  have hs := start_pass s h
  have hL : nextL (startS s.size) = 1 := rfl
  unfold stepsR
  rw [if_neg (by omega)]
  by_cases hd : unlikeB s 1 = true
  · rw [if_pos hd]
    exact Fin.of_pass hs (.inl (by rw [hL]; exact (unlikeB_iff s 1).1 hd))
  · rw [if_neg hd]
    have hd2 : ¬ (distinctL s (nextL (startS s.size)) ∨ s.size ≤ (startS s.size).reach) := by
      rintro (h1 | h1)
      · rw [hL, ← unlikeB_iff] at h1; exact hd h1
      · have h1 : s.size ≤ 0 := h1; omega
    obtain ⟨p1, _, p3⟩ := pass_run hs
    obtain ⟨q1, q2⟩ := p3 hd2
    rw [hL] at q2
    have := passes 29 _ q1 (by rw [q2]; exact Nat.le_refl _) (by rw [q2]; omega)
    rw [q2] at this
    exact this.then p1

theorem cmpL_lt_of : ∀ (j : Nat) (u v : List UInt8), j < u.length → j < v.length → (∀ i, i < j → u.getD i 0 = v.getD i 0) → u.getD j 0 < v.getD j 0 → cmpL u v < 0
  | _, [], _, h, _, _, _ => by simp at h
  | _, _ :: _, [], _, h, _, _ => by simp at h
  | 0, x :: xs, y :: ys, _, _, _, h => by
    simp only [List.getD_cons_zero] at h
    simp [cmpL, h]
  | j + 1, x :: xs, y :: ys, h1, h2, h3, h => by
    have h0 := h3 0 (by omega)
    simp only [List.getD_cons_zero] at h0
    subst h0
    have ih := cmpL_lt_of j xs ys (by simpa using h1) (by simpa using h2) (fun i hi => by simpa using h3 (i + 1) (by omega)) (by simpa using h)
    simp only [cmpL, if_neg (UInt8.lt_irrefl x)]
    exact ih
theorem ahd_of (s : ByteArray) (a b : Nat) (ha : a < s.size) (hb : b < s.size) (h : RL s s.size a b) : Ahd s a b := by
  have hl := size_list' s
  have hg : ∀ c j, c < s.size → j < s.size → (rotL s.data.toList c).getD j 0 = rnd s (c + j) := fun c j hc hj => by
    rw [getD_rotL _ _ _ (by omega) (by omega), hl]; rfl
  unfold Ahd
  rw [aheadS_iff]
  refine ⟨isB_of (by omega) (by omega), isB_of (by omega) (by omega), ?_⟩
  rcases h with ⟨j, h1, h2, h3⟩ | ⟨h1, h2⟩
  · left
    unfold cmpS
    simp only [Int.toNat_natCast]
    refine cmpL_lt_of j _ _ (by rw [length_rotL]; omega) (by rw [length_rotL]; omega) (fun i hi => ?_) ?_
    · rw [hg a i ha (by omega), hg b i hb (by omega)]; exact h2 i hi
    · rw [hg a j ha h1, hg b j hb h1]; exact h3
  · right
    refine ⟨?_, by omega⟩
    unfold cmpS
    simp only [Int.toNat_natCast]
    rw [cmpL_zero _ _ (by simp [length_rotL]), rotL_ext s a b ha hb]
    exact h1

theorem sorted_fin {s : ByteArray} {l : List Nat} (hp : l.Perm (List.range s.size)) (hs : l.Pairwise (RL s s.size)) : l.map (fun (v : Nat) => (v : Int)) = sortTo s s.size := by
  have hb : ∀ a ∈ l, a < s.size := fun a ha => by simpa using hp.mem_iff.1 ha
  have h1 : (l.map (fun (v : Nat) => (v : Int))).Pairwise (Ahd s) := by
    rw [List.pairwise_map]
    exact pw_imp hp hs fun a b ha hb h => ahd_of s a b ha hb h
  have h2 : ∀ x ∈ l.map (fun (v : Nat) => (v : Int)), isB s x = true := by
    intro x hx
    rw [List.mem_map] at hx
    obtain ⟨a, ha, rfl⟩ := hx
    have := hb a ha
    exact isB_of (by omega) (by omega)
  have h3 := sorted_unique s (l.map (fun (v : Nat) => (v : Int)))
  rw [sortedS_yes s _ (ok_of_pairwise s _ h1 h2)] at h3
  have h4 : ((l.map (fun (v : Nat) => (v : Int))).length == s.size) = true := by
    rw [List.length_map, hp.length_eq, List.length_range]; simp
  rw [h4] at h3
  exact beq_iff_eq.1 h3.symm

theorem small_sorted (s : ByteArray) (h : s.size < 2) : (List.range s.size).map (fun (v : Nat) => (v : Int)) = sortTo s s.size := by
  refine sorted_fin (List.Perm.refl _) ?_
  obtain h | h : s.size = 0 ∨ s.size = 1 := by omega
  · rw [h]; exact List.Pairwise.nil
  · rw [h]; exact List.pairwise_singleton _ _

theorem all_done (s : ByteArray) (h2 : s.size ≤ 536870912) : (∀ j, j < stepsR s → (iterS s j (startS s.size)).done = false) ∧ (iterS s (stepsR s) (startS s.size)).done = true ∧ (iterS s (stepsR s) (startS s.size)).ord.map (fun (v : Nat) => (v : Int)) = sortTo s s.size := by
  by_cases h : s.size < 2
  · have : stepsR s = 0 := by unfold stepsR; rw [if_pos h]
    rw [this]
    exact ⟨fun j hj => absurd hj (Nat.not_lt_zero _), by show decide (s.size < 2) = true; simpa using h, small_sorted s h⟩
  · have := whole s (by omega) h2
    exact ⟨this.before, this.after, sorted_fin this.perm this.sorted⟩
theorem steps_iter (s : ByteArray) : ∀ j (x : SS), (iterS s j x).steps = x.steps + j
  | 0, _ => rfl
  | j + 1, x => by show (iterS s j (stepS s x)).steps = _; rw [steps_iter s j]; simp only [stepS]; omega

end Sp
end Go.Proofs.YtcehhgppfahbkaaGreatDoor
namespace Go.Proofs.YtcehhgppfahbkaaGreatDoor
set_option linter.unusedVariables false
set_option linter.unusedSimpArgs false
open Go.RowKit
namespace Sp
open Pl

def AtS (s : ByteArray) (j : Nat) : SS := iterS s j (startS s.size)
theorem AtS_succ (s : ByteArray) (j : Nat) : AtS s (j + 1) = stepS s (AtS s j) := by unfold AtS; rw [iter_add]; rfl
theorem AtS_steps (s : ByteArray) (j : Nat) : (AtS s j).steps = j := by unfold AtS; rw [steps_iter]; exact Nat.zero_add j

theorem Ok.start (n b : Nat) (h : n ≤ 2 ^ b) : Ok n (b + 1) (startS n) := by
  refine ⟨by simp [startS], by simp [startS], by simp [startS], fun i hi => by simp [startS, hi], .inl ⟨rfl, by omega, h⟩, by simp [startS], fun p hp => ?_, .inl rfl, fun h => ?_, fun h => absurd h (Nat.lt_irrefl 0), by simp [startS], .inl rfl⟩
  · simp only [startS, List.mem_singleton] at hp
    subst hp
    exact ⟨Nat.zero_le _, Nat.le_refl _, .inl rfl⟩
  · have : ¬ n < 2 := by simpa [startS] using h
    show 0 < n
    omega
theorem total_start (n b : Nat) (h1 : 1 ≤ n) (h : n ≤ 2 ^ b) : total n (b + 1) (startS n) ≤ n * ((4 + 3 * b) * (b + 2)) := by
  have hc := costT_most b n h1 h
  have e : total n (b + 1) (startS n) = (b + 2) * (costT n + n) := by
    unfold total restP restM startS costP
    simp only [List.map_cons, List.map_nil, List.sum_cons, List.sum_nil, if_true, Nat.sub_zero, Nat.add_zero]
    rw [show b + 2 = (b + 1) + 1 from rfl, Nat.add_mul (b + 1) 1, Nat.one_mul, Nat.add_comm]
  rw [e]
  have h2 : costT n + n ≤ (4 + 3 * b) * n := by
    have : (4 + 3 * b) * n = (3 + 3 * b) * n + n := by rw [show 4 + 3 * b = (3 + 3 * b) + 1 by omega, Nat.add_mul, Nat.one_mul]
    omega
  calc (b + 2) * (costT n + n) ≤ (b + 2) * ((4 + 3 * b) * n) := Nat.mul_le_mul_left _ h2
    _ = n * ((4 + 3 * b) * (b + 2)) := by rw [← Nat.mul_assoc, Nat.mul_comm (b + 2), Nat.mul_comm]

theorem reach_at (s : ByteArray) (m0 : Nat) (h : Ok s.size m0 (startS s.size)) : ∀ j, (∀ i, i < j → (AtS s i).done = false) → ∃ m, Ok s.size m (AtS s j) ∧ ((AtS s j).done = false → total s.size m (AtS s j) + j = total s.size m0 (startS s.size))
  | 0, _ => ⟨m0, h, fun _ => rfl⟩
  | j + 1, hb => by
    obtain ⟨m, h1, h2⟩ := reach_at s m0 h j (fun i hi => hb i (by omega))
    have hd := hb j (by omega)
    obtain ⟨m', q1, q2⟩ := h1.step s hd
    refine ⟨m', by rw [AtS_succ]; exact q1, fun hd2 => ?_⟩
    rw [AtS_succ] at hd2 ⊢
    have := q2 hd2
    have := h2 hd
    omega
theorem stk_le {n m : Nat} {x : SS} (h : Ok n m x) : x.stk.length ≤ total n m x := by
  have hc : ∀ l : List (Nat × Nat × Nat), (∀ p ∈ l, PartOk n p) → l.length ≤ (l.map costP).sum := by
    intro l
    induction l with
    | nil => intro _; simp
    | cons p r ih =>
      intro hp
      have h1 := ih (fun q hq => hp q (by simp [hq]))
      have h2 : 1 ≤ costP p := by
        unfold costP
        split
        · exact costT_pos _
        · rename_i h0
          have := (hp p (by simp)).2.2.resolve_left h0
          omega
      simp only [List.length_cons, List.map_cons, List.sum_cons]
      omega
  have := hc x.stk h.stk
  unfold total restP
  omega

theorem bits20 (n : Nat) (h : n ≤ 900000) : n ≤ 2 ^ 20 := by have : (2 : Nat) ^ 20 = 1048576 := rfl; omega

structure Reach (s : ByteArray) (j : Nat) : Prop where
  ok : ∃ m, Ok s.size m (AtS s j)
  stk : (AtS s j).stk.length ≤ 1099511627776
  jle : j ≤ 1099511627776

theorem steps_most (s : ByteArray) (b : Nat) (h2 : s.size ≤ 536870912) (hb : s.size ≤ 2 ^ b) : stepsR s ≤ s.size * ((4 + 3 * b) * (b + 2)) := by
  by_cases h : s.size < 2
  · have : stepsR s = 0 := by unfold stepsR; rw [if_pos h]
    omega
  · obtain ⟨a1, a2, _⟩ := all_done s h2
    have h0 := Ok.start s.size b hb
    cases hT : stepsR s with
    | zero => omega
    | succ T =>
      rw [hT] at a1 a2
      obtain ⟨m, q1, q2⟩ := reach_at s _ h0 T (fun i hi => a1 i (by omega))
      have hd := a1 T (by omega)
      have e := q2 hd
      have hr := q1.rnk hd
      have : 1 ≤ total s.size m (AtS s T) := by unfold total restP; omega
      have := total_start s.size b (by omega) hb
      omega

theorem not_done (s : ByteArray) (h : s.size ≤ 900000) (j : Nat) (hj : j < stepsR s) : (AtS s j).done = false := (all_done s (by omega)).1 j hj
theorem is_done (s : ByteArray) (h : s.size ≤ 900000) : (AtS s (stepsR s)).done = true := (all_done s (by omega)).2.1
theorem is_sorted (s : ByteArray) (h : s.size ≤ 900000) : (AtS s (stepsR s)).ord.map (fun (v : Nat) => (v : Int)) = sortTo s s.size := (all_done s (by omega)).2.2
theorem steps_le (s : ByteArray) (h : s.size ≤ 900000) : stepsR s ≤ 1267200000 := by
  have h1 := steps_most s 20 (by omega) (bits20 s.size h)
  have h4 : s.size * ((4 + 3 * 20) * (20 + 2)) ≤ 900000 * ((4 + 3 * 20) * (20 + 2)) := Nat.mul_le_mul_right _ h
  omega
theorem ord_len (s : ByteArray) (h : s.size ≤ 900000) : (AtS s (stepsR s)).ord.length = s.size := by
  have := congrArg List.length (is_sorted s h)
  rwa [List.length_map, sortTo_length] at this
end Sp
end Go.Proofs.YtcehhgppfahbkaaGreatDoor
namespace Go.Proofs.YtcehhgppfahbkaaGreatDoor.Ev
set_option linter.unusedVariables false
set_option linter.unusedSimpArgs false
open Go
set_option maxRecDepth 4000
theorem RXA : type_of% (aI @optK_some_eq (aI @knn_ptr (aI @knn_fun (aI @ifV_true (aI @ifV_false (aI @run_if (aI @run_out0 (aI @run_out1 (aI @run_out2 (aI @run_out3 (aI @optG_some (aI @cells_agg (aI @chk_true (aI @get_eq (aI @get_ne (aI @s_add (aI @s_sub (aI @s_mul (aI @s_eq (aI @s_ne (aI @s_lt (aI @s_le (aI @s_gt (aI @s_ge (aI @s_quo (aI @s_rem (aI @s_and (aI @s_or (aI @s_xor (aI @s_shl (aI @s_shr (aI @s_addS (aI @s_eqS (aI @s_ltS (aI @s_neS (aI @s_eqB (aI @s_neB (aI @s_not (aI @s_neg (aI @s_cv (aI @s_id (aI @s_ln (aI @s_lx (aI @s_mi (aI @s_ma (aI @s_pk (aI @s_pe1 (aI @s_pe0 (aI @s_pn1 (aI @s_pn0 (aI @s_se1 (aI @s_se0 (aI @s_sn1 (aI @s_sn0 (aI @s_fe1 (aI @s_fn1 (aI @s_fa (aI @s_fd (aI @s_fg (aI @s_ex (aI @s_ix (aI @s_iy (aI @s_ia (aI @s_ib (aI @s_iv (aI @s_it (aI @s_sxh (aI @s_sxl (aI @s_sxb (aI @s_bd (aI @fill_nil (aI @fill_int (aI @fill_bool (aI @fill_str (aI @fill_slice (aI @fill_ptr (aI @fill_agg (aI @kld_iff (aI @st_int (aI @st_bool (aI @st_str (aI @st_ptr (@st_slice))))))))))))))))))))))))))))))))))))))))))))))))))))))))))))))))))))))))))))))))))) := aI @optK_some_eq (aI @knn_ptr (aI @knn_fun (aI @ifV_true (aI @ifV_false (aI @run_if (aI @run_out0 (aI @run_out1 (aI @run_out2 (aI @run_out3 (aI @optG_some (aI @cells_agg (aI @chk_true (aI @get_eq (aI @get_ne (aI @s_add (aI @s_sub (aI @s_mul (aI @s_eq (aI @s_ne (aI @s_lt (aI @s_le (aI @s_gt (aI @s_ge (aI @s_quo (aI @s_rem (aI @s_and (aI @s_or (aI @s_xor (aI @s_shl (aI @s_shr (aI @s_addS (aI @s_eqS (aI @s_ltS (aI @s_neS (aI @s_eqB (aI @s_neB (aI @s_not (aI @s_neg (aI @s_cv (aI @s_id (aI @s_ln (aI @s_lx (aI @s_mi (aI @s_ma (aI @s_pk (aI @s_pe1 (aI @s_pe0 (aI @s_pn1 (aI @s_pn0 (aI @s_se1 (aI @s_se0 (aI @s_sn1 (aI @s_sn0 (aI @s_fe1 (aI @s_fn1 (aI @s_fa (aI @s_fd (aI @s_fg (aI @s_ex (aI @s_ix (aI @s_iy (aI @s_ia (aI @s_ib (aI @s_iv (aI @s_it (aI @s_sxh (aI @s_sxl (aI @s_sxb (aI @s_bd (aI @fill_nil (aI @fill_int (aI @fill_bool (aI @fill_str (aI @fill_slice (aI @fill_ptr (aI @fill_agg (aI @kld_iff (aI @st_int (aI @st_bool (aI @st_str (aI @st_ptr (@st_slice))))))))))))))))))))))))))))))))))))))))))))))))))))))))))))))))))))))))))))))))))
theorem RXB : type_of% (aI @List.getElem?_cons_zero.{0} (aI @List.getElem?_cons_succ.{0} (aI @List.set_cons_zero.{0} (aI @List.set_cons_succ.{0} (aI @List.length_cons.{0} (aI @List.length_nil.{0} (aI @Int.toNat_natCast (aI @Int.toNat_zero (aI @Nat.zero_add (aI @Nat.add_zero (aI @decide_eq_true_eq (aI @decide_eq_false_iff_not (aI @true_and (aI @and_true (aI @if_true.{1} (aI @if_false.{1} (aI @true_or (aI @or_true (aI @Bool.false_eq_true (aI @Bool.true_eq_false (aI @false_and (aI @and_false (aI @Bool.not_true (aI @Bool.not_false (aI @beq_self_eq_true.{0} (aI @bne_self_eq_false.{0} (aI @decide_true (aI @decide_false (aI @Bool.and_true (aI @Bool.true_and (aI @Bool.and_false (@Bool.false_and)))))))))))))))))))))))))))))))) := aI @List.getElem?_cons_zero.{0} (aI @List.getElem?_cons_succ.{0} (aI @List.set_cons_zero.{0} (aI @List.set_cons_succ.{0} (aI @List.length_cons.{0} (aI @List.length_nil.{0} (aI @Int.toNat_natCast (aI @Int.toNat_zero (aI @Nat.zero_add (aI @Nat.add_zero (aI @decide_eq_true_eq (aI @decide_eq_false_iff_not (aI @true_and (aI @and_true (aI @if_true.{1} (aI @if_false.{1} (aI @true_or (aI @or_true (aI @Bool.false_eq_true (aI @Bool.true_eq_false (aI @false_and (aI @and_false (aI @Bool.not_true (aI @Bool.not_false (aI @beq_self_eq_true.{0} (aI @bne_self_eq_false.{0} (aI @decide_true (aI @decide_false (aI @Bool.and_true (aI @Bool.true_and (aI @Bool.and_false (@Bool.false_and)))))))))))))))))))))))))))))))
end Go.Proofs.YtcehhgppfahbkaaGreatDoor.Ev
namespace Go.Proofs.YtcehhgppfahbkaaGreatDoor
set_option linter.unusedVariables false
set_option linter.unusedSimpArgs false
open Go.RowKit Ev
def gtL : List Hint := [([], [], []), ([], [], []), ([], [], []), ([0, 1, 2, 6, 7, 8, 11, 27], [6], []), ([0, 1, 4, 5, 6, 9, 19], [4], []), ([0, 1, 2, 3, 6, 7, 8, 9, 10,
  11, 12, 13, 14, 15, 16, 31, 62, 63, 64, 65, 66, 76, 82], [6], [(0, [1, 3, 11, 13])]), ([0, 1, 4, 5, 6, 7, 8, 9, 10, 12, 13, 14, 15, 18, 27, 39, 40, 41, 42, 48, 52, 60,
  62, 65, 73, 92, 104, 114, 127], [4], [(0, [5, 6, 7, 8])]), ([0, 1, 4, 5, 6, 7, 8, 10, 17, 30], [4], []), ([0, 1, 2, 4, 5, 6, 7, 15, 28, 29, 30, 59], [4], [(0, [2,
  5])]), ([0, 1, 2, 4, 5, 6, 7, 9, 10, 17, 30, 32, 33, 34, 35, 63, 72, 75, 76], [4], [(0, [0, 1, 2, 4, 5, 6, 7, 17, 30, 32, 33, 34, 35]), (2, [2, 5, 7, 10])]), ([0, 1,
  2], [0], []), ([0, 1, 2, 6, 7, 8, 9, 10, 12, 15, 16, 24, 37, 38, 39, 40, 50], [6, 7], [(0, [10])]), ([0, 2], [2], []), ([0, 2], [2], []), ([0, 1, 2, 6, 7, 8, 10, 18,
  19, 20, 21], [6], [(0, [7, 8])]), ([0, 1, 4, 5], [4, 5], []), ([0, 1, 4, 5, 19], [4, 5], []), ([0, 1, 4, 5, 6, 7, 8, 9, 10, 11, 18, 21, 22, 23, 33], [4, 5], [(0, [6,
  8])]), ([0, 2, 3, 4, 5, 11, 15, 16], [2, 3], [(0, [0, 4])]), ([0, 1, 2, 6, 7, 8, 9, 17, 25], [6], []), ([0, 2, 4], [2], []), ([0, 2, 10], [2], []), ([0, 2], [2], []),
  ([0, 2, 3, 6], [2], [(0, [3])]), ([0, 1, 2, 3, 8, 9, 18], [8], []), ([0, 1, 2, 3, 6, 7, 8, 10, 11, 15, 22, 34], [6, 7], []), ([0, 2, 6], [2], [(0, [0])]), ([0, 2, 4],
  [2], []), ([0, 2], [2], []), ([0, 2, 8], [2], []), ([0, 2, 3, 4, 8], [2], [(0, [3])]), ([0, 1, 2], [2], []), ([0, 1, 2, 3, 4, 5, 6, 7, 8], [0], []), ([0, 1, 2, 6, 7,
  8, 9, 10, 12, 26], [6, 7], []), ([0, 1, 4, 5, 13], [4], []), ([0, 1, 4, 5, 13, 22], [4], [(0, [0, 5])]), ([0, 2, 3, 12], [2], []), ([0, 2, 4], [2], []), ([0, 2, 3, 5,
  7, 34, 35, 36, 37], [2], [(0, [3])]), ([0, 1, 2, 6, 7], [6], []), ([0, 1, 4, 5, 6, 12], [4], []), ([0, 2, 3, 5, 8, 9, 10, 11, 12, 18], [2], [(0, [3])]), ([0, 1, 2, 3,
  5, 6, 7, 8, 9, 10, 11, 12, 13, 15, 49, 71, 81, 104], [6], []), ([0, 2, 10], [2], []), ([0, 2], [2], []), ([0, 2, 4], [2], []), ([0, 1, 2, 6, 7, 9, 18, 19, 20, 21],
  [6], [(0, [7])]), ([0, 1, 4, 5, 6, 8, 9, 12, 13, 14, 15, 27, 39, 40, 41, 55], [4], [(0, [5, 6]), (2, [0, 1, 4, 5, 6, 12, 13, 14])]), ([0, 1, 4, 5], [4], []), ([0, 1,
  2], [2], []), ([0, 2], [2], []), ([0, 2], [2], []), ([0, 2, 3, 9], [2, 3], []), ([0, 1, 4, 5, 6, 7, 9, 23, 28], [4, 5], []), ([0, 2, 3, 4, 5, 6, 7, 8, 9, 11, 23, 32,
  44], [2], []), ([0], [0], []), ([0, 1, 2, 6, 7, 8, 11, 16, 17, 18], [6], [(1, [])]), ([0, 2, 3, 4, 5, 6, 7, 8, 15, 19], [2, 3, 4], [(0, [5])]), ([0, 2, 3, 5], [2],
  []), ([0, 1], [], []), ([0, 11], [], [(0, [])]), ([0, 2, 3, 4, 8], [2], [(0, [3])]), ([0, 2, 3, 4, 8], [2], [(0, [3])]), ([0, 1, 4], [4], []), ([0, 1, 2, 3, 8, 9, 10,
  12, 15, 16, 19, 61], [8], []), ([0, 1, 2, 3, 4, 6], [2], []), ([0, 2, 4], [2], []), ([0, 1, 4], [4], []), ([0, 1, 2, 6], [6], []), ([0, 2], [2], []), ([0, 1, 4, 5, 27,
  34, 55, 64], [4], []), ([0, 2, 4], [2], []), ([0, 2], [2], []), ([0, 2, 4], [2], []), ([0, 2, 4], [2], []), ([0, 19], [], []), ([0, 2], [2], []), ([0, 2, 3, 4, 7],
  [2], [(0, [3])]), ([0, 1, 2, 3, 4, 6, 7, 8, 11, 21], [2], [(0, [1, 3])]), ([0, 2], [2], []), ([0, 1, 4, 5, 6, 7, 8], [4], [(0, [5])]), ([0, 2, 3, 5, 6, 7, 8, 9], [2],
  [(0, [3])]), ([0], [0], []), ([0], [0], []), ([0, 2, 4], [2], []), ([0, 1, 4, 5, 7, 22, 44], [4], []), ([0, 1, 2, 4, 6, 7, 8, 9, 22], [6, 7], []), ([0, 2, 4], [2],
  []), ([0, 2, 3, 4, 10], [2, 3], []), ([0, 1, 4], [4], []), ([0, 1, 4, 29], [], []), ([0, 2, 3, 4, 5, 7, 14], [2, 3], []), ([0, 2], [2], []), ([0, 1, 4, 5, 11, 29, 52],
  [4], [(0, [5])]), ([0, 2, 3, 6], [2, 3], []), ([0, 2, 3, 4, 6, 7, 8], [2], [(0, [3])]), ([0, 1, 4, 5, 6, 7, 8, 9, 10, 11, 18, 24, 25, 26, 37], [4, 5], [(0, [8])]),
  ([0, 1, 4, 5, 6, 7, 9, 12, 13, 14, 15, 16, 19, 27], [4, 5], [(0, [1, 6, 7])]), ([0, 1, 4, 5, 6, 7, 8, 11, 12, 14, 23, 35, 36, 37, 38], [4, 5], [(0, [0, 6, 8])]), ([0,
  1, 4, 5, 6, 7, 8, 10, 11, 14, 20, 21, 22, 26, 36, 37, 38, 41], [4], [(1, [0, 1, 4, 5, 6, 11, 14, 20, 21, 22]), (3, [])]), ([0, 1, 2, 6, 7, 8, 9, 11, 12, 14, 15, 17,
  25, 35, 36, 37, 38, 54, 55, 56, 57], [6], [(0, [0, 1, 2, 6, 7, 8, 9, 17, 25, 35, 36, 37, 38]), (2, [])]), ([0, 2, 3, 4, 5, 6, 10], [2], [(0, [3])]), ([0, 1, 4, 5, 6,
  7, 8, 9, 12, 17, 26], [4, 5], [(0, [6])]), ([0, 1, 4, 5, 6, 7, 9, 15, 16, 17, 18, 19, 28, 30], [4, 5], [(0, [1, 6, 7])]), ([0, 2, 3, 4, 5, 6, 7, 8, 9, 10, 12, 13, 20,
  26], [2], [(0, [3, 4]), (2, [0, 2, 3, 4, 6, 7, 9])]), ([0, 1, 4, 5, 6, 7, 9, 10, 11, 22, 23, 24, 25, 38, 39, 40, 41], [4], [(0, [0, 1, 4, 5, 6, 7, 22, 23, 24, 25]),
  (2, [6])]), ([0, 2, 3, 4, 6], [2], [(0, [0])]), ([0, 2, 3, 23], [], []), ([0, 2, 3, 25], [], []), ([0, 2, 4], [2], []), ([0, 2, 3, 4, 5, 8, 17, 19, 20, 36], [2], [(0,
  [4])]), ([0, 2, 3, 19], [2], [(0, [3])]), ([0, 1, 4, 5, 6, 7, 8, 10, 11, 12, 13, 30], [4], [(0, [4, 5])]), ([0, 2, 3, 4, 5, 6, 8, 10, 11, 12, 14, 15, 16, 17, 27, 38],
  [2], [(0, [3]), (2, [0, 2, 4, 5, 6, 10, 11])]), ([0, 1, 4, 5, 9], [4], []), ([0, 1, 2, 3, 4, 5, 6, 11, 12], [0], [(0, [0, 1]), (2, [0, 1, 2, 3, 5])]), ([0, 2, 3], [2],
  []), ([0, 1, 3, 4, 30, 31, 32], [], [(0, [])]), ([0, 2, 4], [2], []), ([0, 3], [], []), ([0, 2, 3, 4, 5, 6, 10, 26, 27, 28], [2, 3], [(0, [4, 5])]), ([0, 1, 4, 5, 7,
  26], [4], [(0, [0, 5])]), ([0, 2], [2], []), ([0, 2, 5], [2], []), ([0, 2, 3, 17], [], []), ([0, 1, 2, 3, 4, 5, 6, 7, 8, 11], [2], [(0, [3])]), ([0, 2, 3, 6], [2, 3],
  []), ([0, 1, 4, 5, 6, 8, 16], [4, 5], []), ([0, 2], [2], []), ([0, 2, 3, 4, 6, 9], [2], [(0, [3])]), ([0, 1, 4, 5, 18], [4, 5], []), ([0, 1, 4, 5, 6, 8, 12, 14, 15,
  16, 17], [4, 5], [(0, [6])]), ([0, 2, 3, 4, 7], [2, 3], []), ([0, 1, 3, 4, 5, 6, 7, 8, 9, 11, 12, 19, 21, 22, 23, 24, 36, 54], [4, 5], [(0, [6])]), ([0, 2, 3, 5, 6, 7,
  20], [2], [(0, [0])]), ([0, 2, 3, 4, 5, 7, 8, 9], [2], [(0, [2, 3])]), ([0, 1, 2, 6, 8, 9, 12, 27, 28, 29, 30], [6], [(1, [])]), ([0, 1, 2, 4, 5, 8], [4], []), ([0, 2,
  3, 4, 5, 6, 7, 8, 9, 18, 30, 51, 52, 53, 54, 60], [2, 3], [(1, [4]), (3, [0, 2, 3, 4, 5, 6, 9, 18])]), ([0, 1, 2, 6, 7, 8, 9, 11, 20], [6], []), ([0, 1, 4, 5, 9, 17],
  [4], [(0, [])]), ([0, 2], [2], []), ([0, 1, 4, 5, 9, 16], [4], [(0, [])]), ([0, 1, 4], [4], []), ([0, 2, 3, 5, 8], [2], []), ([0, 1, 4, 5, 6, 7, 9, 10, 11, 12, 13, 14,
  24, 25, 26, 27, 28, 29, 42, 43, 44, 46, 47, 48, 49, 58], [4], [(0, [4, 5]), (2, [0, 1, 4, 5, 6, 7, 24, 25, 26, 27, 28, 29]), (4, [0, 1, 4, 5, 6, 7, 10, 24]), (6, [0,
  1, 4, 5, 6, 7, 10, 12, 24, 25, 26, 27, 28, 29, 42, 43])]), ([0, 1, 4, 5, 6, 8, 9, 18, 19, 20, 21], [4], [(0, [5])]), ([0, 2, 3, 4, 6, 7, 16, 17, 18, 19, 22, 23, 29,
  36], [2], [(0, [3]), (2, [0, 2, 3, 6, 16, 17, 18])]), ([0, 2, 3, 4, 5, 6, 7, 12, 15, 16, 17, 18, 24, 26, 27, 28, 29], [2], [(0, [3]), (2, [0, 2, 3, 4, 5]), (4, [0, 2,
  3, 4, 5, 6, 12, 15, 16, 17])]), ([0, 2, 3, 5], [2], []), ([0, 1, 4, 5, 6, 8, 9, 10, 12, 13, 14, 24], [4], [(0, []), (2, [0, 1, 4, 8, 9])]), ([0, 1, 4], [4], []), ([0,
  1, 2, 6, 7, 8], [6], []), ([0, 1, 2, 3, 11], [2, 3], []), ([0, 1, 5], [], []), ([0, 6, 33, 42], [], []), ([0, 2, 4], [2], []), ([0, 1, 4, 6], [4], []), ([], [], []),
  ([0, 1, 4, 5], [4], []), ([0, 1, 4, 5, 7, 8, 9, 16], [4], [(0, [])]), ([0, 1, 4, 5, 6, 7, 8, 9, 10, 11, 18, 27, 40, 41], [4, 5], [(1, [4, 9])]), ([0, 1, 3, 4, 17],
  [4], []), ([0, 2, 3, 4, 5, 6, 11, 12, 13, 14], [2], [(0, [4])]), ([0, 2], [2], []), ([0, 1, 4, 6, 13, 14, 15, 16, 21, 28], [], [(0, []), (2, [0, 1, 4, 6, 13, 14, 15,
  16, 21]), (4, [0, 1, 4, 13, 14, 15])]), ([1, 2], [], []), ([0, 2, 4], [2], []), ([0, 1, 4, 5, 14], [4, 5], []), ([0, 1, 4, 5, 6, 8, 11, 12, 13, 14, 15, 25], [4, 5],
  [(0, [6])]), ([0, 1, 2], [], []), ([0, 2, 3, 4], [2], []), ([0, 1, 4, 5, 6, 7, 10], [4, 5, 6], []), ([0, 1, 4, 5, 6, 7, 8, 9, 11, 14, 15, 16, 18, 19, 20, 21, 27, 36],
  [4], [(0, [6]), (2, [0, 1, 4, 5, 6, 8, 14, 15])]), ([0, 1, 4, 5, 6, 7, 8, 9], [4], [(0, [5])]), ([0, 2, 3, 4, 5, 6, 7, 8, 9, 10, 27], [2], [(0, [3])]), ([0, 1, 4, 5,
  6, 7, 8, 9, 10, 11, 24], [4], [(0, [5])]), ([0, 2, 3, 5, 6, 7, 8, 9, 10, 14, 20, 21, 25], [2], [(0, [0, 2, 3, 7, 8, 9, 10]), (2, [])]), ([0, 1, 4, 5, 6, 7, 8, 13, 22,
  34], [4], [(0, [0, 1, 4, 5, 6, 7, 13]), (2, [5])]), ([0, 1, 2, 6, 7, 11], [6], [(0, [2, 7])]), ([0, 1, 2, 3, 10], [2], []), ([0, 1, 2, 6], [6], []), ([0, 2, 29], [],
  []), ([0], [], []), ([0, 2, 3, 65, 116], [], []), ([0, 2, 3, 35], [], []), ([0, 2, 7, 13, 70], [], []), ([], [], []), ([0, 1, 4, 5, 6, 8, 14, 17, 18, 19, 20, 29], [4,
  5], [(0, [6])]), ([0, 2, 3, 4, 5, 9, 10, 11], [2], [(0, [3])]), ([0, 1, 4, 5, 6, 7, 8, 9, 10, 11, 12, 18, 19, 20, 29, 30, 31, 32, 42, 43, 44, 48], [4], [(0, [0, 1, 4,
  5, 6, 18, 19, 20]), (2, [6]), (4, [0, 1, 4, 5, 6, 8, 10, 18, 19, 20, 29, 30, 31])]), ([0, 1, 2, 6, 7, 8, 9, 10, 12, 13, 14, 16, 18, 20, 21, 27, 28, 29, 37, 38, 39, 40,
  70, 71, 72, 73], [6, 7], [(0, [0, 1, 2, 6, 7, 8, 9, 27, 28, 29]), (2, [0, 1, 2, 6, 7, 8, 9, 27, 28, 29, 37, 38, 39, 40]), (4, [8, 18])]), ([0, 2], [2], []), ([0, 1,
  4], [4], []), ([0, 1, 3], [3], []), ([0, 1, 2, 3, 4], [0], [(0, [0, 1])]), ([0, 1, 4, 5, 12], [4], [(0, [0, 5])]), ([0, 2], [2], []), ([0, 2], [2], []), ([0, 2], [2],
  []), ([0, 1, 2, 6], [6], []), ([0, 2], [2], []), ([0, 1, 4], [4], []), ([0, 2, 3, 4, 6, 14, 15, 16, 17, 18], [2, 3], [(0, [4])]), ([0, 1, 4], [4], []), ([0, 2, 4, 6,
  8, 10], [2], []), ([0, 1, 4, 5, 7, 8, 9, 10, 11, 16], [4], [(0, [5])]), ([0, 1, 4, 5, 6, 7, 8, 9, 10, 11, 17, 18, 19], [4], [(0, [5]), (2, [0, 1, 4, 5, 8, 9, 10])]),
  ([0, 2, 3, 4, 5, 6, 7, 8, 9, 10, 11, 12, 13, 15, 18, 19, 20, 21, 39, 66, 67, 68, 69], [2], [(0, [0, 2, 3, 4, 18, 19, 20, 21]), (2, [7]), (4, [0, 2, 3, 4, 7, 8, 10, 12,
  13, 18, 19, 20, 21])]), ([0, 1, 2, 6, 8, 9, 10, 11, 12, 22], [6], [(0, [])]), ([0, 2, 3, 5, 6, 7, 8, 9, 13], [2], [(0, [3])]), ([], [], []), ([0, 1, 2, 6, 7, 8], [6],
  []), ([0, 2, 43], [], []), ([0, 2, 3, 5, 6, 7, 8, 12], [2], [(0, [3])]), ([0, 1, 4, 5, 6, 7, 8, 9, 11, 12, 13, 14, 26], [4], [(0, [5])]), ([0, 1, 4, 5, 6, 7, 22, 27,
  28, 29], [4, 5], [(0, [6])]), ([0, 2, 3, 4, 5, 6, 7, 20, 24, 25, 26, 27, 41], [2, 3], [(0, [0, 2, 3, 4, 20, 24, 25, 26, 27])]), ([0, 1, 4, 5, 7, 8, 9, 16], [4], [(0,
  [])]), ([0, 1, 4, 5, 6, 14], [4], [(0, [0, 5])]), ([0, 2], [2], []), ([0, 2], [2], []), ([0, 1, 2, 4, 5, 6], [6], []), ([0, 2, 4], [2], []), ([0, 2, 3, 4, 5, 6, 7, 8,
  9, 18], [2], [(0, [3])]), ([0, 1, 4, 5, 6, 7, 8, 9, 10, 11, 17], [4], [(0, [5])]), ([], [], []), ([], [], []), ([], [], []), ([], [], []), ([], [], []), ([], [], []),
  ([0, 1, 4, 9], [4], []), ([0, 2, 3, 4, 5, 6, 11, 12, 13, 32], [2], [(0, [0, 2, 3, 11, 12, 13]), (2, [0, 5])]), ([0, 2, 3, 5, 6, 7, 8, 9], [2], [(0, [3])]), ([0, 2, 3,
  4, 5, 9, 10, 11, 12], [2], [(0, [3])]), ([0, 1, 2, 4], [4], []), ([0, 1, 2, 3, 4], [4], []), ([], [], []), ([], [], []), ([], [], []), ([], [], []), ([], [], []), ([0,
  1, 2, 3, 4, 12, 13, 14], [2], [(0, [1, 3])]), ([0, 2, 3, 46], [2], []), ([0, 1, 2], [], []), ([], [], []), ([], [], []), ([0, 1], [], []), ([0, 1, 2, 5], [5], []),
  ([0, 1, 4, 5, 6, 11, 12, 13, 16, 19], [4], []), ([0, 1, 2, 6, 7, 8, 9, 13, 30, 35, 54], [], [(0, [0, 1, 2, 6, 7, 8, 13]), (2, []), (4, [0, 1, 2, 6, 7, 8, 13])]), ([0,
  2], [2], []), ([0, 1, 2, 3, 8, 9, 14, 34], [], [(0, []), (2, [0, 1, 2, 3, 8])]), ([0, 1, 2, 3, 4, 10, 11, 12, 13, 14, 15, 16, 17, 18, 19, 20, 21, 22, 23, 24, 28, 33,
  50, 58, 80, 85, 103, 110, 140, 151, 171, 185, 199, 213], [], [(0, [0, 1, 2, 3, 4, 10, 11, 28, 33]), (2, []), (4, [0, 1, 2, 3, 4, 14, 15, 28, 80, 85]), (6, []), (8, [0,
  1, 2, 3, 4, 18, 19, 20])]), ([0, 1, 2, 3, 4, 10, 11, 20, 23], [], [(0, [0, 2, 4, 10])]), ([0, 1, 2, 3, 10, 13], [], [(0, [])]), ([], [], []), ([], [], []), ([], [],
  []), ([], [], []), ([], [], []), ([], [], []), ([], [], []), ([], [], []), ([], [], []), ([], [], []), ([], [], []), ([], [], []), ([], [], []), ([], [], []), ([], [],
  []), ([], [], []), ([], [], []), ([], [], []), ([], [], []), ([], [], []), ([], [], []), ([], [], []), ([], [], []), ([], [], [])]
def gt (f : Nat) : Hint := gtL.getD f ([], [], [])
theorem okd : okDsts Tryz.prog = true := by kernel_rfl
abbrev ii (x : Int) : Value := .int .i64 x
abbrev i1 (x : Int) : Value := .int .u8 x
abbrev i3 (x : Int) : Value := .int .u32 x
abbrev i6 (x : Int) : Value := .int .u64 x
abbrev bT : Value := .bool true
abbrev bF : Value := .bool false
abbrev nP : Value := .pointer none
abbrev nS : Value := .slice none 0 0
abbrev RT := FuncId → Array Value → M Value
abbrev V := Value
abbrev KT := Ex → Fr → M Value
def pb : Nat → Nat → List Bool
  | 0, _ => []
  | l + 1, n => (Nat.beq (n % 2) 1) :: pb l (n / 2)
def zp : List Nat → List Value → Fr
  | [], _ => []
  | _, [] => []
  | a :: l, v :: m => (a, v) :: zp l m
noncomputable def cQ (f : Nat) (p : List Bool) (lf : Nat) (r : RT) : Fr → KT → M Value := fun s k => codeK Tryz.prog r (gt f) lf (codeAt (bodyOf Tryz.prog f) p) s k
noncomputable def tK (f : Nat) (p : List Bool) (lf : Nat) (r : RT) : KT := contAt Tryz.prog r (gt f) lf (bodyOf Tryz.prog f) p (endK Tryz.prog (resOf Tryz.prog f))
noncomputable def iK (f : Nat) (p q : List Bool) (s : List Nat) (fu : Nat) (K : KT) (lf : Nat) (r : RT) : KT := contAt Tryz.prog r (gt f) lf (codeAt (bodyOf Tryz.prog f) p) q (againK (fun x => loopK (cQ f p lf r) s fu (x.keep s) K) K)
theorem shOf {lf d : Nat} {f : FuncId} {a : Array Value} {b : RT → M Value} (s : ∀ r, evStep Tryz.prog gt lf r f a = b r) (h : KN.contains f = false) : evCall2 Tryz.prog gt lf (d + 1) f a = b (evCall2 Tryz.prog gt lf d) := by
  show (match KN.contains f with
    | true => _
    | false => evStep Tryz.prog gt lf (evCall2 Tryz.prog gt lf d) f a : M Value) = _
  rw [h]
  exact s _
theorem run_same {β : Type} {W : Nat → Prop} {n0 : Nat} {h : H} {n : Nat} {Q : β → H → Nat → Prop} {lf d : Nat} {f : FuncId} {vs : List Value} {v : Value} {W' : Nat → Prop} (s : Run W' n (evCall2 Tryz.prog gt lf d f ⟨vs⟩) h n fun v' h' n' => v' = v ∧ h' = h ∧ n' = n) (hn : n0 ≤ n) (hW : ∀ b, b < n → W' b → n0 ≤ b ∨ W b) {k : Value → M β} (x : Run W n0 (k v) h n Q) : Run W n0 (kcl (evCall2 Tryz.prog gt lf d) f vs k) h n Q := by
  refine run_call okd s hn hW fun v' h' n' _ _ hq => ?_
  obtain ⟨rfl, rfl, rfl⟩ := hq
  exact x
noncomputable section
def z3 : List Value := [(ii 0)]
def z31 : List Value := [(ii 0), (ii 0)]
def z42 : List Value := [(Value.string { data := #[] }), (i3 0), (ii 0)]
def z51 : List Value := [(ii 0), (ii 0), (Value.string { data := #[] }), (i3 0)]
def z71 : List Value := [(Value.string { data := #[] }), (Value.string { data := #[] }), bF, bF]
def z73 : List Value := [(ii 0), (ii 0), (Value.string { data := #[] })]
def z80 : List Value := [(Value.string { data := #[] }), (Value.string { data := #[] })]
def z93 : List Value := [nP, (i3 0), bF]
def z104 : List Value := [(Value.string { data := #[] }), (ii 0), (i3 0)]
def z109 : List Value := [(ii 0), (Value.string { data := #[] }), bF, nP, bF, nS, nP, (ii 0), nP, (Value.string { data := #[] }), bF, (ii 0)]
def z113 : List Value := [(i1 0), (ii 0)]
def z116 : List Value := [(Value.string { data := #[] }), (ii 0)]
def z123 : List Value := [nS, nP, (ii 0)]
def z127 : List Value := [nS, nP, (ii 0), (ii 0), nP]
def z133 : List Value := [nS, (i1 0), (ii 0)]
def z155 : List Value := [(Value.string { data := #[] }), nP, nS, nS, (ii 0)]
def z158 : List Value := (repV (i3 0) 256)
def z161 : List Value := (repV (i3 0) 257)
def z163 : List Value := [(i1 0), (ii 0)]
def z169 : List Value := (repV bF 256)
def z178 : List Value := [nS, nS]
def z184 : List Value := (repV (i3 0) 16)
def z195 : List Value := [nS, nS]
def z203 : List Value := [(ii 0), (ii 0), (ii 0)]
def z205 : List Value := (appV [(Value.string { data := #[] })] (appV [nS, nS, nS] (appV [(ii 0)] (appV [nS] (appV (repV (ii 0) 9) [bF])))))
def z211 : List Value := [nS]
def z223 : List Value := (appV [nS, nS, nS] (repV (ii 0) 43))
def z237 : List Value := [(ii 0), (ii 0), (ii 0), (ii 0), (ii 0), (ii 0)]
def z250 : List Value := [(ii 0), (ii 0), nS]
def z276 : List Value := [nS, nS, nS, (ii 0)]
theorem zr3 : z3 = [(ii 0)] := rfl
theorem zr31 : z31 = [(ii 0), (ii 0)] := rfl
theorem zr42 : z42 = [(Value.string { data := #[] }), (i3 0), (ii 0)] := rfl
theorem zr51 : z51 = [(ii 0), (ii 0), (Value.string { data := #[] }), (i3 0)] := rfl
theorem zr71 : z71 = [(Value.string { data := #[] }), (Value.string { data := #[] }), bF, bF] := rfl
theorem zr73 : z73 = [(ii 0), (ii 0), (Value.string { data := #[] })] := rfl
theorem zr80 : z80 = [(Value.string { data := #[] }), (Value.string { data := #[] })] := rfl
theorem zr93 : z93 = [nP, (i3 0), bF] := rfl
theorem zr104 : z104 = [(Value.string { data := #[] }), (ii 0), (i3 0)] := rfl
theorem zr109 : z109 = [(ii 0), (Value.string { data := #[] }), bF, nP, bF, nS, nP, (ii 0), nP, (Value.string { data := #[] }), bF, (ii 0)] := rfl
theorem zr113 : z113 = [(i1 0), (ii 0)] := rfl
theorem zr116 : z116 = [(Value.string { data := #[] }), (ii 0)] := rfl
theorem zr123 : z123 = [nS, nP, (ii 0)] := rfl
theorem zr127 : z127 = [nS, nP, (ii 0), (ii 0), nP] := rfl
theorem zr133 : z133 = [nS, (i1 0), (ii 0)] := rfl
theorem zr155 : z155 = [(Value.string { data := #[] }), nP, nS, nS, (ii 0)] := rfl
theorem zr158 : z158 = List.replicate 256 (i3 0) := repV_eq _ _
theorem zr163 : z163 = [(i1 0), (ii 0)] := rfl
theorem zr178 : z178 = [nS, nS] := rfl
theorem zr184 : z184 = [(i3 0), (i3 0), (i3 0), (i3 0), (i3 0), (i3 0), (i3 0), (i3 0), (i3 0), (i3 0), (i3 0), (i3 0), (i3 0), (i3 0), (i3 0), (i3 0)] := rfl
theorem zr195 : z195 = [nS, nS] := rfl
theorem zr203 : z203 = [(ii 0), (ii 0), (ii 0)] := rfl
theorem zr205 : z205 = [(Value.string { data := #[] }), nS, nS, nS, (ii 0), nS, (ii 0), (ii 0), (ii 0), (ii 0), (ii 0), (ii 0), (ii 0), (ii 0), (ii 0), bF] := rfl
theorem zr211 : z211 = [nS] := rfl
theorem zr237 : z237 = [(ii 0), (ii 0), (ii 0), (ii 0), (ii 0), (ii 0)] := rfl
theorem zr250 : z250 = [(ii 0), (ii 0), nS] := rfl
theorem zr276 : z276 = [nS, nS, nS, (ii 0)] := rfl

def lpA_balerlaw23_PressStops (lf : Nat) (r : RT) : Nat→((V→V→M V) × (V→M V))→V→V→V→V→V→V→V→V→V→V→M V
  | 0, _, _, _, _, _, _, _, _, _, _, _ => .fail
  | fu + 1, k, a, b, c, d, e, f, g, h, i, j => kls j (ii 10) fun l => ifV l (ksx b (some g) none fun m => kcl r 34 [e, m] fun n => kad g n fun o => kcl r 35 [e, (ii
   100000)] fun g => (timed (kcl r 36 [e] M.ret)).bind fun g => knt g.1 fun m => ifV m ((timed (M.ret undef)).bind fun n => (timed (M.ret undef)).bind fun p => (timed
   (M.ret undef)).bind fun q => (timed (M.ret undef)).bind fun s => (timed (M.ret undef)).bind fun t => (timed (M.ret undef)).bind fun u => chkT ((!(clash3 p.2 q.2) &&
   (!(clash3 p.2 s.2) && (!(clash3 p.2 t.2) && true))) && true) (k.2 bF)) ((timed (kcl r 37 [e] M.ret)).bind fun n => kne n.1 (ii 4) fun p => ifV p ((timed (M.ret
   undef)).bind fun q => (timed (M.ret undef)).bind fun s => (timed (M.ret undef)).bind fun t => (timed (M.ret undef)).bind fun u => (timed (M.ret undef)).bind fun v =>
   chkT ((!(clash3 q.2 s.2) && (!(clash3 q.2 t.2) && (!(clash3 q.2 u.2) && true))) && true) (k.2 bF)) ((timed (kcl r 38 [e] M.ret)).bind fun q => kfa 0 c fun s => (timed
   (kld s M.ret)).bind fun t => kfa 1 c fun u => (timed (kld u M.ret)).bind fun v => kfa 2 c fun w => (timed (kld w M.ret)).bind fun x => (timed (kcl r 39 [t.1, v.1,
   x.1] M.ret)).bind fun y => kgr q.1 y.1 fun z => chkT ((!(clash3 q.2 t.2) && (!(clash3 q.2 v.2) && (!(clash3 q.2 x.2) && true))) && true) (ifV z (k.2 bF) (kad j (ii 1)
   fun g => lpA_balerlaw23_PressStops lf r fu k a b c d e f o h i g))))) (k.1 c e)
def sA_balerlaw23_PressStops : List Nat := [0, 1, 2, 4, 5, 6, 7, 15, 28, 29]
def kcA_balerlaw23_PressStops (lf : Nat) (r : RT) : (V→V→M V) × (V→M V) := (fun a b => (timed (kcl r 35 [b, (ii 5)] M.ret)).bind fun c => keq c.1 (ii 0) fun d => ifV d
  ((timed (kcl r 40 [b, (ii 100)] M.ret)).bind fun e => kfa 0 a fun f => (timed (kld f M.ret)).bind fun g => kfa 0 a fun h => (timed (kld h M.ret)).bind fun i => kad i.1
  (ii 1) fun j => (timed (ksx (Value.string { data := #[48, 49, 50, 51, 52, 53, 54, 55, 56, 57] }) (some g.1) (some j) M.ret)).bind fun l => kad (Value.string { data :=
  #[66, 90, 104] }) l.1 fun m => keq e.1 m fun n => ifV n ((timed (kcl r 32 [] M.ret)).bind fun o => chkT ((!(clash3 e.2 g.2) && (!(clash3 e.2 i.2) && (!(clash3 e.2 l.2)
  && true))) && true) (outK [o.1])) ((timed (M.ret undef)).bind fun o => chkT ((!(clash3 e.2 g.2) && (!(clash3 e.2 i.2) && (!(clash3 e.2 l.2) && true))) && true) (outK
  [bF]))) ((timed (M.ret undef)).bind fun e => (timed (M.ret undef)).bind fun f => (timed (M.ret undef)).bind fun g => (timed (M.ret undef)).bind fun h => (timed (M.ret
  undef)).bind fun i => chkT ((!(clash3 e.2 f.2) && (!(clash3 e.2 g.2) && (!(clash3 e.2 h.2) && true))) && true) (outK [bF])), fun a => outK [a])
def b_balerlaw23_PressStops (lf : Nat) (r : RT) (a b : V) : M V := kbx 61 a fun c => klg 3 c fun d => kcl r 31 [d] fun e => knt e fun f => ifV f (kcl r 32 [] fun d =>
  outK [d]) (klx b fun g => kgr g (ii 120) fun h => ifV h (kcl r 32 [] fun d => outK [d]) (kfa 0 c fun d => kld d fun e => kfa 1 c fun f => kld f fun g => kfa 2 c fun i
  => kld i fun j => kcl r 33 [e, g, j] fun l => kex l 0 fun m => kex l 1 fun n => kne n (ii 0) fun d => ifV d (outK [bF]) (lpA_balerlaw23_PressStops lf r lf
  (kcA_balerlaw23_PressStops lf r) a b c bF m n (ii 0) h d (ii 0))))
theorem lqA_balerlaw23_PressStops {lf : Nat} {r : RT} (K : KT) : ∀ fu, lpA_balerlaw23_PressStops lf r fu ((fun a b => K (.exit 0) (zp [2, 5] [a, b]), fun a => K .ret (zp
  [4] [a]))) = fun a b c d e f g h i j => loopK (cQ 8 (pb 9 95) lf r) sA_balerlaw23_PressStops fu (zp sA_balerlaw23_PressStops [a, b, c, d, e, f, g, h, i, j]) K
  | 0 => by funext a b c d e f g h i j; kernel_rfl
  | fu + 1 => by
    have ih := lqA_balerlaw23_PressStops (lf := lf) (r := r) K fu
    funext a b c d e f g h i j
    rw [lpA_balerlaw23_PressStops]
    simp only [ih]
    kernel_rfl
theorem kqA_balerlaw23_PressStops {lf : Nat} {r : RT} : kcA_balerlaw23_PressStops lf r = ((fun a b => (tK 8 (pb 8 95) lf r) (.exit 0) (zp [2, 5] [a, b]), fun a => (tK 8
  (pb 8 95) lf r) .ret (zp [4] [a]))) := by kernel_rfl
theorem st_balerlaw23_PressStops {lf : Nat} {r : RT} {a b : V} : evStep Tryz.prog gt lf r 8 #[a, b] = inside (b_balerlaw23_PressStops lf r a b) := by 
  unfold b_balerlaw23_PressStops
  simp only [kqA_balerlaw23_PressStops, lqA_balerlaw23_PressStops]
  kernel_rfl

def b_balerref21_Level (lf : Nat) (r : RT) (a : V) : M V := kgq a (ii 1) fun b => ifV b (klq a (ii 9) fun c => outK [c]) (outK [bF])
theorem st_balerref21_Level {lf : Nat} {r : RT} {a : V} : evStep Tryz.prog gt lf r 12 #[a] = inside (b_balerref21_Level lf r a) := by kernel_rfl

def b_balerref21_Unit (lf : Nat) (r : RT) (a : V) : M V := kgq a (ii 24) fun b => ifV b (klq a (ii 100000) fun c => outK [c]) (outK [bF])
theorem st_balerref21_Unit {lf : Nat} {r : RT} {a : V} : evStep Tryz.prog gt lf r 13 #[a] = inside (b_balerref21_Unit lf r a) := by kernel_rfl

def lpA_balerref21_With (lf : Nat) (r : RT) : Nat→(V→V→M V)→V→V→V→V→V→V→V→V→V→M V
  | 0, _, _, _, _, _, _, _, _, _, _ => .fail
  | fu + 1, k, a, b, c, d, e, f, g, h, i => kls i h fun j => ifV j (kiy 2 g i fun l => klg 2 l fun m => kal 80 z80 fun n => ksg 2 n m fun _ => kad e (Value.string { data
   := #[48, 48, 49, 49, 48, 48, 48, 49, 48, 49, 48, 48, 48, 48, 48, 49, 48, 49, 48, 49, 49, 48, 48, 49, 48, 48, 49, 48, 48, 49, 49, 48, 48, 49, 48, 49, 48, 48, 49, 49,
   48, 49, 48, 49, 49, 48, 48, 49] }) fun l => kfa 0 n fun m => (timed (kld m M.ret)).bind fun o => (timed (klg 2 n M.ret)).bind fun p => (timed (kcl r 49 [p.1]
   M.ret)).bind fun q => (timed (kcl r 48 [o.1, q.1] M.ret)).bind fun s => kad l s.1 fun t => chkT ((!(clash3 o.2 q.2) && true) && true) (klg 2 n fun e => kcl r 49 [e]
   fun l => kb1 40 1 l fun m => kap 40 1 f m fun o => kad i (ii 1) fun e => lpA_balerref21_With lf r fu k a b c d t o g h e)) (k e f)
def sA_balerref21_With : List Nat := [0, 1, 2, 6, 7, 8, 18, 19, 20]
def kcA_balerref21_With (lf : Nat) (r : RT) : (V→V→M V) := fun a b => kcl r 51 [b] fun c => kad a c fun d => kcl r 50 [d] fun e => outK [e]
def b_balerref21_With (lf : Nat) (r : RT) (a b c : V) : M V := kcl r 22 [a] fun d => kml a b fun e => ksb e (ii 19) fun f => kcl r 47 [c, f] fun g => kln g fun h =>
  lpA_balerref21_With lf r lf (kcA_balerref21_With lf r) a b c (Value.string { data := #[] }) d nS g h (ii 0)
theorem lqA_balerref21_With {lf : Nat} {r : RT} (K : KT) : ∀ fu, lpA_balerref21_With lf r fu (fun a b => K (.exit 0) (zp [7, 8] [a, b])) = fun a b c d e f g h i => loopK
  (cQ 14 (pb 7 23) lf r) sA_balerref21_With fu (zp sA_balerref21_With [a, b, c, d, e, f, g, h, i]) K
  | 0 => by funext a b c d e f g h i; kernel_rfl
  | fu + 1 => by
    have ih := lqA_balerref21_With (lf := lf) (r := r) K fu
    funext a b c d e f g h i
    rw [lpA_balerref21_With]
    simp only [ih]
    kernel_rfl
theorem kqA_balerref21_With {lf : Nat} {r : RT} : kcA_balerref21_With lf r = (fun a b => (tK 14 (pb 6 23) lf r) (.exit 0) (zp [7, 8] [a, b])) := by kernel_rfl
theorem st_balerref21_With {lf : Nat} {r : RT} {a b c : V} : evStep Tryz.prog gt lf r 14 #[a, b, c] = inside (b_balerref21_With lf r a b c) := by 
  unfold b_balerref21_With
  simp only [kqA_balerref21_With, lqA_balerref21_With]
  kernel_rfl

def b_split_Room (lf : Nat) (r : RT) (a b : V) : M V := kls a (ii 1) fun c => ifV c (outK [(ii 0), (ii 1)]) (kgr a (ii 9) fun d => ifV d (outK [(ii 0), (ii 1)]) (kls b
  (ii 24) fun e => ifV e (outK [(ii 0), (ii 1)]) (kgr b (ii 100000) fun f => ifV f (outK [(ii 0), (ii 1)]) (kml a b fun c => ksb c (ii 19) fun d => outK [d, (ii 0)]))))
theorem st_split_Room {lf : Nat} {r : RT} {a b : V} : evStep Tryz.prog gt lf r 16 #[a, b] = inside (b_split_Room lf r a b) := by kernel_rfl

def lpA_stream_New (lf : Nat) (r : RT) : Nat→(V→V→M V)→V→V→V→V→V→V→M V
  | 0, _, _, _, _, _, _, _ => .fail
  | fu + 1, k, a, b, c, d, e, f => kls f (ii 3) fun g => ifV g (knn d fun h => kfa 0 h fun i => (timed (kld i M.ret)).bind fun j => kit (Value.string { data := #[66, 90,
   104] }) f fun l => (timed (kcv .u32 l M.ret)).bind fun m => (timed (kcl r 56 [j.1, m.1, (ii 8)] M.ret)).bind fun n => chkT ((!(clash3 j.2 m.2) && true) && true) (kad
   f (ii 1) fun h => lpA_stream_New lf r fu k a b c d e h)) (k a d)
def sA_stream_New : List Nat := [0, 2, 3, 4, 11, 15]
def kcA_stream_New (lf : Nat) (r : RT) : (V→V→M V) := fun a b => knn b fun c => kfa 0 c fun d => kld d fun e => kad (ii 48) a fun f => kcv .u32 f fun g => kcl r 56 [e, g, (ii 8)] fun h => outK [b, (ii 0)]
def b_stream_New (lf : Nat) (r : RT) (a : V) : M V := kls a (ii 1) fun b => ifV b (outK [nP, (ii 1)]) (kgr a (ii 9) fun c => ifV c (outK [nP, (ii 1)]) (kcl r 55 [] fun b
  => kbd z93 [(0, 1, b)] fun d => kbx 93 d fun e => lpA_stream_New lf r lf (kcA_stream_New lf r) a nP (ii 0) e c (ii 0)))
theorem lqA_stream_New {lf : Nat} {r : RT} (K : KT) : ∀ fu, lpA_stream_New lf r fu (fun a b => K (.exit 0) (zp [0, 4] [a, b])) = fun a b c d e f => loopK (cQ 18 (pb 7
  23) lf r) sA_stream_New fu (zp sA_stream_New [a, b, c, d, e, f]) K
  | 0 => by funext a b c d e f; kernel_rfl
  | fu + 1 => by
    have ih := lqA_stream_New (lf := lf) (r := r) K fu
    funext a b c d e f
    rw [lpA_stream_New]
    simp only [ih]
    kernel_rfl
theorem kqA_stream_New {lf : Nat} {r : RT} : kcA_stream_New lf r = (fun a b => (tK 18 (pb 6 23) lf r) (.exit 0) (zp [0, 4] [a, b])) := by kernel_rfl
theorem st_stream_New {lf : Nat} {r : RT} {a : V} : evStep Tryz.prog gt lf r 18 #[a] = inside (b_stream_New lf r a) := by 
  unfold b_stream_New
  simp only [kqA_stream_New, lqA_stream_New]
  kernel_rfl

def b_stream_Writer_Take (lf : Nat) (r : RT) (a : V) : M V := kpe a nP fun b => ifV b (outK [(Value.string { data := #[] })]) (knn a fun c => kfa 0 c fun d => kld d fun e => kcl r 58 [e] fun f => outK [f])
theorem st_stream_Writer_Take {lf : Nat} {r : RT} {a : V} : evStep Tryz.prog gt lf r 20 #[a] = inside (b_stream_Writer_Take lf r a) := by kernel_rfl

def b_stream_Writer_End (lf : Nat) (r : RT) (a : V) : M V := kpe a nP fun b => ifV b (outK [(ii 7)]) (knn a fun c => kfa 2 c fun d => kld d fun e => ifV e (outK [(ii
  7)]) (kcl r 59 [a, (i6 25779555029136)] fun b => knn a fun b => kfa 0 b fun c => kld c fun d => knn a fun f => kfa 1 f fun g => kld g fun h => kcl r 56 [d, h, (ii 32)]
  fun i => knn a fun b => kfa 0 b fun c => kld c fun d => kcl r 60 [d] fun f => knn a fun b => kfa 2 b fun c => kst c bT fun _ => outK [(ii 0)]))
theorem st_stream_Writer_End {lf : Nat} {r : RT} {a : V} : evStep Tryz.prog gt lf r 21 #[a] = inside (b_stream_Writer_End lf r a) := by kernel_rfl

def b_balerref21_Head (lf : Nat) (r : RT) (a : V) : M V := kad a (ii 1) fun b => ksx (Value.string { data := #[48, 49, 50, 51, 52, 53, 54, 55, 56, 57] }) (some a) (some
  b) fun c => kad (Value.string { data := #[66, 90, 104] }) c fun d => kcl r 61 [d] fun e => outK [e]
theorem st_balerref21_Head {lf : Nat} {r : RT} {a : V} : evStep Tryz.prog gt lf r 22 #[a] = inside (b_balerref21_Head lf r a) := by kernel_rfl

def lpA_balerref01_Bytes (lf : Nat) (r : RT) : Nat→(V→M V)→V→V→V→M V
  | 0, _, _, _, _ => .fail
  | fu + 1, k, a, b, c => klx a fun d => kgq d (ii 8) fun e => ifV e (ksx a none (some (ii 8)) fun d => kcl r 62 [d] fun f => kcv .u8 f fun g => kb1 5 1 g fun h => kts h
   fun i => kad c i fun j => ksx a (some (ii 8)) none fun c => lpA_balerref01_Bytes lf r fu k c b j) (k c)
def sA_balerref01_Bytes : List Nat := [0, 2, 3]
def kcA_balerref01_Bytes (lf : Nat) (r : RT) : (V→M V) := fun a => outK [a]
def b_balerref01_Bytes (lf : Nat) (r : RT) (a : V) : M V := lpA_balerref01_Bytes lf r lf (kcA_balerref01_Bytes lf r) a (Value.string { data := #[] }) (Value.string { data := #[] })
theorem lqA_balerref01_Bytes {lf : Nat} {r : RT} (K : KT) : ∀ fu, lpA_balerref01_Bytes lf r fu (fun a => K (.exit 0) (zp [3] [a])) = fun a b c => loopK (cQ 23 (pb 5 3)
  lf r) sA_balerref01_Bytes fu (zp sA_balerref01_Bytes [a, b, c]) K
  | 0 => by funext a b c; kernel_rfl
  | fu + 1 => by
    have ih := lqA_balerref01_Bytes (lf := lf) (r := r) K fu
    funext a b c
    rw [lpA_balerref01_Bytes]
    simp only [ih]
    kernel_rfl
theorem kqA_balerref01_Bytes {lf : Nat} {r : RT} : kcA_balerref01_Bytes lf r = (fun a => (tK 23 (pb 4 3) lf r) (.exit 0) (zp [3] [a])) := by kernel_rfl
theorem st_balerref01_Bytes {lf : Nat} {r : RT} {a : V} : evStep Tryz.prog gt lf r 23 #[a] = inside (b_balerref01_Bytes lf r a) := by 
  unfold b_balerref01_Bytes
  simp only [kqA_balerref01_Bytes, lqA_balerref01_Bytes]
  kernel_rfl

def b_stream_Writer_Turned (lf : Nat) (r : RT) (a b c d : V) : M V := kpe a nP fun e => ifV e (outK [(ii 7)]) (knn a fun f => kfa 2 f fun g => kld g fun h => ifV h (outK
  [(ii 7)]) (klx b fun e => kgr e (ii 900000) fun f => ifV f (outK [(ii 1)]) (kls c (ii 0) fun g => ifV g (outK [(ii 1)]) (klx b fun i => kgq c i fun j => ifV j (outK
  [(ii 1)]) (kcl r 59 [a, (i6 54156738319193)] fun e => knn a fun e => kfa 1 e fun f => kld f fun g => kcl r 63 [g, d] fun i => knn a fun l => kfa 1 l fun m => kst m i
  fun _ => knn a fun e => kfa 0 e fun f => kld f fun g => kcl r 64 [g, b, c, d] fun i => outK [i])))))
theorem st_stream_Writer_Turned {lf : Nat} {r : RT} {a b c d : V} : evStep Tryz.prog gt lf r 24 #[a, b, c, d] = inside (b_stream_Writer_Turned lf r a b c d) := by kernel_rfl

def lpA_balerref01_Padded (lf : Nat) (r : RT) : Nat→(V→M V)→V→V→M V
  | 0, _, _, _ => .fail
  | fu + 1, k, a, b => klx a fun c => krm c (ii 8) fun d => kne d (ii 0) fun e => ifV e (kad a (Value.string { data := #[48] }) fun c => lpA_balerref01_Padded lf r fu k c b) (k a)
def sA_balerref01_Padded : List Nat := [0, 2]
def kcA_balerref01_Padded (lf : Nat) (r : RT) : (V→M V) := fun a => outK [a]
def b_balerref01_Padded (lf : Nat) (r : RT) (a : V) : M V := lpA_balerref01_Padded lf r lf (kcA_balerref01_Padded lf r) a (Value.string { data := #[] })
theorem lqA_balerref01_Padded {lf : Nat} {r : RT} (K : KT) : ∀ fu, lpA_balerref01_Padded lf r fu (fun a => K (.exit 0) (zp [0] [a])) = fun a b => loopK (cQ 26 (pb 4 1)
  lf r) sA_balerref01_Padded fu (zp sA_balerref01_Padded [a, b]) K
  | 0 => by funext a b; kernel_rfl
  | fu + 1 => by
    have ih := lqA_balerref01_Padded (lf := lf) (r := r) K fu
    funext a b
    rw [lpA_balerref01_Padded]
    simp only [ih]
    kernel_rfl
theorem kqA_balerref01_Padded {lf : Nat} {r : RT} : kcA_balerref01_Padded lf r = (fun a => (tK 26 (pb 3 1) lf r) (.exit 0) (zp [0] [a])) := by kernel_rfl
theorem st_balerref01_Padded {lf : Nat} {r : RT} {a : V} : evStep Tryz.prog gt lf r 26 #[a] = inside (b_balerref01_Padded lf r a) := by 
  unfold b_balerref01_Padded
  simp only [kqA_balerref01_Padded, lqA_balerref01_Padded]
  kernel_rfl

def lpA_balerref02_Of (lf : Nat) (r : RT) : Nat→(V→M V)→V→V→V→V→M V
  | 0, _, _, _, _, _ => .fail
  | fu + 1, k, a, b, c, d => klx a fun e => kls d e fun f => ifV f (kit a d fun e => kcl r 67 [c, e] fun g => kad d (ii 1) fun c => lpA_balerref02_Of lf r fu k a b g c) (k c)
def sA_balerref02_Of : List Nat := [0, 2, 3, 4]
def kcA_balerref02_Of (lf : Nat) (r : RT) : (V→M V) := fun a => ksb (i3 4294967295) a fun b => outK [b]
def b_balerref02_Of (lf : Nat) (r : RT) (a : V) : M V := lpA_balerref02_Of lf r lf (kcA_balerref02_Of lf r) a (i3 0) (i3 4294967295) (ii 0)
theorem lqA_balerref02_Of {lf : Nat} {r : RT} (K : KT) : ∀ fu, lpA_balerref02_Of lf r fu (fun a => K (.exit 0) (zp [3] [a])) = fun a b c d => loopK (cQ 30 (pb 6 11) lf
  r) sA_balerref02_Of fu (zp sA_balerref02_Of [a, b, c, d]) K
  | 0 => by funext a b c d; kernel_rfl
  | fu + 1 => by
    have ih := lqA_balerref02_Of (lf := lf) (r := r) K fu
    funext a b c d
    rw [lpA_balerref02_Of]
    simp only [ih]
    kernel_rfl
theorem kqA_balerref02_Of {lf : Nat} {r : RT} : kcA_balerref02_Of lf r = (fun a => (tK 30 (pb 5 11) lf r) (.exit 0) (zp [3] [a])) := by kernel_rfl
theorem st_balerref02_Of {lf : Nat} {r : RT} {a : V} : evStep Tryz.prog gt lf r 30 #[a] = inside (b_balerref02_Of lf r a) := by 
  unfold b_balerref02_Of
  simp only [kqA_balerref02_Of, lqA_balerref02_Of]
  kernel_rfl

def b_balerlaw23_Setup_may (lf : Nat) (r : RT) (a : V) : M V := kbx 61 a fun b => kfa 0 b fun c => kld c fun d => kfa 1 b fun e => kld e fun f => kfa 2 b fun g => kld g
  fun h => kcl r 68 [d, f, h] fun i => outK [i]
theorem st_balerlaw23_Setup_may {lf : Nat} {r : RT} {a : V} : evStep Tryz.prog gt lf r 31 #[a] = inside (b_balerlaw23_Setup_may lf r a) := by kernel_rfl

def b_balerlaw23_letter (lf : Nat) (r : RT)  : M V := kcl r 33 [(ii 1), (ii 24), (ii 64)] fun a => kex a 0 fun b => kex a 1 fun c => kcl r 34 [b, (Value.string { data :=
  #[97] })] fun a => kcl r 43 [b] fun d => kcl r 40 [b, (ii 9)] fun e => kcl r 35 [b, (ii 100)] fun f => kcl r 40 [b, (ii 1000)] fun g => kcl r 35 [b, (ii 100)] fun h =>
  keq c (ii 0) fun i => ifV i (keq d (ii 0) fun j => ifV j (keq a (ii 1) fun l => ifV l (keq e (Value.string { data := #[66, 90, 104, 49] }) fun m => ifV m (keq f (ii 3)
  fun n => ifV n (keq h (ii 1) fun o => ifV o (kcl r 44 [b] fun p => ifV p (kad e g fun q => kcl r 40 [b, (ii 1000)] fun s => kad q s fun t => kcl r 14 [(ii 1), (ii 24),
  (Value.string { data := #[97] })] fun u => keq t u fun v => outK [v]) (outK [bF])) (outK [bF])) (outK [bF])) (outK [bF])) (outK [bF])) (outK [bF])) (outK [bF])
theorem st_balerlaw23_letter {lf : Nat} {r : RT}  : evStep Tryz.prog gt lf r 32 #[] = inside (b_balerlaw23_letter lf r) := by kernel_rfl

def b_press_New (lf : Nat) (r : RT) (a b c : V) : M V := kcl r 16 [a, b] fun d => kex d 0 fun e => kex d 1 fun f => kne f (ii 0) fun d => ifV d (outK [nP, (ii 1)]) (kcl
  r 69 [c] fun g => knt g fun h => ifV h (outK [nP, (ii 1)]) (kcl r 52 [e] fun d => kex d 0 fun g => kex d 1 fun i => kcl r 18 [a] fun d => kex d 0 fun i => kex d 1 fun
  j => kcl r 20 [i] fun d => kbd z109 [(0, 1, c), (3, 1, g), (8, 1, i), (9, 1, d)] fun j => kbx 109 j fun l => outK [l, (ii 0)]))
theorem st_press_New {lf : Nat} {r : RT} {a b c : V} : evStep Tryz.prog gt lf r 33 #[a, b, c] = inside (b_press_New lf r a b c) := by kernel_rfl

def b_press_Press_Feed (lf : Nat) (r : RT) (a b : V) : M V := kpe a nP fun c => ifV c (outK [(ii 0)]) (knn a fun d => kfa 2 d fun e => kld e fun f => ifV f (outK [(ii
  0)]) (klx b fun c => knn a fun d => kfa 0 d fun e => kld e fun g => knn a fun h => kfa 1 h fun i => kld i fun j => klx j fun l => ksb g l fun m => kmi c m fun n => knn
  a fun c => kfa 1 c fun d => kld d fun e => ksx b none (some n) fun g => kad e g fun h => knn a fun i => kfa 1 i fun j => kst j h fun _ => outK [n]))
theorem st_press_Press_Feed {lf : Nat} {r : RT} {a b : V} : evStep Tryz.prog gt lf r 34 #[a, b] = inside (b_press_Press_Feed lf r a b) := by kernel_rfl

def lpA_press_Press_Step (lf : Nat) (r : RT) : Nat→(V→V→M V)→V→V→V→V→M V
  | 0, _, _, _, _, _ => .fail
  | fu + 1, k, a, b, c, d => kls d b fun e => ifV e (kcl r 36 [a] fun f => knt f fun g => ifV g (ksb b d fun e => kcl r 70 [a, e] fun f => kad d f fun h =>
   lpA_press_Press_Step lf r fu k a b c h) (k a d)) (k a d)
def sA_press_Press_Step : List Nat := [0, 1, 4, 5]
def kcA_press_Press_Step (lf : Nat) (r : RT) : (V→V→M V) := fun a b => kpn a nP fun c => ifV c (knn a fun d => kfa 11 d fun e => kld e fun f => kad f b fun g => knn a
  fun h => kfa 11 h fun i => kst i g fun _ => outK [b]) (outK [b])
def b_press_Press_Step (lf : Nat) (r : RT) (a b : V) : M V := lpA_press_Press_Step lf r lf (kcA_press_Press_Step lf r) a b (ii 0) (ii 0)
theorem lqA_press_Press_Step {lf : Nat} {r : RT} (K : KT) : ∀ fu, lpA_press_Press_Step lf r fu (fun a b => K (.exit 0) (zp [0, 5] [a, b])) = fun a b c d => loopK (cQ 35
  (pb 5 3) lf r) sA_press_Press_Step fu (zp sA_press_Press_Step [a, b, c, d]) K
  | 0 => by funext a b c d; kernel_rfl
  | fu + 1 => by
    have ih := lqA_press_Press_Step (lf := lf) (r := r) K fu
    funext a b c d
    rw [lpA_press_Press_Step]
    simp only [ih]
    kernel_rfl
theorem kqA_press_Press_Step {lf : Nat} {r : RT} : kcA_press_Press_Step lf r = (fun a b => (tK 35 (pb 4 3) lf r) (.exit 0) (zp [0, 5] [a, b])) := by kernel_rfl
theorem st_press_Press_Step {lf : Nat} {r : RT} {a b : V} : evStep Tryz.prog gt lf r 35 #[a, b] = inside (b_press_Press_Step lf r a b) := by 
  unfold b_press_Press_Step
  simp only [kqA_press_Press_Step, lqA_press_Press_Step]
  kernel_rfl

def b_press_Press_Stopped (lf : Nat) (r : RT) (a : V) : M V := kpe a nP fun b => ifV b (outK [bT]) (knn a fun c => kfa 10 c fun d => kld d fun e => ifV e (outK [bT])
  (kcl r 71 [a] fun b => ifV b (knn a fun c => kfa 9 c fun d => kld d fun f => kne f (Value.string { data := #[] }) fun g => outK [g]) (kcl r 72 [a] fun c => knt c fun d
  => ifV d (knn a fun f => kfa 1 f fun g => kld g fun h => keq h (Value.string { data := #[] }) fun i => outK [i]) (outK [bF]))))
theorem st_press_Press_Stopped {lf : Nat} {r : RT} {a : V} : evStep Tryz.prog gt lf r 36 #[a] = inside (b_press_Press_Stopped lf r a) := by kernel_rfl

def b_press_Press_Waiting (lf : Nat) (r : RT) (a : V) : M V := kpe a nP fun b => ifV b (outK [(ii 0)]) (knn a fun c => kfa 9 c fun d => kld d fun e => klx e fun f => outK [f])
theorem st_press_Press_Waiting {lf : Nat} {r : RT} {a : V} : evStep Tryz.prog gt lf r 37 #[a] = inside (b_press_Press_Waiting lf r a) := by kernel_rfl

def lpA_press_Press_Held (lf : Nat) (r : RT) : Nat→(V→M V)→V→V→V→V→V→V→V→M V
  | 0, _, _, _, _, _, _, _, _ => .fail
  | fu + 1, k, a, b, c, d, e, f, g => kls g f fun h => ifV h (kiy 3 e g fun i => klg 3 i fun j => kal 42 z42 fun l => ksg 3 l j fun _ => kfa 0 l fun i => kld i fun j =>
   klx j fun m => kad c m fun n => kad g (ii 1) fun c => lpA_press_Press_Held lf r fu k a b n d e f c) (k c)
def sA_press_Press_Held : List Nat := [0, 2, 3, 7, 34, 35, 36]
def kcA_press_Press_Held (lf : Nat) (r : RT) : (V→M V) := fun a => outK [a]
def b_press_Press_Held (lf : Nat) (r : RT) (a : V) : M V := kpe a nP fun b => ifV b (outK [(ii 0)]) (knn a fun c => kfa 1 c fun d => (timed (kld d M.ret)).bind fun e =>
  klx e.1 fun f => knn a fun g => kfa 3 g fun h => (timed (kld h M.ret)).bind fun i => (timed (kcl r 73 [i.1] M.ret)).bind fun j => kad f j.1 fun l => knn a fun m => kfa
  6 m fun n => (timed (kld n M.ret)).bind fun o => (timed (kcl r 74 [o.1] M.ret)).bind fun p => kad l p.1 fun q => knn a fun s => kfa 9 s fun t => (timed (kld t
  M.ret)).bind fun u => klx u.1 fun v => kad q v fun w => chkT ((!(clash3 e.2 j.2) && (!(clash3 e.2 p.2) && true)) && ((!(clash3 j.2 o.2) && (!(clash3 j.2 u.2) && true))
  && ((!(clash3 p.2 u.2) && true) && true))) (knn a fun c => kfa 5 c fun d => kld d fun e => kln e fun f => lpA_press_Press_Held lf r lf (kcA_press_Press_Held lf r) a (ii 0) w b e f (ii 0)))
theorem lqA_press_Press_Held {lf : Nat} {r : RT} (K : KT) : ∀ fu, lpA_press_Press_Held lf r fu (fun a => K (.exit 0) (zp [3] [a])) = fun a b c d e f g => loopK (cQ 38
  (pb 7 23) lf r) sA_press_Press_Held fu (zp sA_press_Press_Held [a, b, c, d, e, f, g]) K
  | 0 => by funext a b c d e f g; kernel_rfl
  | fu + 1 => by
    have ih := lqA_press_Press_Held (lf := lf) (r := r) K fu
    funext a b c d e f g
    rw [lpA_press_Press_Held]
    simp only [ih]
    kernel_rfl
theorem kqA_press_Press_Held {lf : Nat} {r : RT} : kcA_press_Press_Held lf r = (fun a => (tK 38 (pb 6 23) lf r) (.exit 0) (zp [3] [a])) := by kernel_rfl
theorem st_press_Press_Held {lf : Nat} {r : RT} {a : V} : evStep Tryz.prog gt lf r 38 #[a] = inside (b_press_Press_Held lf r a) := by 
  unfold b_press_Press_Held
  simp only [kqA_press_Press_Held, lqA_press_Press_Held]
  kernel_rfl

def b_balerref23_Need (lf : Nat) (r : RT) (a b c : V) : M V := kml a b fun d => ksb d (ii 19) fun e => kml (ii 8) e fun d => kad c d fun f => kad f (ii 12000) fun g =>
  kml (ii 3) e fun h => kad g h fun i => kad i (ii 1024) fun j => outK [j]
theorem st_balerref23_Need {lf : Nat} {r : RT} {a b c : V} : evStep Tryz.prog gt lf r 39 #[a, b, c] = inside (b_balerref23_Need lf r a b c) := by kernel_rfl

def b_press_Press_Take (lf : Nat) (r : RT) (a b : V) : M V := kpe a nP fun c => ifV c (outK [(Value.string { data := #[] })]) (kls b (ii 1) fun d => ifV d (outK
  [(Value.string { data := #[] })]) (knn a fun c => kfa 9 c fun e => kld e fun f => klx f fun g => kmi b g fun h => knn a fun c => kfa 9 c fun e => kld e fun f => ksx f
  none (some h) fun g => knn a fun c => kfa 9 c fun e => kld e fun f => ksx f (some h) none fun i => knn a fun j => kfa 9 j fun l => kst l i fun _ => outK [g]))
theorem st_press_Press_Take {lf : Nat} {r : RT} {a b : V} : evStep Tryz.prog gt lf r 40 #[a, b] = inside (b_press_Press_Take lf r a b) := by kernel_rfl

def b_press_Press_End (lf : Nat) (r : RT) (a : V) : M V := kpe a nP fun b => ifV b (outK [(ii 7)]) (knn a fun c => kfa 2 c fun d => kld d fun e => ifV e (outK [(ii 7)])
  (knn a fun b => kfa 2 b fun c => kst c bT fun _ => kcl r 75 [a] fun b => outK [(ii 0)]))
theorem st_press_Press_End {lf : Nat} {r : RT} {a : V} : evStep Tryz.prog gt lf r 43 #[a] = inside (b_press_Press_End lf r a) := by kernel_rfl

def b_press_Press_Done (lf : Nat) (r : RT) (a : V) : M V := kpn a nP fun b => ifV b (knn a fun c => kfa 10 c fun d => kld d fun e => outK [e]) (outK [bF])
theorem st_press_Press_Done {lf : Nat} {r : RT} {a : V} : evStep Tryz.prog gt lf r 44 #[a] = inside (b_press_Press_Done lf r a) := by kernel_rfl

def lpB_balerref19_Of (lf : Nat) (r : RT) : Nat→(V→V→V→V→V→V→V→V→M V)→V→V→V→V→V→V→V→V→V→V→V→V→V→V→M V
  | 0, _, _, _, _, _, _, _, _, _, _, _, _, _, _, _ => .fail
  | fu + 1, k, a, b, c, d, e, f, g, h, i, j, l, m, n, o => kls o n fun p => ifV p (kfa 1 e fun q => kld q fun s => kfa 0 f fun t => kld t fun u => kb1 5 1 u fun v => kts
   v fun w => kad s w fun x => kfa 1 e fun y => kst y x fun _ => kad o (ii 1) fun q => lpB_balerref19_Of lf r fu k a b c d e f g h i j l m n q) (k a b c d e h i j)
def sB_balerref19_Of : List Nat := [0, 1, 4, 5, 6, 8, 9, 12, 13, 14, 15, 27, 39, 40]
def KBB_balerref19_Of (lf : Nat) (r : RT) (k : (V→V→M V)) (again : V→V→V→V→V→V→V→V→M V) : (V→V→V→V→V→V→V→V→M V) := fun a b c d e f g h => kad h (ii 1) fun i => again a b c d e f g i
def lpA_balerref19_Of (lf : Nat) (r : RT) : Nat→(V→V→M V)→V→V→V→V→V→V→V→V→M V
  | 0, _, _, _, _, _, _, _, _, _ => .fail
  | fu + 1, k, a, b, c, d, e, f, g, h => kls h g fun i => ifV i (kiy 2 f h fun j => klg 2 j fun l => kal 113 z113 fun m => ksg 2 m l fun _ => klg 2 m fun j => kcl r 78
   [j] fun l => kfa 0 e fun j => kld j fun n => klx n fun o => klx l fun p => kad o p fun q => kgr q b fun s => (fun n => ifV s (klg 2 e fun j => kb1 80 2 j fun o => kap
   80 2 d o fun p => kbd z80 [] fun j => ksg 2 e j fun _ => n p) (n d)) fun d => kfa 0 e fun j => kld j fun n => kad n l fun o => kfa 0 e fun p => kst p o fun _ => kfa 1
   m fun j => kld j fun n => lpB_balerref19_Of lf r lf (KBB_balerref19_Of lf r k (lpA_balerref19_Of lf r fu k)) a b c d e m l f g h i s n (ii 0)) (k d e)
def sA_balerref19_Of : List Nat := [0, 1, 4, 5, 6, 12, 13, 14]
def kcA_balerref19_Of (lf : Nat) (r : RT) : (V→V→M V) := fun a b => kfa 0 b fun c => kld c fun d => klx d fun e => kgr e (ii 0) fun f => ifV f (klg 2 b fun c => kb1 80 2
  c fun d => kap 80 2 a d fun e => outK [e]) (outK [a])
def b_balerref19_Of (lf : Nat) (r : RT) (a b : V) : M V := kbd z80 [] fun c => kal 80 z80 fun d => ksg 2 d c fun _ => kcl r 77 [a] fun c => kln c fun e =>
  lpA_balerref19_Of lf r lf (kcA_balerref19_Of lf r) a b nS nS d c e (ii 0)
theorem lqB_balerref19_Of {lf : Nat} {r : RT} (K : KT) : ∀ fu, lpB_balerref19_Of lf r fu (fun a b c d e f g h => K (.exit 2) (zp [0, 1, 4, 5, 6, 12, 13, 14] [a, b, c, d,
  e, f, g, h])) = fun a b c d e f g h i j l m n o => loopK (cQ 47 (pb 18 63895) lf r) sB_balerref19_Of fu (zp sB_balerref19_Of [a, b, c, d, e, f, g, h, i, j, l, m, n, o]) K
  | 0 => by funext a b c d e f g h i j l m n o; kernel_rfl
  | fu + 1 => by
    have ih := lqB_balerref19_Of (lf := lf) (r := r) K fu
    funext a b c d e f g h i j l m n o
    rw [lpB_balerref19_Of]
    simp only [ih]
    kernel_rfl
theorem kqB_balerref19_Of {lf : Nat} {r : RT} (K : KT) (fu : Nat) : KBB_balerref19_Of lf r (fun a b => K (.exit 0) (zp [5, 6] [a, b])) (fun a b c d e f g h => loopK (cQ
  47 (pb 7 23) lf r) sA_balerref19_Of fu (zp sA_balerref19_Of [a, b, c, d, e, f, g, h]) K) = (fun a b c d e f g h => (iK 47 (pb 7 23) (pb 10 499) sA_balerref19_Of fu K
  lf r) (.exit 2) (zp [0, 1, 4, 5, 6, 12, 13, 14] [a, b, c, d, e, f, g, h])) := by kernel_rfl
theorem lqA_balerref19_Of {lf : Nat} {r : RT} (K : KT) : ∀ fu, lpA_balerref19_Of lf r fu (fun a b => K (.exit 0) (zp [5, 6] [a, b])) = fun a b c d e f g h => loopK (cQ
  47 (pb 7 23) lf r) sA_balerref19_Of fu (zp sA_balerref19_Of [a, b, c, d, e, f, g, h]) K
  | 0 => by funext a b c d e f g h; kernel_rfl
  | fu + 1 => by
    have ih := lqA_balerref19_Of (lf := lf) (r := r) K fu
    funext a b c d e f g h
    rw [lpA_balerref19_Of]
    simp only [ih, kqB_balerref19_Of, lqB_balerref19_Of]
    kernel_rfl
theorem kqA_balerref19_Of {lf : Nat} {r : RT} : kcA_balerref19_Of lf r = (fun a b => (tK 47 (pb 6 23) lf r) (.exit 0) (zp [5, 6] [a, b])) := by kernel_rfl
theorem st_balerref19_Of {lf : Nat} {r : RT} {a b : V} : evStep Tryz.prog gt lf r 47 #[a, b] = inside (b_balerref19_Of lf r a b) := by 
  unfold b_balerref19_Of
  simp only [kqA_balerref19_Of, lqA_balerref19_Of]
  kernel_rfl

def b_balerref20_Write (lf : Nat) (r : RT) (a b : V) : M V := kcl r 79 [a] fun c => kal 116 z116 fun d => ksg 2 d c fun _ => kfa 0 d fun c => kld c fun e => kfa 1 d fun
  f => kld f fun g => kbd z104 [(0, 1, e), (1, 1, g), (2, 1, b)] fun h => kcl r 65 [h] fun i => outK [i]
theorem st_balerref20_Write {lf : Nat} {r : RT} {a b : V} : evStep Tryz.prog gt lf r 48 #[a, b] = inside (b_balerref20_Write lf r a b) := by kernel_rfl

def b_balerref19_Block_Sum (lf : Nat) (r : RT) (a : V) : M V := kbx 80 a fun b => kfa 1 b fun c => kld c fun d => kcl r 30 [d] fun e => outK [e]
theorem st_balerref19_Block_Sum {lf : Nat} {r : RT} {a : V} : evStep Tryz.prog gt lf r 49 #[a] = inside (b_balerref19_Block_Sum lf r a) := by kernel_rfl

def b_balerref01_Pack (lf : Nat) (r : RT) (a : V) : M V := kcl r 26 [a] fun b => kcl r 23 [b] fun c => outK [c]
theorem st_balerref01_Pack {lf : Nat} {r : RT} {a : V} : evStep Tryz.prog gt lf r 50 #[a] = inside (b_balerref01_Pack lf r a) := by kernel_rfl

def b_balerref21_Tail (lf : Nat) (r : RT) (a : V) : M V := kcl r 81 [a] fun b => kcl r 80 [b, (ii 32)] fun c => kad (Value.string { data := #[48, 48, 48, 49, 48, 49, 49,
  49, 48, 49, 49, 49, 48, 48, 49, 48, 48, 49, 48, 48, 48, 49, 48, 49, 48, 48, 49, 49, 49, 48, 48, 48, 48, 49, 48, 49, 48, 48, 48, 48, 49, 48, 48, 49, 48, 48, 48, 48] }) c fun d => outK [d]
theorem st_balerref21_Tail {lf : Nat} {r : RT} {a : V} : evStep Tryz.prog gt lf r 51 #[a] = inside (b_balerref21_Tail lf r a) := by kernel_rfl

def b_split_New (lf : Nat) (r : RT) (a : V) : M V := kls a (ii 5) fun b => ifV b (outK [nP, (ii 1)]) (kgr a (ii 900000) fun c => ifV c (outK [nP, (ii 1)]) (kcl r 82 []
  fun b => kbd z123 [(1, 1, b)] fun d => kcl r 83 [] fun e => kbd z127 [(0, 3, d), (3, 1, a), (4, 1, e)] fun f => kbx 127 f fun g => outK [g, (ii 0)]))
theorem st_split_New {lf : Nat} {r : RT} {a : V} : evStep Tryz.prog gt lf r 52 #[a] = inside (b_split_New lf r a) := by kernel_rfl

def b_split_Splitter_Put (lf : Nat) (r : RT) (a b : V) : M V := kal 42 z42 fun c => kpe a nP fun d => ifV d (kbd z42 [] fun e => ksg 3 c e fun _ => klg 3 c fun a => outK
  [a, bF]) (knn a fun e => kfa 4 e fun f => kld f fun g => kcl r 84 [g] fun h => kal 113 z113 fun i => ksg 2 i h fun _ => knn a fun e => kfa 4 e fun f => kld f fun g =>
  kcl r 85 [g, b] fun h => keq h (Value.string { data := #[] }) fun e => ifV e (kbd z42 [] fun f => ksg 3 c f fun _ => klg 3 c fun a => outK [a, bF]) (kfa 0 i fun f =>
  kld f fun g => keq g b fun j => (fun f => ifV j (kfa 1 i fun g => kld g fun l => kad l (ii 1) fun m => kfa 1 i fun n => kst n m fun _ => f) (f)) (klg 2 i fun f => klx
  h fun g => kcl r 86 [a, f, g] fun l => kex l 0 fun m => kex l 1 fun n => ksg 3 c m fun _ => klg 3 c fun a => outK [a, n])))
theorem st_split_Splitter_Put {lf : Nat} {r : RT} {a b : V} : evStep Tryz.prog gt lf r 53 #[a, b] = inside (b_split_Splitter_Put lf r a b) := by kernel_rfl

def b_split_Splitter_End (lf : Nat) (r : RT) (a : V) : M V := kpe a nP fun b => ifV b (outK [nS]) (knn a fun c => kfa 4 c fun d => kld d fun e => kcl r 84 [e] fun f =>
  kal 113 z113 fun g => ksg 2 g f fun _ => knn a fun c => kfa 4 c fun d => kld d fun e => kcl r 87 [e] fun f => kne f (Value.string { data := #[] }) fun c => (fun d =>
  ifV c (klg 2 g fun e => klx f fun h => kcl r 86 [a, e, h] fun i => kex i 0 fun j => kex i 1 fun l => kal 42 z42 fun m => ksg 3 m j fun _ => ifV l (klg 3 m fun e => kb1
  42 3 e fun h => kap 42 3 nS h fun i => d i) (d nS)) (d nS)) fun d => knn a fun e => kfa 0 e fun h => kcl r 88 [h] fun i => kex i 0 fun j => kex i 1 fun l => kal 42 z42
  fun m => ksg 3 m j fun _ => ifV l (klg 3 m fun e => kb1 42 3 e fun h => kap 42 3 d h fun i => outK [i]) (outK [d]))
theorem st_split_Splitter_End {lf : Nat} {r : RT} {a : V} : evStep Tryz.prog gt lf r 54 #[a] = inside (b_split_Splitter_End lf r a) := by kernel_rfl

def b_bits_NewWriter (lf : Nat) (r : RT)  : M V := kbd z133 [] fun a => kbx 133 a fun b => outK [b]
theorem st_bits_NewWriter {lf : Nat} {r : RT}  : evStep Tryz.prog gt lf r 55 #[] = inside (b_bits_NewWriter lf r) := by kernel_rfl

def lpA_bits_Writer_Put (lf : Nat) (r : RT) : Nat→(M V)→V→V→V→V→V→V→V→V→M V
  | 0, _, _, _, _, _, _, _, _, _ => .fail
  | fu + 1, k, a, b, c, d, e, f, g, h => kls h g fun i => ifV i (ksb c (ii 1) fun j => ksb j h fun l => ksr b l fun m => kan m (i3 1) fun n => kcv .u8 n fun o => kcl r
   90 [a, o] fun p => kad h (ii 1) fun j => lpA_bits_Writer_Put lf r fu k a b c d e f g j) (k)
def sA_bits_Writer_Put : List Nat := [0, 1, 2, 6, 8, 11, 16, 17]
def kcA_bits_Writer_Put (lf : Nat) (r : RT) : (M V) := outK [(ii 0)]
def b_bits_Writer_Put (lf : Nat) (r : RT) (a b c : V) : M V := kpe a nP fun d => ifV d (outK [(ii 7)]) (kcl r 89 [b, c] fun e => knt e fun f => ifV f (outK [(ii 1)])
  (lpA_bits_Writer_Put lf r lf (kcA_bits_Writer_Put lf r) a b c (ii 0) d f c (ii 0)))
theorem lqA_bits_Writer_Put {lf : Nat} {r : RT} (K : KT) : ∀ fu, lpA_bits_Writer_Put lf r fu (K (.exit 1) []) = fun a b c d e f g h => loopK (cQ 56 (pb 6 11) lf r)
  sA_bits_Writer_Put fu (zp sA_bits_Writer_Put [a, b, c, d, e, f, g, h]) K
  | 0 => by funext a b c d e f g h; kernel_rfl
  | fu + 1 => by
    have ih := lqA_bits_Writer_Put (lf := lf) (r := r) K fu
    funext a b c d e f g h
    rw [lpA_bits_Writer_Put]
    simp only [ih]
    kernel_rfl
theorem kqA_bits_Writer_Put {lf : Nat} {r : RT} : kcA_bits_Writer_Put lf r = ((tK 56 (pb 5 11) lf r) (.exit 1) []) := by kernel_rfl
theorem st_bits_Writer_Put {lf : Nat} {r : RT} {a b c : V} : evStep Tryz.prog gt lf r 56 #[a, b, c] = inside (b_bits_Writer_Put lf r a b c) := by 
  unfold b_bits_Writer_Put
  simp only [kqA_bits_Writer_Put, lqA_bits_Writer_Put]
  kernel_rfl

def b_bits_Writer_Take (lf : Nat) (r : RT) (a : V) : M V := kpe a nP fun b => ifV b (outK [(Value.string { data := #[] })]) (knn a fun c => kfa 0 c fun d => kld d fun e
  => kts e fun f => knn a fun c => kfa 0 c fun d => kst d nS fun _ => outK [f])
theorem st_bits_Writer_Take {lf : Nat} {r : RT} {a : V} : evStep Tryz.prog gt lf r 58 #[a] = inside (b_bits_Writer_Take lf r a) := by kernel_rfl

def b_stream_Writer_magic (lf : Nat) (r : RT) (a b : V) : M V := knn a fun c => kfa 0 c fun d => kld d fun e => ksr b (i6 24) fun f => kcv .u32 f fun g => kcl r 56 [e,
  g, (ii 24)] fun h => knn a fun c => kfa 0 c fun d => kld d fun e => kan b (i6 16777215) fun f => kcv .u32 f fun g => kcl r 56 [e, g, (ii 24)] fun h => outK []
theorem st_stream_Writer_magic {lf : Nat} {r : RT} {a b : V} : evStep Tryz.prog gt lf r 59 #[a, b] = inside (b_stream_Writer_magic lf r a b) := by kernel_rfl

def lpA_bits_Writer_Pad (lf : Nat) (r : RT) : Nat→(M V)→V→M V
  | 0, _, _ => .fail
  | fu + 1, k, a => kpn a nP fun b => ifV b (knn a fun c => kfa 2 c fun d => kld d fun e => krm e (ii 8) fun f => kne f (ii 0) fun g => ifV g (kcl r 90 [a, (i1 0)] fun b
   => lpA_bits_Writer_Pad lf r fu k a) (k)) (k)
def sA_bits_Writer_Pad : List Nat := [0]
def kcA_bits_Writer_Pad (lf : Nat) (r : RT) : (M V) := outK []
def b_bits_Writer_Pad (lf : Nat) (r : RT) (a : V) : M V := lpA_bits_Writer_Pad lf r lf (kcA_bits_Writer_Pad lf r) a
theorem lqA_bits_Writer_Pad {lf : Nat} {r : RT} (K : KT) : ∀ fu, lpA_bits_Writer_Pad lf r fu (K (.exit 0) []) = fun a => loopK (cQ 60 (pb 2 0) lf r) sA_bits_Writer_Pad fu (zp sA_bits_Writer_Pad [a]) K
  | 0 => by funext a; kernel_rfl
  | fu + 1 => by
    have ih := lqA_bits_Writer_Pad (lf := lf) (r := r) K fu
    funext a
    rw [lpA_bits_Writer_Pad]
    simp only [ih]
    kernel_rfl
theorem kqA_bits_Writer_Pad {lf : Nat} {r : RT} : kcA_bits_Writer_Pad lf r = ((tK 60 (pb 1 0) lf r) (.exit 0) []) := by kernel_rfl
theorem st_bits_Writer_Pad {lf : Nat} {r : RT} {a : V} : evStep Tryz.prog gt lf r 60 #[a] = inside (b_bits_Writer_Pad lf r a) := by 
  unfold b_bits_Writer_Pad
  simp only [kqA_bits_Writer_Pad, lqA_bits_Writer_Pad]
  kernel_rfl

def lpA_balerref01_Bits (lf : Nat) (r : RT) : Nat→(V→M V)→V→V→V→V→M V
  | 0, _, _, _, _, _ => .fail
  | fu + 1, k, a, b, c, d => klx a fun e => kls d e fun f => ifV f (kit a d fun e => kcv .u32 e fun g => kcl r 80 [g, (ii 8)] fun h => kad c h fun i => kad d (ii 1) fun
   c => lpA_balerref01_Bits lf r fu k a b i c) (k c)
def sA_balerref01_Bits : List Nat := [0, 2, 3, 4]
def kcA_balerref01_Bits (lf : Nat) (r : RT) : (V→M V) := fun a => outK [a]
def b_balerref01_Bits (lf : Nat) (r : RT) (a : V) : M V := lpA_balerref01_Bits lf r lf (kcA_balerref01_Bits lf r) a (Value.string { data := #[] }) (Value.string { data := #[] }) (ii 0)
theorem lqA_balerref01_Bits {lf : Nat} {r : RT} (K : KT) : ∀ fu, lpA_balerref01_Bits lf r fu (fun a => K (.exit 0) (zp [3] [a])) = fun a b c d => loopK (cQ 61 (pb 6 11)
  lf r) sA_balerref01_Bits fu (zp sA_balerref01_Bits [a, b, c, d]) K
  | 0 => by funext a b c d; kernel_rfl
  | fu + 1 => by
    have ih := lqA_balerref01_Bits (lf := lf) (r := r) K fu
    funext a b c d
    rw [lpA_balerref01_Bits]
    simp only [ih]
    kernel_rfl
theorem kqA_balerref01_Bits {lf : Nat} {r : RT} : kcA_balerref01_Bits lf r = (fun a => (tK 61 (pb 5 11) lf r) (.exit 0) (zp [3] [a])) := by kernel_rfl
theorem st_balerref01_Bits {lf : Nat} {r : RT} {a : V} : evStep Tryz.prog gt lf r 61 #[a] = inside (b_balerref01_Bits lf r a) := by 
  unfold b_balerref01_Bits
  simp only [kqA_balerref01_Bits, lqA_balerref01_Bits]
  kernel_rfl

def lpA_balerref01_Number (lf : Nat) (r : RT) : Nat→(V→M V)→V→V→V→V→M V
  | 0, _, _, _, _, _ => .fail
  | fu + 1, k, a, b, c, d => klx a fun e => kls d e fun f => ifV f (kml (i3 2) c fun e => kit a d fun g => ksb g (i1 48) fun h => kcv .u32 h fun i => kad e i fun j =>
   kad d (ii 1) fun c => lpA_balerref01_Number lf r fu k a b j c) (k c)
def sA_balerref01_Number : List Nat := [0, 2, 3, 4]
def kcA_balerref01_Number (lf : Nat) (r : RT) : (V→M V) := fun a => outK [a]
def b_balerref01_Number (lf : Nat) (r : RT) (a : V) : M V := lpA_balerref01_Number lf r lf (kcA_balerref01_Number lf r) a (i3 0) (i3 0) (ii 0)
theorem lqA_balerref01_Number {lf : Nat} {r : RT} (K : KT) : ∀ fu, lpA_balerref01_Number lf r fu (fun a => K (.exit 0) (zp [3] [a])) = fun a b c d => loopK (cQ 62 (pb 6
  11) lf r) sA_balerref01_Number fu (zp sA_balerref01_Number [a, b, c, d]) K
  | 0 => by funext a b c d; kernel_rfl
  | fu + 1 => by
    have ih := lqA_balerref01_Number (lf := lf) (r := r) K fu
    funext a b c d
    rw [lpA_balerref01_Number]
    simp only [ih]
    kernel_rfl
theorem kqA_balerref01_Number {lf : Nat} {r : RT} : kcA_balerref01_Number lf r = (fun a => (tK 62 (pb 5 11) lf r) (.exit 0) (zp [3] [a])) := by kernel_rfl
theorem st_balerref01_Number {lf : Nat} {r : RT} {a : V} : evStep Tryz.prog gt lf r 62 #[a] = inside (b_balerref01_Number lf r a) := by 
  unfold b_balerref01_Number
  simp only [kqA_balerref01_Number, lqA_balerref01_Number]
  kernel_rfl

def b_crc_Combine (lf : Nat) (r : RT) (a b : V) : M V := ksl a (i6 1) fun c => ksr a (i6 31) fun d => kxo c d fun e => kxo e b fun f => outK [f]
theorem st_crc_Combine {lf : Nat} {r : RT} {a b : V} : evStep Tryz.prog gt lf r 63 #[a, b] = inside (b_crc_Combine lf r a b) := by kernel_rfl

def b_block_Turned (lf : Nat) (r : RT) (a b c d : V) : M V := kpe a nP fun e => ifV e (outK [(ii 7)]) (keq b (Value.string { data := #[] }) fun f => ifV f (outK [(ii
  1)]) (klx b fun g => kgr g (ii 900000) fun h => ifV h (outK [(ii 1)]) (kls c (ii 0) fun i => ifV i (outK [(ii 1)]) (klx b fun j => kgq c j fun l => ifV l (outK [(ii
  1)]) (kcl r 95 [b] fun f => kcl r 96 [b, f] fun g => kex g 0 fun h => kex g 1 fun i => klx f fun g => kcl r 97 [h, g] fun i => kex i 0 fun j => kex i 1 fun m => klx f
  fun g => kad g (ii 2) fun i => kcl r 98 [j, i] fun m => kex m 0 fun n => kex m 1 fun o => kne o (ii 0) fun g => ifV g (outK [o]) (kcl r 56 [a, d, (ii 32)] fun i => kcl
  r 56 [a, (i3 0), (ii 1)] fun i => kcv .u32 c fun i => kcl r 56 [a, i, (ii 24)] fun m => kcl r 99 [a, f] fun i => klx f fun i => kad i (ii 2) fun m => kcl r 100 [a, j, m] fun n => outK [n]))))))
theorem st_block_Turned {lf : Nat} {r : RT} {a b c d : V} : evStep Tryz.prog gt lf r 64 #[a, b, c, d] = inside (b_block_Turned lf r a b c d) := by kernel_rfl

def b_balerref20_Bits (lf : Nat) (r : RT) (a : V) : M V := kbx 104 a fun b => kfa 0 b fun c => kld c fun d => kcl r 101 [d] fun e => kfa 0 b fun c => kld c fun d => kcl
  r 102 [d, e] fun f => kex f 0 fun g => kex f 1 fun h => klx e fun c => kcl r 103 [g, c] fun d => kex d 0 fun f => kex d 1 fun h => kfa 2 b fun c => (timed (kld c
  M.ret)).bind fun d => (timed (kcl r 80 [d.1, (ii 32)] M.ret)).bind fun h => kad h.1 (Value.string { data := #[48] }) fun i => kfa 1 b fun j => (timed (kld j
  M.ret)).bind fun l => (timed (kcv .u32 l.1 M.ret)).bind fun m => (timed (kcl r 80 [m.1, (ii 24)] M.ret)).bind fun n => kad i n.1 fun o => (timed (kcl r 104 [e]
  M.ret)).bind fun p => kad o p.1 fun q => klx e fun s => kad s (ii 2) fun t => (timed (kcl r 105 [f, t] M.ret)).bind fun u => kad q u.1 fun v => chkT ((!(clash3 d.2
  m.2) && true) && ((!(clash3 h.2 l.2) && (!(clash3 h.2 m.2) && true)) && true)) (outK [v])
theorem st_balerref20_Bits {lf : Nat} {r : RT} {a : V} : evStep Tryz.prog gt lf r 65 #[a] = inside (b_balerref20_Bits lf r a) := by kernel_rfl

def b_balerref02_Step (lf : Nat) (r : RT) (a b : V) : M V := kcv .u32 b fun c => kml c (i3 16777216) fun d => kxo a d fun e => kcl r 106 [e] fun f => outK [f]
theorem st_balerref02_Step {lf : Nat} {r : RT} {a b : V} : evStep Tryz.prog gt lf r 67 #[a, b] = inside (b_balerref02_Step lf r a b) := by kernel_rfl

def b_balerref23_May (lf : Nat) (r : RT) (a b c : V) : M V := kcl r 12 [a] fun d => ifV d (kcl r 13 [b] fun e => ifV e (kgq c (ii 64) fun f => ifV f (klq c (ii 1048576)
  fun g => outK [g]) (outK [bF])) (outK [bF])) (outK [bF])
theorem st_balerref23_May {lf : Nat} {r : RT} {a b c : V} : evStep Tryz.prog gt lf r 68 #[a, b, c] = inside (b_balerref23_May lf r a b c) := by kernel_rfl

def b_press_windowed (lf : Nat) (r : RT) (a : V) : M V := kgq a (ii 64) fun b => ifV b (klq a (ii 1048576) fun c => outK [c]) (outK [bF])
theorem st_press_windowed {lf : Nat} {r : RT} {a : V} : evStep Tryz.prog gt lf r 69 #[a] = inside (b_press_windowed lf r a) := by kernel_rfl

def b_press_Press_work (lf : Nat) (r : RT) (a b : V) : M V := kcl r 72 [a] fun c => (fun d => ifV c (knn a fun e => kfa 6 e fun f => kld f fun g => kpe g nP fun h => ifV
  h (knn a fun e => kfa 5 e fun f => kld f fun g => kiy 3 g (ii 0) fun i => kfa 0 i fun j => kld j fun l => kcl r 91 [l] fun m => kex m 0 fun n => kex m 1 fun o => knn a
  fun e => kfa 6 e fun f => kst f n fun _ => knn a fun e => kfa 6 e fun f => kld f fun g => kcl r 92 [g] fun i => knt i fun j => ifV j (knn a fun e => kfa 6 e fun f =>
  kld f fun g => kcl r 93 [g, b] fun i => outK [i]) (kcl r 107 [a] fun e => d)) (knn a fun e => kfa 6 e fun f => kld f fun g => kcl r 92 [g] fun i => knt i fun j => ifV
  j (knn a fun e => kfa 6 e fun f => kld f fun g => kcl r 93 [g, b] fun i => outK [i]) (kcl r 107 [a] fun e => d))) (knn a fun e => kfa 1 e fun f => kld f fun g => kne g
  (Value.string { data := #[] }) fun h => ifV h (kcl r 108 [a] fun e => d) (knn a fun e => kfa 8 e fun f => kld f fun g => kcl r 21 [g] fun i => knn a fun e => kfa 9 e
  fun f => (timed (kld f M.ret)).bind fun g => knn a fun i => kfa 8 i fun j => (timed (kld j M.ret)).bind fun l => (timed (kcl r 20 [l.1] M.ret)).bind fun m => kad g.1
  m.1 fun n => knn a fun o => kfa 9 o fun p => (timed (kst p n M.ret)).bind fun q => chkT ((!(clash3 g.2 m.2) && true) && true) (knn a fun e => kfa 10 e fun f => kst f bT fun _ => d)))) (outK [(ii 1)])
theorem st_press_Press_work {lf : Nat} {r : RT} {a b : V} : evStep Tryz.prog gt lf r 70 #[a, b] = inside (b_press_Press_work lf r a b) := by kernel_rfl

def b_press_Press_writes (lf : Nat) (r : RT) (a : V) : M V := kcl r 72 [a] fun b => ifV b (knn a fun c => kfa 6 c fun d => kld d fun e => kpn e nP fun f => ifV f (knn a
  fun g => kfa 6 g fun h => kld h fun i => kcl r 92 [i] fun j => ifV j (knn a fun l => kfa 7 l fun m => kld m fun n => knn a fun o => kfa 5 o fun p => kld p fun q => kiy
  3 q (ii 0) fun s => kfa 0 s fun t => kld t fun u => klx u fun v => ksb v (ii 1) fun w => keq n w fun x => outK [x]) (outK [bF])) (outK [bF])) (knn a fun c => kfa 4 c fun d => kld d fun e => outK [e])
theorem st_press_Press_writes {lf : Nat} {r : RT} {a : V} : evStep Tryz.prog gt lf r 71 #[a] = inside (b_press_Press_writes lf r a) := by kernel_rfl

def b_press_Press_whole (lf : Nat) (r : RT) (a : V) : M V := knn a fun b => kfa 5 b fun c => kld c fun d => kln d fun e => kgr e (ii 0) fun f => outK [f]
theorem st_press_Press_whole {lf : Nat} {r : RT} {a : V} : evStep Tryz.prog gt lf r 72 #[a] = inside (b_press_Press_whole lf r a) := by kernel_rfl

def b_split_Splitter_Held (lf : Nat) (r : RT) (a : V) : M V := kpe a nP fun b => ifV b (outK [(ii 0)]) (knn a fun c => kfa 0 c fun d => kfa 0 d fun e => (timed (kld e
  M.ret)).bind fun f => kln f.1 fun g => knn a fun h => kfa 4 h fun i => (timed (kld i M.ret)).bind fun j => (timed (kcl r 84 [j.1] M.ret)).bind fun l => kfd 1 l.1 fun m
  => kmi m (ii 1) fun n => kad g n fun o => chkT ((!(clash3 f.2 l.2) && true) && true) (outK [o]))
theorem st_split_Splitter_Held {lf : Nat} {r : RT} {a : V} : evStep Tryz.prog gt lf r 73 #[a] = inside (b_split_Splitter_Held lf r a) := by kernel_rfl

def b_bwt_Turner_Held (lf : Nat) (r : RT) (a : V) : M V := kpe a nP fun b => ifV b (outK [(ii 0)]) (knn a fun c => kfa 1 c fun d => (timed (kld d M.ret)).bind fun e =>
  (timed (kcl r 109 [e.1] M.ret)).bind fun f => knn a fun g => kfa 3 g fun h => (timed (kld h M.ret)).bind fun i => kln i.1 fun j => kad f.1 j fun l => chkT ((!(clash3 f.2 i.2) && true) && true) (outK [l]))
theorem st_bwt_Turner_Held {lf : Nat} {r : RT} {a : V} : evStep Tryz.prog gt lf r 74 #[a] = inside (b_bwt_Turner_Held lf r a) := by kernel_rfl

def b_press_Press_flush (lf : Nat) (r : RT) (a : V) : M V := knn a fun b => kfa 2 b fun c => kld c fun d => ifV d (knn a fun e => kfa 1 e fun f => kld f fun g => keq g
  (Value.string { data := #[] }) fun h => ifV h (knn a fun i => kfa 4 i fun j => kld j fun l => knt l fun m => ifV m (knn a fun b => kfa 5 b fun c => (timed (kld c
  M.ret)).bind fun d => knn a fun e => kfa 3 e fun f => (timed (kld f M.ret)).bind fun g => (timed (kcl r 54 [g.1] M.ret)).bind fun h => (timed (kap 42 3 d.1 h.1
  M.ret)).bind fun i => knn a fun j => kfa 5 j fun l => (timed (kst l i.1 M.ret)).bind fun n => chkT ((!(clash3 d.2 h.2) && true) && true) (knn a fun b => kfa 4 b fun c
  => kst c bT fun _ => outK [])) (outK [])) (outK [])) (outK [])
theorem st_press_Press_flush {lf : Nat} {r : RT} {a : V} : evStep Tryz.prog gt lf r 75 #[a] = inside (b_press_Press_flush lf r a) := by kernel_rfl

def lpA_balerref03_Pieces (lf : Nat) (r : RT) : Nat→(V→M V)→V→V→V→M V
  | 0, _, _, _, _ => .fail
  | fu + 1, k, a, b, c => klx a fun d => kgr d (ii 0) fun e => ifV e (kcl r 111 [a] fun d => kit a (ii 0) fun f => kbd z113 [(0, 1, f), (1, 1, d)] fun g => kb1 113 2 g
   fun h => kap 113 2 c h fun i => ksx a (some d) none fun c => lpA_balerref03_Pieces lf r fu k c b i) (k c)
def sA_balerref03_Pieces : List Nat := [0, 2, 3]
def kcA_balerref03_Pieces (lf : Nat) (r : RT) : (V→M V) := fun a => outK [a]
def b_balerref03_Pieces (lf : Nat) (r : RT) (a : V) : M V := lpA_balerref03_Pieces lf r lf (kcA_balerref03_Pieces lf r) a nS nS
theorem lqA_balerref03_Pieces {lf : Nat} {r : RT} (K : KT) : ∀ fu, lpA_balerref03_Pieces lf r fu (fun a => K (.exit 0) (zp [3] [a])) = fun a b c => loopK (cQ 77 (pb 5 3)
  lf r) sA_balerref03_Pieces fu (zp sA_balerref03_Pieces [a, b, c]) K
  | 0 => by funext a b c; kernel_rfl
  | fu + 1 => by
    have ih := lqA_balerref03_Pieces (lf := lf) (r := r) K fu
    funext a b c
    rw [lpA_balerref03_Pieces]
    simp only [ih]
    kernel_rfl
theorem kqA_balerref03_Pieces {lf : Nat} {r : RT} : kcA_balerref03_Pieces lf r = (fun a => (tK 77 (pb 4 3) lf r) (.exit 0) (zp [3] [a])) := by kernel_rfl
theorem st_balerref03_Pieces {lf : Nat} {r : RT} {a : V} : evStep Tryz.prog gt lf r 77 #[a] = inside (b_balerref03_Pieces lf r a) := by 
  unfold b_balerref03_Pieces
  simp only [kqA_balerref03_Pieces, lqA_balerref03_Pieces]
  kernel_rfl

def lpA_balerref03_Piece (lf : Nat) (r : RT) : Nat→(V→V→M V)→V→V→V→V→V→V→M V
  | 0, _, _, _, _, _, _, _ => .fail
  | fu + 1, k, a, b, c, d, e, f => kls f e fun g => ifV g (kls f (ii 4) fun h => ifV h (kfa 0 b fun i => kld i fun j => kb1 5 1 j fun l => kts l fun m => kad d m fun n
   => kad f (ii 1) fun d => lpA_balerref03_Piece lf r fu k a b c n e d) (kad f (ii 1) fun i => lpA_balerref03_Piece lf r fu k a b c d e i)) (k b d)
def sA_balerref03_Piece : List Nat := [0, 1, 2, 3, 6, 7]
def kcA_balerref03_Piece (lf : Nat) (r : RT) : (V→V→M V) := fun a b => kfa 1 a fun c => kld c fun d => kgq d (ii 4) fun e => ifV e (kfa 1 a fun c => kld c fun d => ksb d
  (ii 4) fun f => kcv .u8 f fun g => kb1 5 1 g fun h => kts h fun i => kad b i fun j => outK [j]) (outK [b])
def b_balerref03_Piece (lf : Nat) (r : RT) (a : V) : M V := kbx 113 a fun b => kfa 1 b fun c => kld c fun d => lpA_balerref03_Piece lf r lf (kcA_balerref03_Piece lf r) a
  b (Value.string { data := #[] }) (Value.string { data := #[] }) d (ii 0)
theorem lqA_balerref03_Piece {lf : Nat} {r : RT} (K : KT) : ∀ fu, lpA_balerref03_Piece lf r fu (fun a b => K (.exit 0) (zp [1, 3] [a, b])) = fun a b c d e f => loopK (cQ
  78 (pb 6 11) lf r) sA_balerref03_Piece fu (zp sA_balerref03_Piece [a, b, c, d, e, f]) K
  | 0 => by funext a b c d e f; kernel_rfl
  | fu + 1 => by
    have ih := lqA_balerref03_Piece (lf := lf) (r := r) K fu
    funext a b c d e f
    rw [lpA_balerref03_Piece]
    simp only [ih]
    kernel_rfl
theorem kqA_balerref03_Piece {lf : Nat} {r : RT} : kcA_balerref03_Piece lf r = (fun a b => (tK 78 (pb 5 11) lf r) (.exit 0) (zp [1, 3] [a, b])) := by kernel_rfl
theorem st_balerref03_Piece {lf : Nat} {r : RT} {a : V} : evStep Tryz.prog gt lf r 78 #[a] = inside (b_balerref03_Piece lf r a) := by 
  unfold b_balerref03_Piece
  simp only [kqA_balerref03_Piece, lqA_balerref03_Piece]
  kernel_rfl

def b_balerref17_Of (lf : Nat) (r : RT) (a : V) : M V := kal 116 z116 fun b => kcl r 113 [a] fun c => kcl r 112 [a, c] fun d => ksg 2 b d fun _ => klg 2 b fun a => outK [a]
theorem st_balerref17_Of {lf : Nat} {r : RT} {a : V} : evStep Tryz.prog gt lf r 79 #[a] = inside (b_balerref17_Of lf r a) := by kernel_rfl

def lpA_balerref01_Field (lf : Nat) (r : RT) : Nat→(V→M V)→V→V→V→V→V→V→M V
  | 0, _, _, _, _, _, _, _ => .fail
  | fu + 1, k, a, b, c, d, e, f => kls f e fun g => ifV g (krm a (i3 2) fun h => krm a (i3 2) fun i => kad i (i3 1) fun j => ksx (Value.string { data := #[48, 49] })
   (some h) (some j) fun l => kad l d fun m => kqu a (i3 2) fun d => kad f (ii 1) fun a => lpA_balerref01_Field lf r fu k d b c m e a) (k d)
def sA_balerref01_Field : List Nat := [0, 1, 4, 5, 6, 7]
def kcA_balerref01_Field (lf : Nat) (r : RT) : (V→M V) := fun a => outK [a]
def b_balerref01_Field (lf : Nat) (r : RT) (a b : V) : M V := lpA_balerref01_Field lf r lf (kcA_balerref01_Field lf r) a b (Value.string { data := #[] }) (Value.string { data := #[] }) b (ii 0)
theorem lqA_balerref01_Field {lf : Nat} {r : RT} (K : KT) : ∀ fu, lpA_balerref01_Field lf r fu (fun a => K (.exit 0) (zp [5] [a])) = fun a b c d e f => loopK (cQ 80 (pb
  6 11) lf r) sA_balerref01_Field fu (zp sA_balerref01_Field [a, b, c, d, e, f]) K
  | 0 => by funext a b c d e f; kernel_rfl
  | fu + 1 => by
    have ih := lqA_balerref01_Field (lf := lf) (r := r) K fu
    funext a b c d e f
    rw [lpA_balerref01_Field]
    simp only [ih]
    kernel_rfl
theorem kqA_balerref01_Field {lf : Nat} {r : RT} : kcA_balerref01_Field lf r = (fun a => (tK 80 (pb 5 11) lf r) (.exit 0) (zp [5] [a])) := by kernel_rfl
theorem st_balerref01_Field {lf : Nat} {r : RT} {a b : V} : evStep Tryz.prog gt lf r 80 #[a, b] = inside (b_balerref01_Field lf r a b) := by 
  unfold b_balerref01_Field
  simp only [kqA_balerref01_Field, lqA_balerref01_Field]
  kernel_rfl

def lpA_balerref02_Stream (lf : Nat) (r : RT) : Nat→(V→M V)→V→V→V→V→V→V→M V
  | 0, _, _, _, _, _, _, _ => .fail
  | fu + 1, k, a, b, c, d, e, f => kls f e fun g => ifV g (kix d f fun h => kld h fun i => kcl r 114 [c, i] fun h => kad f (ii 1) fun c => lpA_balerref02_Stream lf r fu k a b h d e c) (k c)
def sA_balerref02_Stream : List Nat := [0, 2, 3, 6, 7, 8]
def kcA_balerref02_Stream (lf : Nat) (r : RT) : (V→M V) := fun a => outK [a]
def b_balerref02_Stream (lf : Nat) (r : RT) (a : V) : M V := kln a fun b => lpA_balerref02_Stream lf r lf (kcA_balerref02_Stream lf r) a (i3 0) (i3 0) a b (ii 0)
theorem lqA_balerref02_Stream {lf : Nat} {r : RT} (K : KT) : ∀ fu, lpA_balerref02_Stream lf r fu (fun a => K (.exit 0) (zp [3] [a])) = fun a b c d e f => loopK (cQ 81
  (pb 6 11) lf r) sA_balerref02_Stream fu (zp sA_balerref02_Stream [a, b, c, d, e, f]) K
  | 0 => by funext a b c d e f; kernel_rfl
  | fu + 1 => by
    have ih := lqA_balerref02_Stream (lf := lf) (r := r) K fu
    funext a b c d e f
    rw [lpA_balerref02_Stream]
    simp only [ih]
    kernel_rfl
theorem kqA_balerref02_Stream {lf : Nat} {r : RT} : kcA_balerref02_Stream lf r = (fun a => (tK 81 (pb 5 11) lf r) (.exit 0) (zp [3] [a])) := by kernel_rfl
theorem st_balerref02_Stream {lf : Nat} {r : RT} {a : V} : evStep Tryz.prog gt lf r 81 #[a] = inside (b_balerref02_Stream lf r a) := by 
  unfold b_balerref02_Stream
  simp only [kqA_balerref02_Stream, lqA_balerref02_Stream]
  kernel_rfl

def b_crc_New (lf : Nat) (r : RT)  : M V := kcl r 115 [] fun a => kbd z161 [(0, 256, a), (256, 1, (i3 4294967295))] fun b => kbx 161 b fun c => outK [c]
theorem st_crc_New {lf : Nat} {r : RT}  : evStep Tryz.prog gt lf r 82 #[] = inside (b_crc_New lf r) := by kernel_rfl

def b_feed_NewPacker (lf : Nat) (r : RT)  : M V := kbd z163 [] fun a => kbx 163 a fun b => outK [b]
theorem st_feed_NewPacker {lf : Nat} {r : RT}  : evStep Tryz.prog gt lf r 83 #[] = inside (b_feed_NewPacker lf r) := by kernel_rfl

def b_feed_Packer_Row (lf : Nat) (r : RT) (a : V) : M V := kal 113 z113 fun b => kpe a nP fun c => ifV c (kbd z113 [] fun d => ksg 2 b d fun _ => klg 2 b fun a => outK
  [a]) (knn a fun d => kfa 0 d fun e => klg 2 e fun f => ksg 2 b f fun _ => klg 2 b fun a => outK [a])
theorem st_feed_Packer_Row {lf : Nat} {r : RT} {a : V} : evStep Tryz.prog gt lf r 84 #[a] = inside (b_feed_Packer_Row lf r a) := by kernel_rfl

def b_feed_Packer_Put (lf : Nat) (r : RT) (a b : V) : M V := kpe a nP fun c => ifV c (outK [(Value.string { data := #[] })]) (knn a fun d => kfa 0 d fun e => kfa 1 e fun
  f => kld f fun g => kgr g (ii 0) fun h => ifV h (knn a fun i => kfa 0 i fun j => kfa 0 j fun l => kld l fun m => kne m b fun n => (fun d => ifV n (kcl r 116 [a] fun e
  => d e) (d (Value.string { data := #[] }))) fun d => knn a fun e => kfa 0 e fun f => kfa 0 f fun g => kst g b fun _ => knn a fun e => kfa 0 e fun f => kfa 1 f fun g =>
  kld g fun h => kad h (ii 1) fun i => knn a fun j => kfa 0 j fun l => kfa 1 l fun m => kst m i fun _ => knn a fun e => kfa 0 e fun f => kfa 1 f fun g => kld g fun h =>
  keq h (ii 255) fun i => ifV i (kcl r 116 [a] fun e => kad d e fun f => outK [f]) (outK [d])) (knn a fun d => kfa 0 d fun e => kfa 0 e fun f => kst f b fun _ => knn a
  fun d => kfa 0 d fun e => kfa 1 e fun f => kld f fun g => kad g (ii 1) fun h => knn a fun i => kfa 0 i fun j => kfa 1 j fun l => kst l h fun _ => knn a fun d => kfa 0
  d fun e => kfa 1 e fun f => kld f fun g => keq g (ii 255) fun h => ifV h (kcl r 116 [a] fun d => kad (Value.string { data := #[] }) d fun e => outK [e]) (outK [(Value.string { data := #[] })])))
theorem st_feed_Packer_Put {lf : Nat} {r : RT} {a b : V} : evStep Tryz.prog gt lf r 85 #[a, b] = inside (b_feed_Packer_Put lf r a b) := by kernel_rfl

def b_split_Splitter_piece (lf : Nat) (r : RT) (a b c : V) : M V := kbx 113 b fun d => kal 42 z42 fun e => kal 42 z42 fun f => knn a fun g => kfa 0 g fun h => kfa 0 h
  fun i => kld i fun j => kln j fun l => kad l c fun m => knn a fun n => kfa 3 n fun o => kld o fun p => kgr m p fun q => (fun g => ifV q (knn a fun h => kfa 0 h fun i
  => kcl r 88 [i] fun j => kex j 0 fun l => kex j 1 fun m => ksg 3 f l fun _ => g m) (g bF)) fun g => knn a fun h => kfa 0 h fun i => klg 2 d fun j => kcl r 117 [i, j]
  fun l => klg 3 f fun h => ksg 3 e h fun _ => klg 3 e fun a => outK [a, g]
theorem st_split_Splitter_piece {lf : Nat} {r : RT} {a b c : V} : evStep Tryz.prog gt lf r 86 #[a, b, c] = inside (b_split_Splitter_piece lf r a b c) := by kernel_rfl

def b_feed_Packer_End (lf : Nat) (r : RT) (a : V) : M V := kpe a nP fun b => ifV b (outK [(Value.string { data := #[] })]) (kcl r 116 [a] fun c => outK [c])
theorem st_feed_Packer_End {lf : Nat} {r : RT} {a : V} : evStep Tryz.prog gt lf r 87 #[a] = inside (b_feed_Packer_End lf r a) := by kernel_rfl

def b_split_begun_close (lf : Nat) (r : RT) (a : V) : M V := kal 42 z42 fun b => knn a fun c => kfa 0 c fun d => kld d fun e => kln e fun f => keq f (ii 0) fun g => ifV
  g (kbd z42 [] fun c => ksg 3 b c fun _ => klg 3 b fun a => outK [a, bF]) (knn a fun c => kfa 0 c fun d => (timed (kld d M.ret)).bind fun e => (timed (kts e.1
  M.ret)).bind fun f => knn a fun h => kfa 1 h fun i => (timed (kld i M.ret)).bind fun j => (timed (kcl r 118 [j.1] M.ret)).bind fun l => knn a fun m => kfa 2 m fun n =>
  (timed (kld n M.ret)).bind fun o => kbd z42 [(0, 1, f.1), (1, 1, l.1), (2, 1, o.1)] fun p => (timed (kal 42 z42 M.ret)).bind fun q => (timed (ksg 3 q.1 p M.ret)).bind
  fun s => chkT ((!(clash3 e.2 l.2) && true) && ((!(clash3 f.2 j.2) && (!(clash3 f.2 l.2) && (!(clash3 f.2 o.2) && (!(clash3 f.2 q.2) && true)))) && ((!(clash3 l.2 o.2)
  && (!(clash3 l.2 q.2) && true)) && true))) (knn a fun c => kfa 0 c fun d => kst d nS fun _ => knn a fun c => kfa 2 c fun d => kst d (ii 0) fun _ => knn a fun c => kfa
  1 c fun d => kld d fun e => kcl r 119 [e] fun f => klg 3 q.1 fun c => ksg 3 b c fun _ => klg 3 b fun a => outK [a, bT]))
theorem st_split_begun_close {lf : Nat} {r : RT} {a : V} : evStep Tryz.prog gt lf r 88 #[a] = inside (b_split_begun_close lf r a) := by kernel_rfl

def b_bits_fits (lf : Nat) (r : RT) (a b : V) : M V := kgq b (ii 0) fun c => ifV c (klq b (ii 32) fun d => ifV d (kcv .u64 a fun e => ksr e b fun f => keq f (i6 0) fun g => outK [g]) (outK [bF])) (outK [bF])
theorem st_bits_fits {lf : Nat} {r : RT} {a b : V} : evStep Tryz.prog gt lf r 89 #[a, b] = inside (b_bits_fits lf r a b) := by kernel_rfl

def b_bits_Writer_bit (lf : Nat) (r : RT) (a b : V) : M V := knn a fun c => kfa 2 c fun d => kld d fun e => krm e (ii 8) fun f => knn a fun c => kfa 1 c fun d => kld d
  fun e => ksb (ii 7) f fun g => ksl b g fun h => kor e h fun i => knn a fun j => kfa 1 j fun l => kst l i fun _ => knn a fun c => kfa 2 c fun d => kld d fun e => kad e
  (ii 1) fun g => knn a fun h => kfa 2 h fun i => kst i g fun _ => keq f (ii 7) fun c => ifV c (knn a fun d => kfa 0 d fun e => kld e fun g => knn a fun h => kfa 1 h fun
  i => kld i fun j => kb1 5 1 j fun l => kap 5 1 g l fun m => knn a fun n => kfa 0 n fun o => kst o m fun _ => knn a fun d => kfa 1 d fun e => kst e (i1 0) fun _ => outK []) (outK [])
theorem st_bits_Writer_bit {lf : Nat} {r : RT} {a b : V} : evStep Tryz.prog gt lf r 90 #[a, b] = inside (b_bits_Writer_bit lf r a b) := by kernel_rfl

def b_bwt_New (lf : Nat) (r : RT) (a : V) : M V := keq a (Value.string { data := #[] }) fun b => ifV b (outK [nP, (ii 1)]) (kcl r 120 [a] fun c => kex c 0 fun d => kex c
  1 fun e => kne e (ii 0) fun c => ifV c (outK [nP, e]) (kbd z155 [(0, 1, a), (1, 1, d)] fun f => kbx 155 f fun g => outK [g, (ii 0)]))
theorem st_bwt_New {lf : Nat} {r : RT} {a : V} : evStep Tryz.prog gt lf r 91 #[a] = inside (b_bwt_New lf r a) := by kernel_rfl

def b_bwt_Turner_Done (lf : Nat) (r : RT) (a : V) : M V := kpn a nP fun b => ifV b (knn a fun c => kfa 3 c fun d => kld d fun e => kln e fun f => knn a fun g => kfa 0 g
  fun h => kld h fun i => klx i fun j => keq f j fun l => outK [l]) (outK [bF])
theorem st_bwt_Turner_Done {lf : Nat} {r : RT} {a : V} : evStep Tryz.prog gt lf r 92 #[a] = inside (b_bwt_Turner_Done lf r a) := by kernel_rfl

def lpA_bwt_Turner_Step (lf : Nat) (r : RT) : Nat→(V→M V)→V→V→V→V→V→V→M V
  | 0, _, _, _, _, _, _, _ => .fail
  | fu + 1, k, a, b, c, d, e, f => knn a fun g => kfa 1 g fun h => kld h fun i => kcl r 122 [i] fun j => ifV j (kls d b fun l => ifV l (kcl r 92 [a] fun m => knt m fun n
   => ifV n (kcl r 124 [a] fun g => kad d (ii 1) fun g => lpA_bwt_Turner_Step lf r fu k a b c g e f) (k d)) (k d)) (k d)
def sA_bwt_Turner_Step : List Nat := [0, 1, 4, 5, 11, 29]
def kcA_bwt_Turner_Step (lf : Nat) (r : RT) : (V→M V) := fun a => outK [a]
def b_bwt_Turner_Step (lf : Nat) (r : RT) (a b : V) : M V := kpe a nP fun c => ifV c (outK [(ii 0)]) (kls b (ii 1) fun d => ifV d (outK [(ii 0)]) (knn a fun c => kfa 1 c
  fun e => kld e fun f => kcl r 121 [f, b] fun g => knn a fun c => kfa 2 c fun e => kld e fun f => kse f nS fun h => ifV h (knn a fun i => kfa 1 i fun j => kld j fun l
  => kcl r 122 [l] fun m => ifV m (knn a fun c => kfa 1 c fun e => kld e fun f => kcl r 123 [f] fun h => knn a fun i => kfa 2 i fun j => kst j h fun _ =>
  lpA_bwt_Turner_Step lf r lf (kcA_bwt_Turner_Step lf r) a b (ii 0) g d m) (lpA_bwt_Turner_Step lf r lf (kcA_bwt_Turner_Step lf r) a b (ii 0) g d m))
  (lpA_bwt_Turner_Step lf r lf (kcA_bwt_Turner_Step lf r) a b (ii 0) g d bF)))
theorem lqA_bwt_Turner_Step {lf : Nat} {r : RT} (K : KT) : ∀ fu, lpA_bwt_Turner_Step lf r fu (fun a => K (.exit 0) (zp [5] [a])) = fun a b c d e f => loopK (cQ 93 (pb 7
  15) lf r) sA_bwt_Turner_Step fu (zp sA_bwt_Turner_Step [a, b, c, d, e, f]) K
  | 0 => by funext a b c d e f; kernel_rfl
  | fu + 1 => by
    have ih := lqA_bwt_Turner_Step (lf := lf) (r := r) K fu
    funext a b c d e f
    rw [lpA_bwt_Turner_Step]
    simp only [ih]
    kernel_rfl
theorem kqA_bwt_Turner_Step {lf : Nat} {r : RT} : kcA_bwt_Turner_Step lf r = (fun a => (tK 93 (pb 6 15) lf r) (.exit 0) (zp [5] [a])) := by kernel_rfl
theorem st_bwt_Turner_Step {lf : Nat} {r : RT} {a b : V} : evStep Tryz.prog gt lf r 93 #[a, b] = inside (b_bwt_Turner_Step lf r a b) := by 
  unfold b_bwt_Turner_Step
  simp only [kqA_bwt_Turner_Step, lqA_bwt_Turner_Step]
  kernel_rfl

def b_bwt_Turner_Result (lf : Nat) (r : RT) (a : V) : M V := kcl r 92 [a] fun b => knt b fun c => ifV c (outK [(Value.string { data := #[] }), (ii 0)]) (knn a fun b =>
  kfa 3 b fun d => (timed (kld d M.ret)).bind fun e => (timed (kts e.1 M.ret)).bind fun f => knn a fun g => kfa 4 g fun h => (timed (kld h M.ret)).bind fun i => chkT
  ((!(clash3 f.2 i.2) && true) && true) (outK [f.1, i.1]))
theorem st_bwt_Turner_Result {lf : Nat} {r : RT} {a : V} : evStep Tryz.prog gt lf r 94 #[a] = inside (b_bwt_Turner_Result lf r a) := by kernel_rfl

def lpA_used_Symbols (lf : Nat) (r : RT) : Nat→(V→M V)→V→V→V→V→V→M V
  | 0, _, _, _, _, _, _ => .fail
  | fu + 1, k, a, b, c, d, e => kls e d fun f => ifV f (kit a e fun g => kia 256 c g fun h => kst h bT fun _ => kad e (ii 1) fun g => lpA_used_Symbols lf r fu k a b c d g) (k c)
def sA_used_Symbols : List Nat := [0, 2, 3, 6, 7]
def kcA_used_Symbols (lf : Nat) (r : RT) : (V→M V) := fun a => klg 256 a fun b => kcl r 125 [b] fun c => outK [c]
def b_used_Symbols (lf : Nat) (r : RT) (a : V) : M V := kal 169 z169 fun b => klx a fun c => lpA_used_Symbols lf r lf (kcA_used_Symbols lf r) a (Value.string { data := #[] }) b c (ii 0)
theorem lqA_used_Symbols {lf : Nat} {r : RT} (K : KT) : ∀ fu, lpA_used_Symbols lf r fu (fun a => K (.exit 0) (zp [3] [a])) = fun a b c d e => loopK (cQ 95 (pb 6 11) lf
  r) sA_used_Symbols fu (zp sA_used_Symbols [a, b, c, d, e]) K
  | 0 => by funext a b c d e; kernel_rfl
  | fu + 1 => by
    have ih := lqA_used_Symbols (lf := lf) (r := r) K fu
    funext a b c d e
    rw [lpA_used_Symbols]
    simp only [ih]
    kernel_rfl
theorem kqA_used_Symbols {lf : Nat} {r : RT} : kcA_used_Symbols lf r = (fun a => (tK 95 (pb 5 11) lf r) (.exit 0) (zp [3] [a])) := by kernel_rfl
theorem st_used_Symbols {lf : Nat} {r : RT} {a : V} : evStep Tryz.prog gt lf r 95 #[a] = inside (b_used_Symbols lf r a) := by 
  unfold b_used_Symbols
  simp only [kqA_used_Symbols, lqA_used_Symbols]
  kernel_rfl

def lpA_mtf_Encode (lf : Nat) (r : RT) : Nat→((V→M V) × (V→V→M V))→V→V→V→V→V→V→V→V→V→V→M V
  | 0, _, _, _, _, _, _, _, _, _, _, _ => .fail
  | fu + 1, k, a, b, c, d, e, f, g, h, i, j => kls j i fun l => ifV l (kit a j fun m => kcl r 127 [e, m] fun n => kex n 0 fun o => kex n 1 fun p => kne p (ii 0) fun m =>
   ifV m (k.2 nS p) (kix g j fun n => kst n o fun _ => kad j (ii 1) fun n => lpA_mtf_Encode lf r fu k a b c d e f g h i n)) (k.1 g)
def sA_mtf_Encode : List Nat := [0, 1, 4, 5, 6, 7, 8, 18, 24, 25]
def kcA_mtf_Encode (lf : Nat) (r : RT) : (V→M V) × (V→V→M V) := (fun a => outK [a, (ii 0)], fun a b => outK [a, b])
def b_mtf_Encode (lf : Nat) (r : RT) (a b : V) : M V := kcl r 126 [b] fun c => kex c 0 fun d => kex c 1 fun e => kne e (ii 0) fun c => ifV c (outK [nS, e]) (klx a fun f
  => kmk 3 [(ii 0)] f f fun g => kln g fun f => lpA_mtf_Encode lf r lf (kcA_mtf_Encode lf r) a b nS (ii 0) d e g c f (ii 0))
theorem lqA_mtf_Encode {lf : Nat} {r : RT} (K : KT) : ∀ fu, lpA_mtf_Encode lf r fu ((fun a => K (.exit 0) (zp [8] [a]), fun a b => K .ret (zp [4, 5] [a, b]))) = fun a b
  c d e f g h i j => loopK (cQ 96 (pb 8 47) lf r) sA_mtf_Encode fu (zp sA_mtf_Encode [a, b, c, d, e, f, g, h, i, j]) K
  | 0 => by funext a b c d e f g h i j; kernel_rfl
  | fu + 1 => by
    have ih := lqA_mtf_Encode (lf := lf) (r := r) K fu
    funext a b c d e f g h i j
    rw [lpA_mtf_Encode]
    simp only [ih]
    kernel_rfl
theorem kqA_mtf_Encode {lf : Nat} {r : RT} : kcA_mtf_Encode lf r = ((fun a => (tK 96 (pb 7 47) lf r) (.exit 0) (zp [8] [a]), fun a b => (tK 96 (pb 7 47) lf r) .ret (zp [4, 5] [a, b]))) := by kernel_rfl
theorem st_mtf_Encode {lf : Nat} {r : RT} {a b : V} : evStep Tryz.prog gt lf r 96 #[a, b] = inside (b_mtf_Encode lf r a b) := by 
  unfold b_mtf_Encode
  simp only [kqA_mtf_Encode, lqA_mtf_Encode]
  kernel_rfl

def lpA_zeros_Encode (lf : Nat) (r : RT) : Nat→((V→V→V→M V) × (V→V→M V))→V→V→V→V→V→V→V→V→V→V→M V
  | 0, _, _, _, _, _, _, _, _, _, _, _ => .fail
  | fu + 1, k, a, b, c, d, e, f, g, h, i, j => kls j i fun l => ifV l (kix h j fun m => kld m fun n => kls n (ii 0) fun m => ifV m (k.2 nS (ii 1)) (kgq n b fun o => ifV
   o (k.2 nS (ii 1)) (keq n (ii 0) fun m => ifV m (kad f (ii 1) fun p => kad j (ii 1) fun f => lpA_zeros_Encode lf r fu k a b c d e p g h i f) (kcl r 129 [f] fun p =>
   kap 3 1 e p fun q => kad n (ii 1) fun e => kb1 3 1 e fun p => kap 3 1 q p fun s => kad j (ii 1) fun e => lpA_zeros_Encode lf r fu k a b c d s (ii 0) g h i e)))) (k.1 b e f)
def sA_zeros_Encode : List Nat := [0, 1, 4, 5, 6, 7, 12, 13, 14, 15]
def kcA_zeros_Encode (lf : Nat) (r : RT) : (V→V→V→M V) × (V→V→M V) := (fun a b c => kcl r 129 [c] fun d => kap 3 1 b d fun e => kad a (ii 1) fun b => kb1 3 1 b fun d =>
  kap 3 1 e d fun f => outK [f, (ii 0)], fun a b => outK [a, b])
def b_zeros_Encode (lf : Nat) (r : RT) (a b : V) : M V := kcl r 128 [b] fun c => knt c fun d => ifV d (outK [nS, (ii 1)]) (kln a fun c => lpA_zeros_Encode lf r lf
  (kcA_zeros_Encode lf r) a b nS (ii 0) nS (ii 0) d a c (ii 0))
theorem lqA_zeros_Encode {lf : Nat} {r : RT} (K : KT) : ∀ fu, lpA_zeros_Encode lf r fu ((fun a b c => K (.exit 0) (zp [1, 6, 7] [a, b, c]), fun a b => K .ret (zp [4, 5]
  [a, b]))) = fun a b c d e f g h i j => loopK (cQ 97 (pb 8 47) lf r) sA_zeros_Encode fu (zp sA_zeros_Encode [a, b, c, d, e, f, g, h, i, j]) K
  | 0 => by funext a b c d e f g h i j; kernel_rfl
  | fu + 1 => by
    have ih := lqA_zeros_Encode (lf := lf) (r := r) K fu
    funext a b c d e f g h i j
    rw [lpA_zeros_Encode]
    simp only [ih]
    kernel_rfl
theorem kqA_zeros_Encode {lf : Nat} {r : RT} : kcA_zeros_Encode lf r = ((fun a b c => (tK 97 (pb 7 47) lf r) (.exit 0) (zp [1, 6, 7] [a, b, c]), fun a b => (tK 97 (pb 7
  47) lf r) .ret (zp [4, 5] [a, b]))) := by kernel_rfl
theorem st_zeros_Encode {lf : Nat} {r : RT} {a b : V} : evStep Tryz.prog gt lf r 97 #[a, b] = inside (b_zeros_Encode lf r a b) := by 
  unfold b_zeros_Encode
  simp only [kqA_zeros_Encode, lqA_zeros_Encode]
  kernel_rfl

def lpA_code_Bits (lf : Nat) (r : RT) : Nat→(V→V→V→M V)→V→V→V→V→V→V→V→V→V→V→V→M V
  | 0, _, _, _, _, _, _, _, _, _, _, _, _ => .fail
  | fu + 1, k, a, b, c, d, e, f, g, h, i, j, l => kls l j fun m => ifV m (kix i l fun n => kld n fun o => kcl r 132 [o] fun n => kex n 0 fun p => kex n 1 fun q => kad g
   p fun n => kad l (ii 1) fun g => lpA_code_Bits lf r fu k a b c d e f n h i j g) (k a e g)
def sA_code_Bits : List Nat := [0, 1, 4, 5, 6, 7, 8, 23, 35, 36, 37]
def kcA_code_Bits (lf : Nat) (r : RT) : (V→V→V→M V) := fun a b c => klg 2 b fun d => kcl r 133 [a, d] fun e => kex e 0 fun f => kex e 1 fun g => kad c f fun d => outK [d, (ii 0)]
def b_code_Bits (lf : Nat) (r : RT) (a b : V) : M V := kcl r 130 [a, b] fun c => kex c 0 fun d => kex c 1 fun e => kal 178 z178 fun f => ksg 2 f d fun _ => kne e (ii 0)
  fun c => ifV c (outK [(ii 0), e]) (kfa 1 f fun d => kld d fun g => kfa 0 f fun h => kld h fun i => kln i fun j => kcl r 131 [g, j] fun l => kex l 0 fun m => kex l 1
  fun n => kfa 0 f fun d => kld d fun g => kln g fun h => lpA_code_Bits lf r lf (kcA_code_Bits lf r) a b (ii 0) (ii 0) f e m c g h (ii 0))
theorem lqA_code_Bits {lf : Nat} {r : RT} (K : KT) : ∀ fu, lpA_code_Bits lf r fu (fun a b c => K (.exit 0) (zp [0, 6, 8] [a, b, c])) = fun a b c d e f g h i j l => loopK
  (cQ 98 (pb 8 47) lf r) sA_code_Bits fu (zp sA_code_Bits [a, b, c, d, e, f, g, h, i, j, l]) K
  | 0 => by funext a b c d e f g h i j l; kernel_rfl
  | fu + 1 => by
    have ih := lqA_code_Bits (lf := lf) (r := r) K fu
    funext a b c d e f g h i j l
    rw [lpA_code_Bits]
    simp only [ih]
    kernel_rfl
theorem kqA_code_Bits {lf : Nat} {r : RT} : kcA_code_Bits lf r = (fun a b c => (tK 98 (pb 7 47) lf r) (.exit 0) (zp [0, 6, 8] [a, b, c])) := by kernel_rfl
theorem st_code_Bits {lf : Nat} {r : RT} {a b : V} : evStep Tryz.prog gt lf r 98 #[a, b] = inside (b_code_Bits lf r a b) := by 
  unfold b_code_Bits
  simp only [kqA_code_Bits, lqA_code_Bits]
  kernel_rfl

def lpA_used_Write (lf : Nat) (r : RT) : Nat→(V→V→V→V→V→V→V→V→V→V→M V)→V→V→V→V→V→V→V→V→V→M V
  | 0, _, _, _, _, _, _, _, _, _, _ => .fail
  | fu + 1, k, a, b, c, d, e, f, g, h, i => kls i (ii 16) fun j => ifV j (kiv 16 h i fun l => kne l (i3 0) fun m => ifV m (ksb (ii 15) i fun n => ksl (i3 1) n fun o =>
   kor e o fun p => kad i (ii 1) fun e => lpA_used_Write lf r fu k a b c d p f g h e) (kad i (ii 1) fun n => lpA_used_Write lf r fu k a b c d e f g h n)) (k a b c d e f g h i j)
def sA_used_Write : List Nat := [0, 1, 4, 5, 6, 11, 14, 20, 21]
def lpB_used_Write (lf : Nat) (r : RT) : Nat→(M V)→V→V→V→V→V→V→V→V→V→V→V→V→M V
  | 0, _, _, _, _, _, _, _, _, _, _, _, _, _ => .fail
  | fu + 1, k, a, b, c, d, e, f, g, h, i, j, l, m => kls m (ii 16) fun n => ifV n (kiv 16 l m fun o => kne o (i3 0) fun p => ifV p (kcl r 56 [a, o, (ii 16)] fun q => kad
   m (ii 1) fun q => lpB_used_Write lf r fu k a b c d e f g h i j l q) (kad m (ii 1) fun q => lpB_used_Write lf r fu k a b c d e f g h i j l q)) (k)
def sB_used_Write : List Nat := [0, 1, 4, 5, 6, 11, 14, 20, 21, 22, 36, 37]
def kcB_used_Write (lf : Nat) (r : RT) : (M V) := outK [(ii 0)]
def kcA_used_Write (lf : Nat) (r : RT) : (V→V→V→V→V→V→V→V→V→V→M V) := fun a b c d e f g h i j => kcl r 56 [a, e, (ii 16)] fun l => klg 16 d fun l => lpB_used_Write lf r
  lf (kcB_used_Write lf r) a b c d e f g h i j l (ii 0)
def b_used_Write (lf : Nat) (r : RT) (a b : V) : M V := kpe a nP fun c => ifV c (outK [(ii 7)]) (kcl r 134 [b] fun d => knt d fun e => ifV e (outK [(ii 1)]) (kcl r 135
  [b] fun d => kal 184 z184 fun f => ksg 16 f d fun _ => klg 16 f fun d => lpA_used_Write lf r lf (kcA_used_Write lf r) a b (ii 0) f (i3 0) c e d (ii 0)))
theorem lqA_used_Write {lf : Nat} {r : RT} (K : KT) : ∀ fu, lpA_used_Write lf r fu (fun a b c d e f g h i j => K (.exit 1) (zp [0, 1, 4, 5, 6, 11, 14, 20, 21, 22] [a, b,
  c, d, e, f, g, h, i, j])) = fun a b c d e f g h i => loopK (cQ 99 (pb 8 47) lf r) sA_used_Write fu (zp sA_used_Write [a, b, c, d, e, f, g, h, i]) K
  | 0 => by funext a b c d e f g h i; kernel_rfl
  | fu + 1 => by
    have ih := lqA_used_Write (lf := lf) (r := r) K fu
    funext a b c d e f g h i
    rw [lpA_used_Write]
    simp only [ih]
    kernel_rfl
theorem lqB_used_Write {lf : Nat} {r : RT} (K : KT) : ∀ fu, lpB_used_Write lf r fu (K (.exit 3) []) = fun a b c d e f g h i j l m => loopK (cQ 99 (pb 10 191) lf r)
  sB_used_Write fu (zp sB_used_Write [a, b, c, d, e, f, g, h, i, j, l, m]) K
  | 0 => by funext a b c d e f g h i j l m; kernel_rfl
  | fu + 1 => by
    have ih := lqB_used_Write (lf := lf) (r := r) K fu
    funext a b c d e f g h i j l m
    rw [lpB_used_Write]
    simp only [ih]
    kernel_rfl
theorem kqB_used_Write {lf : Nat} {r : RT} : kcB_used_Write lf r = ((tK 99 (pb 9 191) lf r) (.exit 3) []) := by kernel_rfl
theorem kqA_used_Write {lf : Nat} {r : RT} : kcA_used_Write lf r = (fun a b c d e f g h i j => (tK 99 (pb 7 47) lf r) (.exit 1) (zp [0, 1, 4, 5, 6, 11, 14, 20, 21, 22] [a, b, c, d, e, f, g, h, i, j])) := by 
  unfold kcA_used_Write
  simp only [kqB_used_Write, lqB_used_Write]
  kernel_rfl
theorem st_used_Write {lf : Nat} {r : RT} {a b : V} : evStep Tryz.prog gt lf r 99 #[a, b] = inside (b_used_Write lf r a b) := by 
  unfold b_used_Write
  simp only [kqA_used_Write, kqB_used_Write, lqA_used_Write, lqB_used_Write]
  kernel_rfl

def lpA_code_Write (lf : Nat) (r : RT) : Nat→(V→V→V→V→V→V→V→V→V→V→V→V→V→M V)→V→V→V→V→V→V→V→V→V→V→V→V→M V
  | 0, _, _, _, _, _, _, _, _, _, _, _, _, _ => .fail
  | fu + 1, k, a, b, c, d, e, f, g, h, i, j, l, m => kls m l fun n => ifV n (kix j m fun o => kld o fun p => kcl r 137 [a, p] fun o => kcl r 138 [p] fun o => kex o 0 fun
   q => kex o 1 fun s => kb1 188 1 q fun o => kap 188 1 g o fun s => kad m (ii 1) fun g => lpA_code_Write lf r fu k a b c d e f s h i j l g) (k a b c d e f g h i j l m n)
def sA_code_Write : List Nat := [0, 1, 2, 6, 7, 8, 9, 17, 25, 35, 36, 37]
def lpB_code_Write (lf : Nat) (r : RT) : Nat→(M V)→V→V→V→V→V→V→V→V→V→V→V→V→V→V→V→V→M V
  | 0, _, _, _, _, _, _, _, _, _, _, _, _, _, _, _, _, _ => .fail
  | fu + 1, k, a, b, c, d, e, f, g, h, i, j, l, m, n, o, p, q => kls q p fun s => ifV s (kix o q fun t => kld t fun u => kfa 1 e fun t => kld t fun v => kqu q (ii 50)
   fun w => kix v w fun x => kld x fun y => kix g y fun z => kld z fun A => kcl r 139 [A, a, u] fun B => kad q (ii 1) fun t => lpB_code_Write lf r fu k a b c d e f g h i j l m n o p t) (k)
def sB_code_Write : List Nat := [0, 1, 2, 6, 7, 8, 9, 17, 25, 35, 36, 37, 38, 54, 55, 56]
def kcB_code_Write (lf : Nat) (r : RT) : (M V) := outK [(ii 0)]
def kcA_code_Write (lf : Nat) (r : RT) : (V→V→V→V→V→V→V→V→V→V→V→V→V→M V) := fun a b c d e f g h i j l m n => kln b fun o => lpB_code_Write lf r lf (kcB_code_Write lf r) a b c d e f g h i j l m n b o (ii 0)
def b_code_Write (lf : Nat) (r : RT) (a b c : V) : M V := kpe a nP fun d => ifV d (outK [(ii 7)]) (kcl r 130 [b, c] fun e => kex e 0 fun f => kex e 1 fun g => kal 178
  z178 fun h => ksg 2 h f fun _ => kne g (ii 0) fun e => ifV e (outK [g]) (kfa 1 h fun f => kld f fun i => kfa 0 h fun j => kld j fun l => kln l fun m => kcl r 136 [a,
  i, m] fun n => kfa 0 h fun f => kld f fun i => kln i fun j => lpA_code_Write lf r lf (kcA_code_Write lf r) a b c (ii 0) h g nS d e i j (ii 0)))
theorem lqA_code_Write {lf : Nat} {r : RT} (K : KT) : ∀ fu, lpA_code_Write lf r fu (fun a b c d e f g h i j l m n => K (.exit 0) (zp [0, 1, 2, 6, 7, 8, 9, 17, 25, 35,
  36, 37, 38] [a, b, c, d, e, f, g, h, i, j, l, m, n])) = fun a b c d e f g h i j l m => loopK (cQ 100 (pb 10 191) lf r) sA_code_Write fu (zp sA_code_Write [a, b, c, d, e, f, g, h, i, j, l, m]) K
  | 0 => by funext a b c d e f g h i j l m; kernel_rfl
  | fu + 1 => by
    have ih := lqA_code_Write (lf := lf) (r := r) K fu
    funext a b c d e f g h i j l m
    rw [lpA_code_Write]
    simp only [ih]
    kernel_rfl
theorem lqB_code_Write {lf : Nat} {r : RT} (K : KT) : ∀ fu, lpB_code_Write lf r fu (K (.exit 2) []) = fun a b c d e f g h i j l m n o p q => loopK (cQ 100 (pb 11 383) lf
  r) sB_code_Write fu (zp sB_code_Write [a, b, c, d, e, f, g, h, i, j, l, m, n, o, p, q]) K
  | 0 => by funext a b c d e f g h i j l m n o p q; kernel_rfl
  | fu + 1 => by
    have ih := lqB_code_Write (lf := lf) (r := r) K fu
    funext a b c d e f g h i j l m n o p q
    rw [lpB_code_Write]
    simp only [ih]
    kernel_rfl
theorem kqB_code_Write {lf : Nat} {r : RT} : kcB_code_Write lf r = ((tK 100 (pb 10 383) lf r) (.exit 2) []) := by kernel_rfl
theorem kqA_code_Write {lf : Nat} {r : RT} : kcA_code_Write lf r = (fun a b c d e f g h i j l m n => (tK 100 (pb 9 191) lf r) (.exit 0) (zp [0, 1, 2, 6, 7, 8, 9, 17, 25,
  35, 36, 37, 38] [a, b, c, d, e, f, g, h, i, j, l, m, n])) := by 
  unfold kcA_code_Write
  simp only [kqB_code_Write, lqB_code_Write]
  kernel_rfl
theorem st_code_Write {lf : Nat} {r : RT} {a b c : V} : evStep Tryz.prog gt lf r 100 #[a, b, c] = inside (b_code_Write lf r a b c) := by 
  unfold b_code_Write
  simp only [kqA_code_Write, kqB_code_Write, lqA_code_Write, lqB_code_Write]
  kernel_rfl

def lpA_balerref05_Symbols (lf : Nat) (r : RT) : Nat→(V→M V)→V→V→V→V→M V
  | 0, _, _, _, _, _ => .fail
  | fu + 1, k, a, b, c, d => kls d (ii 256) fun e => ifV e (kcl r 140 [a, d] fun f => ifV f (kcv .u8 d fun g => kb1 5 1 g fun h => kts h fun i => kad c i fun j => kad d
   (ii 1) fun c => lpA_balerref05_Symbols lf r fu k a b j c) (kad d (ii 1) fun g => lpA_balerref05_Symbols lf r fu k a b c g)) (k c)
def sA_balerref05_Symbols : List Nat := [0, 2, 3, 5]
def kcA_balerref05_Symbols (lf : Nat) (r : RT) : (V→M V) := fun a => outK [a]
def b_balerref05_Symbols (lf : Nat) (r : RT) (a : V) : M V := lpA_balerref05_Symbols lf r lf (kcA_balerref05_Symbols lf r) a (Value.string { data := #[] }) (Value.string { data := #[] }) (ii 0)
theorem lqA_balerref05_Symbols {lf : Nat} {r : RT} (K : KT) : ∀ fu, lpA_balerref05_Symbols lf r fu (fun a => K (.exit 0) (zp [3] [a])) = fun a b c d => loopK (cQ 101 (pb
  6 11) lf r) sA_balerref05_Symbols fu (zp sA_balerref05_Symbols [a, b, c, d]) K
  | 0 => by funext a b c d; kernel_rfl
  | fu + 1 => by
    have ih := lqA_balerref05_Symbols (lf := lf) (r := r) K fu
    funext a b c d
    rw [lpA_balerref05_Symbols]
    simp only [ih]
    kernel_rfl
theorem kqA_balerref05_Symbols {lf : Nat} {r : RT} : kcA_balerref05_Symbols lf r = (fun a => (tK 101 (pb 5 11) lf r) (.exit 0) (zp [3] [a])) := by kernel_rfl
theorem st_balerref05_Symbols {lf : Nat} {r : RT} {a : V} : evStep Tryz.prog gt lf r 101 #[a] = inside (b_balerref05_Symbols lf r a) := by 
  unfold b_balerref05_Symbols
  simp only [kqA_balerref05_Symbols, lqA_balerref05_Symbols]
  kernel_rfl

def lpA_balerref06_Encode (lf : Nat) (r : RT) : Nat→((V→M V) × (V→V→M V))→V→V→V→V→V→V→V→V→M V
  | 0, _, _, _, _, _, _, _, _, _ => .fail
  | fu + 1, k, a, b, c, d, e, f, g, h => klx a fun i => kls g i fun j => ifV j (kit a g fun i => kcl r 142 [f, i] fun l => kls l (ii 0) fun i => ifV i (k.2 nS (ii 6))
   (kb1 3 1 l fun m => kap 3 1 e m fun n => kcl r 143 [f, l] fun e => kad g (ii 1) fun f => lpA_balerref06_Encode lf r fu k a b c d n e f h)) (k.1 e)
def sA_balerref06_Encode : List Nat := [0, 1, 4, 5, 6, 7, 8, 12]
def kcA_balerref06_Encode (lf : Nat) (r : RT) : (V→M V) × (V→V→M V) := (fun a => outK [a, (ii 0)], fun a b => outK [a, b])
def b_balerref06_Encode (lf : Nat) (r : RT) (a b : V) : M V := kcl r 141 [b] fun c => knt c fun d => ifV d (outK [nS, (ii 1)]) (lpA_balerref06_Encode lf r lf
  (kcA_balerref06_Encode lf r) a b nS (ii 0) nS b (ii 0) d)
theorem lqA_balerref06_Encode {lf : Nat} {r : RT} (K : KT) : ∀ fu, lpA_balerref06_Encode lf r fu ((fun a => K (.exit 0) (zp [6] [a]), fun a b => K .ret (zp [4, 5] [a,
  b]))) = fun a b c d e f g h => loopK (cQ 102 (pb 8 47) lf r) sA_balerref06_Encode fu (zp sA_balerref06_Encode [a, b, c, d, e, f, g, h]) K
  | 0 => by funext a b c d e f g h; kernel_rfl
  | fu + 1 => by
    have ih := lqA_balerref06_Encode (lf := lf) (r := r) K fu
    funext a b c d e f g h
    rw [lpA_balerref06_Encode]
    simp only [ih]
    kernel_rfl
theorem kqA_balerref06_Encode {lf : Nat} {r : RT} : kcA_balerref06_Encode lf r = ((fun a => (tK 102 (pb 7 47) lf r) (.exit 0) (zp [6] [a]), fun a b => (tK 102 (pb 7 47)
  lf r) .ret (zp [4, 5] [a, b]))) := by kernel_rfl
theorem st_balerref06_Encode {lf : Nat} {r : RT} {a b : V} : evStep Tryz.prog gt lf r 102 #[a, b] = inside (b_balerref06_Encode lf r a b) := by 
  unfold b_balerref06_Encode
  simp only [kqA_balerref06_Encode, lqA_balerref06_Encode]
  kernel_rfl

def lpA_balerref07_Encode (lf : Nat) (r : RT) : Nat→((V→V→V→M V) × (V→V→M V))→V→V→V→V→V→V→V→V→V→V→M V
  | 0, _, _, _, _, _, _, _, _, _, _, _ => .fail
  | fu + 1, k, a, b, c, d, e, f, g, h, i, j => kls j i fun l => ifV l (kix h j fun m => kld m fun n => kls n (ii 0) fun m => ifV m (k.2 nS (ii 1)) (kgq n b fun o => ifV
   o (k.2 nS (ii 1)) (keq n (ii 0) fun m => ifV m (kad f (ii 1) fun p => kad j (ii 1) fun f => lpA_balerref07_Encode lf r fu k a b c d e p g h i f) (kcl r 144 [f] fun p
   => kap 3 1 e p fun q => kad n (ii 1) fun e => kb1 3 1 e fun p => kap 3 1 q p fun s => kad j (ii 1) fun e => lpA_balerref07_Encode lf r fu k a b c d s (ii 0) g h i e)))) (k.1 b e f)
def sA_balerref07_Encode : List Nat := [0, 1, 4, 5, 6, 7, 15, 16, 17, 18]
def kcA_balerref07_Encode (lf : Nat) (r : RT) : (V→V→V→M V) × (V→V→M V) := (fun a b c => kcl r 144 [c] fun d => kap 3 1 b d fun e => kad a (ii 1) fun b => kb1 3 1 b fun
  d => kap 3 1 e d fun f => outK [f, (ii 0)], fun a b => outK [a, b])
def b_balerref07_Encode (lf : Nat) (r : RT) (a b : V) : M V := kls b (ii 1) fun c => ifV c (outK [nS, (ii 1)]) (kgr b (ii 256) fun d => ifV d (outK [nS, (ii 1)]) (kln a
  fun c => lpA_balerref07_Encode lf r lf (kcA_balerref07_Encode lf r) a b nS (ii 0) nS (ii 0) d a c (ii 0)))
theorem lqA_balerref07_Encode {lf : Nat} {r : RT} (K : KT) : ∀ fu, lpA_balerref07_Encode lf r fu ((fun a b c => K (.exit 0) (zp [1, 6, 7] [a, b, c]), fun a b => K .ret
  (zp [4, 5] [a, b]))) = fun a b c d e f g h i j => loopK (cQ 103 (pb 8 47) lf r) sA_balerref07_Encode fu (zp sA_balerref07_Encode [a, b, c, d, e, f, g, h, i, j]) K
  | 0 => by funext a b c d e f g h i j; kernel_rfl
  | fu + 1 => by
    have ih := lqA_balerref07_Encode (lf := lf) (r := r) K fu
    funext a b c d e f g h i j
    rw [lpA_balerref07_Encode]
    simp only [ih]
    kernel_rfl
theorem kqA_balerref07_Encode {lf : Nat} {r : RT} : kcA_balerref07_Encode lf r = ((fun a b c => (tK 103 (pb 7 47) lf r) (.exit 0) (zp [1, 6, 7] [a, b, c]), fun a b =>
  (tK 103 (pb 7 47) lf r) .ret (zp [4, 5] [a, b]))) := by kernel_rfl
theorem st_balerref07_Encode {lf : Nat} {r : RT} {a b : V} : evStep Tryz.prog gt lf r 103 #[a, b] = inside (b_balerref07_Encode lf r a b) := by 
  unfold b_balerref07_Encode
  simp only [kqA_balerref07_Encode, lqA_balerref07_Encode]
  kernel_rfl

def lpB_balerref05_Bits (lf : Nat) (r : RT) : Nat→(V→V→V→V→V→V→V→M V)→V→V→V→V→V→V→V→V→V→V→M V
  | 0, _, _, _, _, _, _, _, _, _, _, _ => .fail
  | fu + 1, k, a, b, c, d, e, f, g, h, i, j => kls j (ii 16) fun l => ifV l (kml (ii 16) e fun m => kad m j fun n => kcl r 140 [a, n] fun o => ifV o (kad f (Value.string
   { data := #[49] }) fun m => kad j (ii 1) fun f => lpB_balerref05_Bits lf r fu k a b c d e m bT h i f) (kad f (Value.string { data := #[48] }) fun m => kad j (ii 1)
   fun f => lpB_balerref05_Bits lf r fu k a b c d e m g h i f)) (k a b c d f g h)
def sB_balerref05_Bits : List Nat := [0, 2, 3, 4, 5, 6, 7, 9, 10, 12]
def KBB_balerref05_Bits (lf : Nat) (r : RT) (k : (V→V→M V)) (again : V→V→V→V→V→M V) : (V→V→V→V→V→V→V→M V) := fun a b c d e f g => ifV f (kad c (Value.string { data :=
  #[49] }) fun h => kad d e fun c => kad g (ii 1) fun d => again a b h c d) (kad c (Value.string { data := #[48] }) fun h => kad g (ii 1) fun c => again a b h d c)
def lpA_balerref05_Bits (lf : Nat) (r : RT) : Nat→(V→V→M V)→V→V→V→V→V→M V
  | 0, _, _, _, _, _, _ => .fail
  | fu + 1, k, a, b, c, d, e => kls e (ii 16) fun f => ifV f (lpB_balerref05_Bits lf r lf (KBB_balerref05_Bits lf r k (lpA_balerref05_Bits lf r fu k)) a b c d e
   (Value.string { data := #[] }) bF e f (ii 0)) (k c d)
def sA_balerref05_Bits : List Nat := [0, 2, 3, 4, 9]
def kcA_balerref05_Bits (lf : Nat) (r : RT) : (V→V→M V) := fun a b => kad a b fun c => outK [c]
def b_balerref05_Bits (lf : Nat) (r : RT) (a : V) : M V := lpA_balerref05_Bits lf r lf (kcA_balerref05_Bits lf r) a (Value.string { data := #[] }) (Value.string { data
  := #[] }) (Value.string { data := #[] }) (ii 0)
theorem lqB_balerref05_Bits {lf : Nat} {r : RT} (K : KT) : ∀ fu, lpB_balerref05_Bits lf r fu (fun a b c d e f g => K (.exit 2) (zp [0, 2, 3, 4, 6, 7, 9] [a, b, c, d, e,
  f, g])) = fun a b c d e f g h i j => loopK (cQ 104 (pb 18 47511) lf r) sB_balerref05_Bits fu (zp sB_balerref05_Bits [a, b, c, d, e, f, g, h, i, j]) K
  | 0 => by funext a b c d e f g h i j; kernel_rfl
  | fu + 1 => by
    have ih := lqB_balerref05_Bits (lf := lf) (r := r) K fu
    funext a b c d e f g h i j
    rw [lpB_balerref05_Bits]
    simp only [ih]
    kernel_rfl
theorem kqB_balerref05_Bits {lf : Nat} {r : RT} (K : KT) (fu : Nat) : KBB_balerref05_Bits lf r (fun a b => K (.exit 0) (zp [3, 4] [a, b])) (fun a b c d e => loopK (cQ
  104 (pb 7 23) lf r) sA_balerref05_Bits fu (zp sA_balerref05_Bits [a, b, c, d, e]) K) = (fun a b c d e f g => (iK 104 (pb 7 23) (pb 10 371) sA_balerref05_Bits fu K lf
  r) (.exit 2) (zp [0, 2, 3, 4, 6, 7, 9] [a, b, c, d, e, f, g])) := by kernel_rfl
theorem lqA_balerref05_Bits {lf : Nat} {r : RT} (K : KT) : ∀ fu, lpA_balerref05_Bits lf r fu (fun a b => K (.exit 0) (zp [3, 4] [a, b])) = fun a b c d e => loopK (cQ 104
  (pb 7 23) lf r) sA_balerref05_Bits fu (zp sA_balerref05_Bits [a, b, c, d, e]) K
  | 0 => by funext a b c d e; kernel_rfl
  | fu + 1 => by
    have ih := lqA_balerref05_Bits (lf := lf) (r := r) K fu
    funext a b c d e
    rw [lpA_balerref05_Bits]
    simp only [ih, kqB_balerref05_Bits, lqB_balerref05_Bits]
    kernel_rfl
theorem kqA_balerref05_Bits {lf : Nat} {r : RT} : kcA_balerref05_Bits lf r = (fun a b => (tK 104 (pb 6 23) lf r) (.exit 0) (zp [3, 4] [a, b])) := by kernel_rfl
theorem st_balerref05_Bits {lf : Nat} {r : RT} {a : V} : evStep Tryz.prog gt lf r 104 #[a] = inside (b_balerref05_Bits lf r a) := by 
  unfold b_balerref05_Bits
  simp only [kqA_balerref05_Bits, lqA_balerref05_Bits]
  kernel_rfl

def lpA_balerref14_Bits (lf : Nat) (r : RT) : Nat→(V→V→V→V→V→V→V→V→V→V→M V)→V→V→V→V→V→V→V→V→V→M V
  | 0, _, _, _, _, _, _, _, _, _, _ => .fail
  | fu + 1, k, a, b, c, d, e, f, g, h, i => kls i h fun j => ifV j (kix g i fun l => kld l fun m => kcl r 147 [m] fun l => kad e l fun n => kcl r 148 [m] fun e => kb1
   199 1 e fun l => kap 199 1 f l fun o => kad i (ii 1) fun e => lpA_balerref14_Bits lf r fu k a b c d n o g h e) (k a b c d e f g h i j)
def sA_balerref14_Bits : List Nat := [0, 1, 4, 5, 6, 7, 22, 23, 24]
def lpB_balerref14_Bits (lf : Nat) (r : RT) : Nat→(V→M V)→V→V→V→V→V→V→V→V→V→V→V→V→V→M V
  | 0, _, _, _, _, _, _, _, _, _, _, _, _, _, _ => .fail
  | fu + 1, k, a, b, c, d, e, f, g, h, i, j, l, m, n => kls n m fun o => ifV o (kix l n fun p => kld p fun q => kfa 1 d fun p => kld p fun s => kqu n (ii 50) fun t =>
   kix s t fun u => kld u fun v => kix f v fun w => kld w fun x => kix x q fun y => kld y fun z => kad e z fun A => kad n (ii 1) fun e => lpB_balerref14_Bits lf r fu k a b c d A f g h i j l m e) (k e)
def sB_balerref14_Bits : List Nat := [0, 1, 4, 5, 6, 7, 22, 23, 24, 25, 38, 39, 40]
def kcB_balerref14_Bits (lf : Nat) (r : RT) : (V→M V) := fun a => outK [a]
def kcA_balerref14_Bits (lf : Nat) (r : RT) : (V→V→V→V→V→V→V→V→V→V→M V) := fun a b c d e f g h i j => kln a fun l => lpB_balerref14_Bits lf r lf (kcB_balerref14_Bits lf r) a b c d e f g h i j a l (ii 0)
def b_balerref14_Bits (lf : Nat) (r : RT) (a b : V) : M V := kcl r 145 [a, b] fun c => kal 195 z195 fun d => ksg 2 d c fun _ => kfa 1 d fun c => kld c fun e => kfa 0 d
  fun f => kld f fun g => kln g fun h => kcl r 146 [e, h] fun i => kfa 0 d fun c => kld c fun e => kln e fun f => lpA_balerref14_Bits lf r lf (kcA_balerref14_Bits lf r)
  a b (Value.string { data := #[] }) d i nS e f (ii 0)
theorem lqA_balerref14_Bits {lf : Nat} {r : RT} (K : KT) : ∀ fu, lpA_balerref14_Bits lf r fu (fun a b c d e f g h i j => K (.exit 0) (zp [0, 1, 4, 5, 6, 7, 22, 23, 24,
  25] [a, b, c, d, e, f, g, h, i, j])) = fun a b c d e f g h i => loopK (cQ 105 (pb 8 47) lf r) sA_balerref14_Bits fu (zp sA_balerref14_Bits [a, b, c, d, e, f, g, h, i]) K
  | 0 => by funext a b c d e f g h i; kernel_rfl
  | fu + 1 => by
    have ih := lqA_balerref14_Bits (lf := lf) (r := r) K fu
    funext a b c d e f g h i
    rw [lpA_balerref14_Bits]
    simp only [ih]
    kernel_rfl
theorem lqB_balerref14_Bits {lf : Nat} {r : RT} (K : KT) : ∀ fu, lpB_balerref14_Bits lf r fu (fun a => K (.exit 2) (zp [6] [a])) = fun a b c d e f g h i j l m n => loopK
  (cQ 105 (pb 9 95) lf r) sB_balerref14_Bits fu (zp sB_balerref14_Bits [a, b, c, d, e, f, g, h, i, j, l, m, n]) K
  | 0 => by funext a b c d e f g h i j l m n; kernel_rfl
  | fu + 1 => by
    have ih := lqB_balerref14_Bits (lf := lf) (r := r) K fu
    funext a b c d e f g h i j l m n
    rw [lpB_balerref14_Bits]
    simp only [ih]
    kernel_rfl
theorem kqB_balerref14_Bits {lf : Nat} {r : RT} : kcB_balerref14_Bits lf r = (fun a => (tK 105 (pb 8 95) lf r) (.exit 2) (zp [6] [a])) := by kernel_rfl
theorem kqA_balerref14_Bits {lf : Nat} {r : RT} : kcA_balerref14_Bits lf r = (fun a b c d e f g h i j => (tK 105 (pb 7 47) lf r) (.exit 0) (zp [0, 1, 4, 5, 6, 7, 22, 23,
  24, 25] [a, b, c, d, e, f, g, h, i, j])) := by 
  unfold kcA_balerref14_Bits
  simp only [kqB_balerref14_Bits, lqB_balerref14_Bits]
  kernel_rfl
theorem st_balerref14_Bits {lf : Nat} {r : RT} {a b : V} : evStep Tryz.prog gt lf r 105 #[a, b] = inside (b_balerref14_Bits lf r a b) := by 
  unfold b_balerref14_Bits
  simp only [kqA_balerref14_Bits, kqB_balerref14_Bits, lqA_balerref14_Bits, lqB_balerref14_Bits]
  kernel_rfl

def lpA_balerref02_Bits (lf : Nat) (r : RT) : Nat→(V→M V)→V→V→V→M V
  | 0, _, _, _, _ => .fail
  | fu + 1, k, a, b, c => kls c (ii 8) fun d => ifV d (kgq a (i3 2147483648) fun e => ifV e (ksb a (i3 2147483648) fun f => kml f (i3 2) fun g => kxo g (i3 79764919) fun
   h => kad c (ii 1) fun a => lpA_balerref02_Bits lf r fu k h b a) (kml a (i3 2) fun f => kad c (ii 1) fun a => lpA_balerref02_Bits lf r fu k f b a)) (k a)
def sA_balerref02_Bits : List Nat := [0, 2, 3]
def kcA_balerref02_Bits (lf : Nat) (r : RT) : (V→M V) := fun a => outK [a]
def b_balerref02_Bits (lf : Nat) (r : RT) (a : V) : M V := lpA_balerref02_Bits lf r lf (kcA_balerref02_Bits lf r) a (i3 0) (ii 0)
theorem lqA_balerref02_Bits {lf : Nat} {r : RT} (K : KT) : ∀ fu, lpA_balerref02_Bits lf r fu (fun a => K (.exit 0) (zp [0] [a])) = fun a b c => loopK (cQ 106 (pb 5 5) lf
  r) sA_balerref02_Bits fu (zp sA_balerref02_Bits [a, b, c]) K
  | 0 => by funext a b c; kernel_rfl
  | fu + 1 => by
    have ih := lqA_balerref02_Bits (lf := lf) (r := r) K fu
    funext a b c
    rw [lpA_balerref02_Bits]
    simp only [ih]
    kernel_rfl
theorem kqA_balerref02_Bits {lf : Nat} {r : RT} : kcA_balerref02_Bits lf r = (fun a => (tK 106 (pb 4 5) lf r) (.exit 0) (zp [0] [a])) := by kernel_rfl
theorem st_balerref02_Bits {lf : Nat} {r : RT} {a : V} : evStep Tryz.prog gt lf r 106 #[a] = inside (b_balerref02_Bits lf r a) := by 
  unfold b_balerref02_Bits
  simp only [kqA_balerref02_Bits, lqA_balerref02_Bits]
  kernel_rfl

def b_press_Press_pay (lf : Nat) (r : RT) (a : V) : M V := knn a fun b => kfa 7 b fun c => kld c fun d => kad d (ii 1) fun e => knn a fun f => kfa 7 f fun g => kst g e
  fun _ => knn a fun b => kfa 7 b fun c => kld c fun d => knn a fun e => kfa 5 e fun f => kld f fun g => kiy 3 g (ii 0) fun h => kfa 0 h fun i => kld i fun j => klx j
  fun l => kls d l fun m => ifV m (outK []) (knn a fun b => kfa 6 b fun c => kld c fun d => kcl r 94 [d] fun e => kex e 0 fun f => kex e 1 fun g => knn a fun b => kfa 8
  b fun c => kld c fun d => knn a fun e => kfa 5 e fun h => kld h fun i => kiy 3 i (ii 0) fun j => kfa 1 j fun l => kld l fun n => kcl r 24 [d, f, g, n] fun o => knn a
  fun b => kfa 9 b fun c => (timed (kld c M.ret)).bind fun d => knn a fun e => kfa 8 e fun h => (timed (kld h M.ret)).bind fun i => (timed (kcl r 20 [i.1] M.ret)).bind
  fun j => kad d.1 j.1 fun l => knn a fun n => kfa 9 n fun o => (timed (kst o l M.ret)).bind fun p => chkT ((!(clash3 d.2 j.2) && true) && true) (knn a fun b => kfa 5 b
  fun c => kld c fun d => ksc 42 3 d (some (ii 1)) none fun e => knn a fun h => kfa 5 h fun i => kst i e fun _ => knn a fun b => kfa 6 b fun c => kst c nP fun _ => knn a
  fun b => kfa 7 b fun c => kst c (ii 0) fun _ => outK []))
theorem st_press_Press_pay {lf : Nat} {r : RT} {a : V} : evStep Tryz.prog gt lf r 107 #[a] = inside (b_press_Press_pay lf r a) := by kernel_rfl

def b_press_Press_take (lf : Nat) (r : RT) (a : V) : M V := knn a fun b => kfa 3 b fun c => (timed (kld c M.ret)).bind fun d => knn a fun e => kfa 1 e fun f => (timed
  (kld f M.ret)).bind fun g => kit g.1 (ii 0) fun h => (timed (kcl r 53 [d.1, h] M.ret)).bind fun i => kex i.1 0 fun j => kex i.1 1 fun l => (timed (kal 42 z42
  M.ret)).bind fun m => (timed (ksg 3 m.1 j M.ret)).bind fun n => chkT ((!(clash3 i.2 m.2) && true) && true) (knn a fun b => kfa 1 b fun c => kld c fun d => ksx d (some
  (ii 1)) none fun e => knn a fun f => kfa 1 f fun g => kst g e fun _ => ifV l (knn a fun b => kfa 5 b fun c => kld c fun d => klg 3 m.1 fun e => kb1 42 3 e fun f => kap
  42 3 d f fun g => knn a fun h => kfa 5 h fun i => kst i g fun _ => kcl r 75 [a] fun b => outK []) (kcl r 75 [a] fun b => outK []))
theorem st_press_Press_take {lf : Nat} {r : RT} {a : V} : evStep Tryz.prog gt lf r 108 #[a] = inside (b_press_Press_take lf r a) := by kernel_rfl

def b_sorter_Sorter_Held (lf : Nat) (r : RT) (a : V) : M V := kpe a nP fun b => ifV b (outK [(ii 0)]) (knn a fun c => kfa 0 c fun d => kld d fun e => klx e fun f => kml (ii 3) f fun g => outK [g])
theorem st_sorter_Sorter_Held {lf : Nat} {r : RT} {a : V} : evStep Tryz.prog gt lf r 109 #[a] = inside (b_sorter_Sorter_Held lf r a) := by kernel_rfl

def lpA_balerref03_row (lf : Nat) (r : RT) : Nat→(V→M V)→V→V→V→M V
  | 0, _, _, _, _ => .fail
  | fu + 1, k, a, b, c => klx a fun d => kls c d fun e => ifV e (kls c (ii 255) fun f => ifV f (kit a c fun g => kit a (ii 0) fun h => keq g h fun i => ifV i (kad c (ii
   1) fun d => lpA_balerref03_row lf r fu k a b d) (k c)) (k c)) (k c)
def sA_balerref03_row : List Nat := [0, 2, 3]
def kcA_balerref03_row (lf : Nat) (r : RT) : (V→M V) := fun a => outK [a]
def b_balerref03_row (lf : Nat) (r : RT) (a : V) : M V := lpA_balerref03_row lf r lf (kcA_balerref03_row lf r) a (ii 0) (ii 0)
theorem lqA_balerref03_row {lf : Nat} {r : RT} (K : KT) : ∀ fu, lpA_balerref03_row lf r fu (fun a => K (.exit 0) (zp [3] [a])) = fun a b c => loopK (cQ 111 (pb 5 3) lf
  r) sA_balerref03_row fu (zp sA_balerref03_row [a, b, c]) K
  | 0 => by funext a b c; kernel_rfl
  | fu + 1 => by
    have ih := lqA_balerref03_row (lf := lf) (r := r) K fu
    funext a b c
    rw [lpA_balerref03_row]
    simp only [ih]
    kernel_rfl
theorem kqA_balerref03_row {lf : Nat} {r : RT} : kcA_balerref03_row lf r = (fun a => (tK 111 (pb 4 3) lf r) (.exit 0) (zp [3] [a])) := by kernel_rfl
theorem st_balerref03_row {lf : Nat} {r : RT} {a : V} : evStep Tryz.prog gt lf r 111 #[a] = inside (b_balerref03_row lf r a) := by 
  unfold b_balerref03_row
  simp only [kqA_balerref03_row, lqA_balerref03_row]
  kernel_rfl

def lpA_balerref17_From (lf : Nat) (r : RT) : Nat→(V→V→M V)→V→V→V→V→V→V→V→M V
  | 0, _, _, _, _, _, _, _, _ => .fail
  | fu + 1, k, a, b, c, d, e, f, g => kls g f fun h => ifV h (kix e g fun i => kld i fun j => kcl r 151 [a, j] fun i => kfa 0 d fun l => kld l fun m => klx i fun n =>
   ksb n (ii 1) fun o => ksx i (some o) none fun p => kad m p fun q => kfa 0 d fun s => kst s q fun _ => keq j (ii 0) fun l => ifV l (kfa 1 d fun m => kst m g fun _ =>
   kad g (ii 1) fun m => lpA_balerref17_From lf r fu k a b c d e f m) (kad g (ii 1) fun m => lpA_balerref17_From lf r fu k a b c d e f m)) (k c d)
def sA_balerref17_From : List Nat := [0, 1, 4, 5, 10, 11, 12]
def kcA_balerref17_From (lf : Nat) (r : RT) : (V→V→M V) := fun a b => klg 2 b fun c => ksg 2 a c fun _ => klg 2 a fun b => outK [b]
def b_balerref17_From (lf : Nat) (r : RT) (a b : V) : M V := kal 116 z116 fun c => kbd z116 [] fun d => kal 116 z116 fun e => ksg 2 e d fun _ => kln b fun d =>
  lpA_balerref17_From lf r lf (kcA_balerref17_From lf r) a b c e b d (ii 0)
theorem lqA_balerref17_From {lf : Nat} {r : RT} (K : KT) : ∀ fu, lpA_balerref17_From lf r fu (fun a b => K (.exit 0) (zp [4, 5] [a, b])) = fun a b c d e f g => loopK (cQ
  112 (pb 6 11) lf r) sA_balerref17_From fu (zp sA_balerref17_From [a, b, c, d, e, f, g]) K
  | 0 => by funext a b c d e f g; kernel_rfl
  | fu + 1 => by
    have ih := lqA_balerref17_From (lf := lf) (r := r) K fu
    funext a b c d e f g
    rw [lpA_balerref17_From]
    simp only [ih]
    kernel_rfl
theorem kqA_balerref17_From {lf : Nat} {r : RT} : kcA_balerref17_From lf r = (fun a b => (tK 112 (pb 5 11) lf r) (.exit 0) (zp [4, 5] [a, b])) := by kernel_rfl
theorem st_balerref17_From {lf : Nat} {r : RT} {a b : V} : evStep Tryz.prog gt lf r 112 #[a, b] = inside (b_balerref17_From lf r a b) := by 
  unfold b_balerref17_From
  simp only [kqA_balerref17_From, lqA_balerref17_From]
  kernel_rfl

def lpB_balerref15_Sorted (lf : Nat) (r : RT) : Nat→(V→V→V→V→V→V→V→M V)→V→V→V→V→V→V→V→V→V→V→V→V→M V
  | 0, _, _, _, _, _, _, _, _, _, _, _, _, _ => .fail
  | fu + 1, k, a, b, c, d, e, f, g, h, i, j, l, m => kls m l fun n => ifV n (kix j m fun o => kld o fun p => knt f fun o => ifV o (kcl r 152 [a, d, p] fun q => (fun o =>
   ifV q (kb1 3 1 d fun s => kap 3 1 e s fun t => o t bT) (o e f)) fun e f => kb1 3 1 p fun o => kap 3 1 e o fun s => kad m (ii 1) fun e => lpB_balerref15_Sorted lf r fu
   k a b c d s f g h i j l e) (kb1 3 1 p fun o => kap 3 1 e o fun q => kad m (ii 1) fun e => lpB_balerref15_Sorted lf r fu k a b c d q f g h i j l e)) (k a b d e f g h)
def sB_balerref15_Sorted : List Nat := [0, 2, 3, 4, 5, 6, 10, 11, 12, 14, 15, 16]
def KBB_balerref15_Sorted (lf : Nat) (r : RT) (k : (V→M V)) (again : V→V→V→V→V→M V) : (V→V→V→V→V→V→V→M V) := fun a b c d e f g => knt e fun h => ifV h (kb1 3 1 c fun i
  => kap 3 1 d i fun j => kad g (ii 1) fun d => again a b j f d) (kad g (ii 1) fun i => again a b d f i)
def lpA_balerref15_Sorted (lf : Nat) (r : RT) : Nat→(V→M V)→V→V→V→V→V→M V
  | 0, _, _, _, _, _, _ => .fail
  | fu + 1, k, a, b, c, d, e => kls e d fun f => ifV f (kln c fun g => lpB_balerref15_Sorted lf r lf (KBB_balerref15_Sorted lf r k (lpA_balerref15_Sorted lf r fu k)) a b c e nS bF d e f c g (ii 0)) (k c)
def sA_balerref15_Sorted : List Nat := [0, 2, 3, 10, 11]
def kcA_balerref15_Sorted (lf : Nat) (r : RT) : (V→M V) := fun a => outK [a]
def b_balerref15_Sorted (lf : Nat) (r : RT) (a : V) : M V := klx a fun b => lpA_balerref15_Sorted lf r lf (kcA_balerref15_Sorted lf r) a nS nS b (ii 0)
theorem lqB_balerref15_Sorted {lf : Nat} {r : RT} (K : KT) : ∀ fu, lpB_balerref15_Sorted lf r fu (fun a b c d e f g => K (.exit 2) (zp [0, 2, 4, 5, 6, 10, 11] [a, b, c,
  d, e, f, g])) = fun a b c d e f g h i j l m => loopK (cQ 113 (pb 17 23755) lf r) sB_balerref15_Sorted fu (zp sB_balerref15_Sorted [a, b, c, d, e, f, g, h, i, j, l, m]) K
  | 0 => by funext a b c d e f g h i j l m; kernel_rfl
  | fu + 1 => by
    have ih := lqB_balerref15_Sorted (lf := lf) (r := r) K fu
    funext a b c d e f g h i j l m
    rw [lpB_balerref15_Sorted]
    simp only [ih]
    kernel_rfl
theorem kqB_balerref15_Sorted {lf : Nat} {r : RT} (K : KT) (fu : Nat) : KBB_balerref15_Sorted lf r (fun a => K (.exit 0) (zp [3] [a])) (fun a b c d e => loopK (cQ 113
  (pb 6 11) lf r) sA_balerref15_Sorted fu (zp sA_balerref15_Sorted [a, b, c, d, e]) K) = (fun a b c d e f g => (iK 113 (pb 6 11) (pb 10 371) sA_balerref15_Sorted fu K lf
  r) (.exit 2) (zp [0, 2, 4, 5, 6, 10, 11] [a, b, c, d, e, f, g])) := by kernel_rfl
theorem lqA_balerref15_Sorted {lf : Nat} {r : RT} (K : KT) : ∀ fu, lpA_balerref15_Sorted lf r fu (fun a => K (.exit 0) (zp [3] [a])) = fun a b c d e => loopK (cQ 113 (pb
  6 11) lf r) sA_balerref15_Sorted fu (zp sA_balerref15_Sorted [a, b, c, d, e]) K
  | 0 => by funext a b c d e; kernel_rfl
  | fu + 1 => by
    have ih := lqA_balerref15_Sorted (lf := lf) (r := r) K fu
    funext a b c d e
    rw [lpA_balerref15_Sorted]
    simp only [ih, kqB_balerref15_Sorted, lqB_balerref15_Sorted]
    kernel_rfl
theorem kqA_balerref15_Sorted {lf : Nat} {r : RT} : kcA_balerref15_Sorted lf r = (fun a => (tK 113 (pb 5 11) lf r) (.exit 0) (zp [3] [a])) := by kernel_rfl
theorem st_balerref15_Sorted {lf : Nat} {r : RT} {a : V} : evStep Tryz.prog gt lf r 113 #[a] = inside (b_balerref15_Sorted lf r a) := by 
  unfold b_balerref15_Sorted
  simp only [kqA_balerref15_Sorted, lqA_balerref15_Sorted]
  kernel_rfl

def b_balerref02_Combine (lf : Nat) (r : RT) (a b : V) : M V := kml a (i3 2) fun c => kgq a (i3 2147483648) fun d => ifV d (kad c (i3 1) fun e => kxo e b fun c => outK [c]) (kxo c b fun e => outK [e])
theorem st_balerref02_Combine {lf : Nat} {r : RT} {a b : V} : evStep Tryz.prog gt lf r 114 #[a, b] = inside (b_balerref02_Combine lf r a b) := by kernel_rfl

def lpB_crc_Table (lf : Nat) (r : RT) : Nat→(V→V→V→V→V→M V)→V→V→V→V→V→V→V→M V
  | 0, _, _, _, _, _, _, _, _ => .fail
  | fu + 1, k, a, b, c, d, e, f, g => kls g (ii 8) fun h => ifV h (ksr d (i6 31) fun i => ksl d (i6 1) fun j => kml i (i3 79764919) fun l => kxo j l fun m => kad g (ii
   1) fun d => lpB_crc_Table lf r fu k a b c m e f d) (k a b c d e)
def sB_crc_Table : List Nat := [0, 1, 2, 3, 5, 6, 11]
def KBB_crc_Table (lf : Nat) (r : RT) (k : (V→V→M V)) (again : V→V→V→M V) : (V→V→V→V→V→M V) := fun a b c d e => kia 256 b c fun f => kst f d fun _ => kad e (ii 1) fun f => again a b f
def lpA_crc_Table (lf : Nat) (r : RT) : Nat→(V→V→M V)→V→V→V→M V
  | 0, _, _, _, _ => .fail
  | fu + 1, k, a, b, c => kls c (ii 256) fun d => ifV d (kcv .u32 c fun e => ksl e (i6 24) fun f => lpB_crc_Table lf r lf (KBB_crc_Table lf r k (lpA_crc_Table lf r fu k)) a b c f c d (ii 0)) (k a b)
def sA_crc_Table : List Nat := [0, 1, 5]
abbrev kcB_crc_Table (lf : Nat) (r : RT) (fu : Nat) (k : (V→V→M V)) : (V→V→V→V→V→M V) := KBB_crc_Table lf r k (lpA_crc_Table lf r fu k)
def kcA_crc_Table (lf : Nat) (r : RT) : (V→V→M V) := fun a b => klg 256 b fun c => ksg 256 a c fun _ => klg 256 a fun b => outK [b]
def b_crc_Table (lf : Nat) (r : RT)  : M V := kal 158 z158 fun a => kal 158 z158 fun b => lpA_crc_Table lf r lf (kcA_crc_Table lf r) a b (ii 0)
theorem lqB_crc_Table {lf : Nat} {r : RT} (K : KT) : ∀ fu, lpB_crc_Table lf r fu (fun a b c d e => K (.exit 2) (zp [0, 1, 2, 3, 5] [a, b, c, d, e])) = fun a b c d e f g
  => loopK (cQ 115 (pb 16 11467) lf r) sB_crc_Table fu (zp sB_crc_Table [a, b, c, d, e, f, g]) K
  | 0 => by funext a b c d e f g; kernel_rfl
  | fu + 1 => by
    have ih := lqB_crc_Table (lf := lf) (r := r) K fu
    funext a b c d e f g
    rw [lpB_crc_Table]
    simp only [ih]
    kernel_rfl
theorem kqB_crc_Table {lf : Nat} {r : RT} (K : KT) (fu : Nat) : KBB_crc_Table lf r (fun a b => K (.exit 0) (zp [0, 1] [a, b])) (fun a b c => loopK (cQ 115 (pb 6 11) lf
  r) sA_crc_Table fu (zp sA_crc_Table [a, b, c]) K) = (fun a b c d e => (iK 115 (pb 6 11) (pb 9 179) sA_crc_Table fu K lf r) (.exit 2) (zp [0, 1, 2, 3, 5] [a, b, c, d, e])) := by kernel_rfl
theorem lqA_crc_Table {lf : Nat} {r : RT} (K : KT) : ∀ fu, lpA_crc_Table lf r fu (fun a b => K (.exit 0) (zp [0, 1] [a, b])) = fun a b c => loopK (cQ 115 (pb 6 11) lf r)
  sA_crc_Table fu (zp sA_crc_Table [a, b, c]) K
  | 0 => by funext a b c; kernel_rfl
  | fu + 1 => by
    have ih := lqA_crc_Table (lf := lf) (r := r) K fu
    funext a b c
    rw [lpA_crc_Table]
    simp only [ih, kqB_crc_Table, lqB_crc_Table]
    kernel_rfl
theorem kqA_crc_Table {lf : Nat} {r : RT} : kcA_crc_Table lf r = (fun a b => (tK 115 (pb 5 11) lf r) (.exit 0) (zp [0, 1] [a, b])) := by kernel_rfl
theorem st_crc_Table {lf : Nat} {r : RT}  : evStep Tryz.prog gt lf r 115 #[] = inside (b_crc_Table lf r) := by 
  unfold b_crc_Table
  simp only [kqA_crc_Table, lqA_crc_Table]
  kernel_rfl

def b_feed_Packer_close (lf : Nat) (r : RT) (a : V) : M V := knn a fun b => kfa 0 b fun c => klg 2 c fun d => kcl r 153 [d] fun e => kex e 0 fun f => kex e 1 fun g =>
  kbd z113 [] fun b => knn a fun c => kfa 0 c fun d => ksg 2 d b fun _ => outK [f]
theorem st_feed_Packer_close {lf : Nat} {r : RT} {a : V} : evStep Tryz.prog gt lf r 116 #[a] = inside (b_feed_Packer_close lf r a) := by kernel_rfl

def lpA_split_begun_take (lf : Nat) (r : RT) : Nat→(M V)→V→V→V→V→V→V→M V
  | 0, _, _, _, _, _, _, _ => .fail
  | fu + 1, k, a, b, c, d, e, f => kls f e fun g => ifV g (knn a fun h => kfa 1 h fun i => kld i fun j => kfa 0 c fun l => kld l fun m => kcl r 154 [j, m] fun n => kad f
   (ii 1) fun h => lpA_split_begun_take lf r fu k a b c d e h) (k)
def sA_split_begun_take : List Nat := [0, 1, 3, 4, 30, 31]
def kcA_split_begun_take (lf : Nat) (r : RT) : (M V) := outK []
def b_split_begun_take (lf : Nat) (r : RT) (a b : V) : M V := kbx 113 b fun c => klg 2 c fun d => kcl r 153 [d] fun e => kex e 0 fun f => kex e 1 fun g => knn a fun d =>
  kfa 0 d fun e => kld e fun g => kap 5 1 g f fun h => knn a fun i => kfa 0 i fun j => kst j h fun _ => knn a fun d => kfa 2 d fun e => kld e fun g => kfa 1 c fun h =>
  kld h fun i => kad g i fun j => knn a fun l => kfa 2 l fun m => kst m j fun _ => kfa 1 c fun d => kld d fun e => lpA_split_begun_take lf r lf (kcA_split_begun_take lf r) a b c f e (ii 0)
theorem lqA_split_begun_take {lf : Nat} {r : RT} (K : KT) : ∀ fu, lpA_split_begun_take lf r fu (K (.exit 0) []) = fun a b c d e f => loopK (cQ 117 (pb 7 31) lf r)
  sA_split_begun_take fu (zp sA_split_begun_take [a, b, c, d, e, f]) K
  | 0 => by funext a b c d e f; kernel_rfl
  | fu + 1 => by
    have ih := lqA_split_begun_take (lf := lf) (r := r) K fu
    funext a b c d e f
    rw [lpA_split_begun_take]
    simp only [ih]
    kernel_rfl
theorem kqA_split_begun_take {lf : Nat} {r : RT} : kcA_split_begun_take lf r = ((tK 117 (pb 6 31) lf r) (.exit 0) []) := by kernel_rfl
theorem st_split_begun_take {lf : Nat} {r : RT} {a b : V} : evStep Tryz.prog gt lf r 117 #[a, b] = inside (b_split_begun_take lf r a b) := by 
  unfold b_split_begun_take
  simp only [kqA_split_begun_take, lqA_split_begun_take]
  kernel_rfl

def b_crc_Sum_Value (lf : Nat) (r : RT) (a : V) : M V := kpe a nP fun b => ifV b (outK [(i3 0)]) (knn a fun c => kfa 256 c fun d => kld d fun e => knx e fun f => outK [f])
theorem st_crc_Sum_Value {lf : Nat} {r : RT} {a : V} : evStep Tryz.prog gt lf r 118 #[a] = inside (b_crc_Sum_Value lf r a) := by kernel_rfl

def b_crc_Sum_Reset (lf : Nat) (r : RT) (a : V) : M V := kpn a nP fun b => ifV b (knn a fun c => kfa 256 c fun d => kst d (i3 4294967295) fun _ => outK []) (outK [])
theorem st_crc_Sum_Reset {lf : Nat} {r : RT} {a : V} : evStep Tryz.prog gt lf r 119 #[a] = inside (b_crc_Sum_Reset lf r a) := by kernel_rfl

def lpA_sorter_New (lf : Nat) (r : RT) : Nat→(V→V→M V)→V→V→V→V→V→V→V→V→M V
  | 0, _, _, _, _, _, _, _, _, _ => .fail
  | fu + 1, k, a, b, c, d, e, f, g, h => kls h g fun i => ifV i (knn e fun j => kfa 1 j fun l => kld l fun m => kix m h fun n => kst n h fun _ => kad h (ii 1) fun j =>
   lpA_sorter_New lf r fu k a b c d e f g j) (k d e)
def sA_sorter_New : List Nat := [0, 2, 3, 4, 5, 10, 26, 27]
def kcA_sorter_New (lf : Nat) (r : RT) : (V→V→M V) := fun a b => kbd z203 [(0, 1, (ii 0)), (2, 1, a)] fun c => kb1 203 3 c fun d => knn b fun e => kfa 5 e fun f => kst f d fun _ => outK [b, (ii 0)]
def b_sorter_New (lf : Nat) (r : RT) (a : V) : M V := klx a fun b => kgr b (ii 900000) fun c => ifV c (outK [nP, (ii 2)]) (kmk 3 [(ii 0)] b b fun d => kmk 3 [(ii 0)] b b
  fun e => kmk 3 [(ii 0)] b b fun f => kls b (ii 2) fun g => kbd z205 [(0, 1, a), (1, 1, d), (2, 1, e), (3, 1, f), (15, 1, g)] fun h => kbx 205 h fun i => knn i fun d =>
  kfa 1 d fun e => kld e fun f => kln f fun g => lpA_sorter_New lf r lf (kcA_sorter_New lf r) a nP (ii 0) b i c g (ii 0))
theorem lqA_sorter_New {lf : Nat} {r : RT} (K : KT) : ∀ fu, lpA_sorter_New lf r fu (fun a b => K (.exit 0) (zp [4, 5] [a, b])) = fun a b c d e f g h => loopK (cQ 120 (pb
  8 47) lf r) sA_sorter_New fu (zp sA_sorter_New [a, b, c, d, e, f, g, h]) K
  | 0 => by funext a b c d e f g h; kernel_rfl
  | fu + 1 => by
    have ih := lqA_sorter_New (lf := lf) (r := r) K fu
    funext a b c d e f g h
    rw [lpA_sorter_New]
    simp only [ih]
    kernel_rfl
theorem kqA_sorter_New {lf : Nat} {r : RT} : kcA_sorter_New lf r = (fun a b => (tK 120 (pb 7 47) lf r) (.exit 0) (zp [4, 5] [a, b])) := by kernel_rfl
theorem st_sorter_New {lf : Nat} {r : RT} {a : V} : evStep Tryz.prog gt lf r 120 #[a] = inside (b_sorter_New lf r a) := by 
  unfold b_sorter_New
  simp only [kqA_sorter_New, lqA_sorter_New]
  kernel_rfl

def lpA_sorter_Sorter_Step (lf : Nat) (r : RT) : Nat→(V→V→M V)→V→V→V→V→V→M V
  | 0, _, _, _, _, _, _ => .fail
  | fu + 1, k, a, b, c, d, e => knn a fun f => kfa 15 f fun g => kld g fun h => knt h fun i => ifV i (knn a fun j => kfa 14 j fun l => kld l fun m => ksb m d fun n =>
   kls n b fun o => ifV o (kcl r 155 [a] fun f => lpA_sorter_Sorter_Step lf r fu k a b c d e) (k a d)) (k a d)
def sA_sorter_Sorter_Step : List Nat := [0, 1, 4, 5, 7]
def kcA_sorter_Sorter_Step (lf : Nat) (r : RT) : (V→V→M V) := fun a b => knn a fun c => kfa 14 c fun d => kld d fun e => ksb e b fun f => outK [f]
def b_sorter_Sorter_Step (lf : Nat) (r : RT) (a b : V) : M V := kpe a nP fun c => ifV c (outK [(ii 0)]) (knn a fun d => kfa 14 d fun e => kld e fun f =>
  lpA_sorter_Sorter_Step lf r lf (kcA_sorter_Sorter_Step lf r) a b (ii 0) f c)
theorem lqA_sorter_Sorter_Step {lf : Nat} {r : RT} (K : KT) : ∀ fu, lpA_sorter_Sorter_Step lf r fu (fun a b => K (.exit 0) (zp [0, 5] [a, b])) = fun a b c d e => loopK
  (cQ 121 (pb 6 7) lf r) sA_sorter_Sorter_Step fu (zp sA_sorter_Sorter_Step [a, b, c, d, e]) K
  | 0 => by funext a b c d e; kernel_rfl
  | fu + 1 => by
    have ih := lqA_sorter_Sorter_Step (lf := lf) (r := r) K fu
    funext a b c d e
    rw [lpA_sorter_Sorter_Step]
    simp only [ih]
    kernel_rfl
theorem kqA_sorter_Sorter_Step {lf : Nat} {r : RT} : kcA_sorter_Sorter_Step lf r = (fun a b => (tK 121 (pb 5 7) lf r) (.exit 0) (zp [0, 5] [a, b])) := by kernel_rfl
theorem st_sorter_Sorter_Step {lf : Nat} {r : RT} {a b : V} : evStep Tryz.prog gt lf r 121 #[a, b] = inside (b_sorter_Sorter_Step lf r a b) := by 
  unfold b_sorter_Sorter_Step
  simp only [kqA_sorter_Sorter_Step, lqA_sorter_Sorter_Step]
  kernel_rfl

def b_sorter_Sorter_Done (lf : Nat) (r : RT) (a : V) : M V := kpn a nP fun b => ifV b (knn a fun c => kfa 15 c fun d => kld d fun e => outK [e]) (outK [bF])
theorem st_sorter_Sorter_Done {lf : Nat} {r : RT} {a : V} : evStep Tryz.prog gt lf r 122 #[a] = inside (b_sorter_Sorter_Done lf r a) := by kernel_rfl

def b_sorter_Sorter_Order (lf : Nat) (r : RT) (a : V) : M V := kcl r 122 [a] fun b => knt b fun c => ifV c (outK [nS]) (knn a fun b => kfa 1 b fun d => kld d fun e => kcl r 156 [e] fun f => outK [f])
theorem st_sorter_Sorter_Order {lf : Nat} {r : RT} {a : V} : evStep Tryz.prog gt lf r 123 #[a] = inside (b_sorter_Sorter_Order lf r a) := by kernel_rfl

def b_bwt_Turner_take (lf : Nat) (r : RT) (a : V) : M V := knn a fun b => kfa 3 b fun c => kld c fun d => kln d fun e => knn a fun b => kfa 2 b fun c => kld c fun d =>
  kix d e fun f => kld f fun g => keq g (ii 0) fun b => (fun c => ifV b (knn a fun d => kfa 4 d fun f => kst f e fun _ => c) (c)) (knn a fun c => kfa 3 c fun d => (timed
  (kld d M.ret)).bind fun f => knn a fun h => kfa 0 h fun i => (timed (kld i M.ret)).bind fun j => (timed (kcl r 157 [j.1, g] M.ret)).bind fun l => (timed (kb1 5 1 l.1
  M.ret)).bind fun m => (timed (kap 5 1 f.1 m.1 M.ret)).bind fun n => knn a fun o => kfa 3 o fun p => (timed (kst p n.1 M.ret)).bind fun q => chkT ((!(clash3 f.2 l.2) && true) && true) (outK []))
theorem st_bwt_Turner_take {lf : Nat} {r : RT} {a : V} : evStep Tryz.prog gt lf r 124 #[a] = inside (b_bwt_Turner_take lf r a) := by kernel_rfl

def lpA_used_listed (lf : Nat) (r : RT) : Nat→(V→M V)→V→V→V→V→V→V→M V
  | 0, _, _, _, _, _, _, _ => .fail
  | fu + 1, k, a, b, c, d, e, f => kls f (ii 256) fun g => ifV g (kiv 256 e f fun h => ifV h (kcv .u8 f fun i => kb1 5 1 i fun j => kap 5 1 d j fun l => kad f (ii 1) fun
   d => lpA_used_listed lf r fu k a b c l e d) (kad f (ii 1) fun i => lpA_used_listed lf r fu k a b c d e i)) (k d)
def sA_used_listed : List Nat := [0, 1, 2, 3, 6, 7]
def kcA_used_listed (lf : Nat) (r : RT) : (V→M V) := fun a => kts a fun b => outK [b]
def b_used_listed (lf : Nat) (r : RT) (a : V) : M V := kbx 169 a fun b => klg 256 b fun c => lpA_used_listed lf r lf (kcA_used_listed lf r) a b (Value.string { data := #[] }) nS c (ii 0)
theorem lqA_used_listed {lf : Nat} {r : RT} (K : KT) : ∀ fu, lpA_used_listed lf r fu (fun a => K (.exit 0) (zp [3] [a])) = fun a b c d e f => loopK (cQ 125 (pb 6 11) lf
  r) sA_used_listed fu (zp sA_used_listed [a, b, c, d, e, f]) K
  | 0 => by funext a b c d e f; kernel_rfl
  | fu + 1 => by
    have ih := lqA_used_listed (lf := lf) (r := r) K fu
    funext a b c d e f
    rw [lpA_used_listed]
    simp only [ih]
    kernel_rfl
theorem kqA_used_listed {lf : Nat} {r : RT} : kcA_used_listed lf r = (fun a => (tK 125 (pb 5 11) lf r) (.exit 0) (zp [3] [a])) := by kernel_rfl
theorem st_used_listed {lf : Nat} {r : RT} {a : V} : evStep Tryz.prog gt lf r 125 #[a] = inside (b_used_listed lf r a) := by 
  unfold b_used_listed
  simp only [kqA_used_listed, lqA_used_listed]
  kernel_rfl

def b_mtf_New (lf : Nat) (r : RT) (a : V) : M V := kcl r 134 [a] fun b => knt b fun c => ifV c (outK [nP, (ii 1)]) (ktb 5 a fun b => kbd z211 [(0, 1, b)] fun d => kbx 211 d fun e => outK [e, (ii 0)])
theorem st_mtf_New {lf : Nat} {r : RT} {a : V} : evStep Tryz.prog gt lf r 126 #[a] = inside (b_mtf_New lf r a) := by kernel_rfl

def b_mtf_List_Find (lf : Nat) (r : RT) (a b : V) : M V := kpe a nP fun c => ifV c (outK [(ii 0), (ii 7)]) (knn a fun d => kfa 0 d fun e => kld e fun f => kcl r 158 [f,
  b] fun g => kls g (ii 0) fun d => ifV d (outK [(ii 0), (ii 6)]) (kcl r 159 [a, g] fun e => outK [g, (ii 0)]))
theorem st_mtf_List_Find {lf : Nat} {r : RT} {a b : V} : evStep Tryz.prog gt lf r 127 #[a, b] = inside (b_mtf_List_Find lf r a b) := by kernel_rfl

def b_zeros_may (lf : Nat) (r : RT) (a : V) : M V := kgq a (ii 1) fun b => ifV b (klq a (ii 256) fun c => outK [c]) (outK [bF])
theorem st_zeros_may {lf : Nat} {r : RT} {a : V} : evStep Tryz.prog gt lf r 128 #[a] = inside (b_zeros_may lf r a) := by kernel_rfl

def lpA_zeros_row (lf : Nat) (r : RT) : Nat→(V→M V)→V→V→V→M V
  | 0, _, _, _, _ => .fail
  | fu + 1, k, a, b, c => kgr a (ii 0) fun d => ifV d (krm a (ii 2) fun e => keq e (ii 1) fun f => (fun e => ifV f (e (ii 0)) (e (ii 1))) fun e => kb1 3 1 e fun g => kap
   3 1 c g fun h => ksb a e fun c => ksb c (ii 1) fun g => kqu g (ii 2) fun i => lpA_zeros_row lf r fu k i b h) (k c)
def sA_zeros_row : List Nat := [0, 2, 3]
def kcA_zeros_row (lf : Nat) (r : RT) : (V→M V) := fun a => outK [a]
def b_zeros_row (lf : Nat) (r : RT) (a : V) : M V := lpA_zeros_row lf r lf (kcA_zeros_row lf r) a nS nS
theorem lqA_zeros_row {lf : Nat} {r : RT} (K : KT) : ∀ fu, lpA_zeros_row lf r fu (fun a => K (.exit 0) (zp [3] [a])) = fun a b c => loopK (cQ 129 (pb 5 3) lf r) sA_zeros_row fu (zp sA_zeros_row [a, b, c]) K
  | 0 => by funext a b c; kernel_rfl
  | fu + 1 => by
    have ih := lqA_zeros_row (lf := lf) (r := r) K fu
    funext a b c
    rw [lpA_zeros_row]
    simp only [ih]
    kernel_rfl
theorem kqA_zeros_row {lf : Nat} {r : RT} : kcA_zeros_row lf r = (fun a => (tK 129 (pb 4 3) lf r) (.exit 0) (zp [3] [a])) := by kernel_rfl
theorem st_zeros_row {lf : Nat} {r : RT} {a : V} : evStep Tryz.prog gt lf r 129 #[a] = inside (b_zeros_row lf r a) := by 
  unfold b_zeros_row
  simp only [kqA_zeros_row, lqA_zeros_row]
  kernel_rfl

def b_code_chosen (lf : Nat) (r : RT) (a b : V) : M V := kal 178 z178 fun c => kln a fun d => keq d (ii 0) fun e => ifV e (kbd z178 [] fun d => ksg 2 c d fun _ => klg 2
  c fun a => outK [a, (ii 1)]) (ksb b (ii 1) fun f => kcl r 160 [a, f] fun g => kln a fun h => ksb h (ii 1) fun i => kne g i fun j => ifV j (kbd z178 [] fun d => ksg 2 c
  d fun _ => klg 2 c fun a => outK [a, (ii 1)]) (kcl r 161 [a, b] fun d => kex d 0 fun e => kex d 1 fun f => ksg 2 c e fun _ => klg 2 c fun a => outK [a, f]))
theorem st_code_chosen {lf : Nat} {r : RT} {a b : V} : evStep Tryz.prog gt lf r 130 #[a, b] = inside (b_code_chosen lf r a b) := by kernel_rfl

def lpA_picks_Bits (lf : Nat) (r : RT) : Nat→(V→M V)→V→V→V→V→V→V→V→V→V→M V
  | 0, _, _, _, _, _, _, _, _, _, _ => .fail
  | fu + 1, k, a, b, c, d, e, f, g, h, i => kls i h fun j => ifV j (kix g i fun l => kld l fun m => kad m (ii 1) fun l => kad e l fun n => kad i (ii 1) fun e => lpA_picks_Bits lf r fu k a b c d n f g h e) (k e)
def sA_picks_Bits : List Nat := [0, 1, 4, 5, 6, 12, 14, 15, 16]
def kcA_picks_Bits (lf : Nat) (r : RT) : (V→M V) := fun a => outK [a, (ii 0)]
def b_picks_Bits (lf : Nat) (r : RT) (a b : V) : M V := kcl r 162 [a, b] fun c => knt c fun d => ifV d (outK [(ii 0), (ii 1)]) (kcl r 163 [a] fun c => kln c fun e =>
  lpA_picks_Bits lf r lf (kcA_picks_Bits lf r) a b (ii 0) (ii 0) (ii 18) d c e (ii 0))
theorem lqA_picks_Bits {lf : Nat} {r : RT} (K : KT) : ∀ fu, lpA_picks_Bits lf r fu (fun a => K (.exit 0) (zp [6] [a])) = fun a b c d e f g h i => loopK (cQ 131 (pb 7 23)
  lf r) sA_picks_Bits fu (zp sA_picks_Bits [a, b, c, d, e, f, g, h, i]) K
  | 0 => by funext a b c d e f g h i; kernel_rfl
  | fu + 1 => by
    have ih := lqA_picks_Bits (lf := lf) (r := r) K fu
    funext a b c d e f g h i
    rw [lpA_picks_Bits]
    simp only [ih]
    kernel_rfl
theorem kqA_picks_Bits {lf : Nat} {r : RT} : kcA_picks_Bits lf r = (fun a => (tK 131 (pb 6 23) lf r) (.exit 0) (zp [6] [a])) := by kernel_rfl
theorem st_picks_Bits {lf : Nat} {r : RT} {a b : V} : evStep Tryz.prog gt lf r 131 #[a, b] = inside (b_picks_Bits lf r a b) := by 
  unfold b_picks_Bits
  simp only [kqA_picks_Bits, lqA_picks_Bits]
  kernel_rfl

def b_delta_Bits (lf : Nat) (r : RT) (a : V) : M V := kcl r 164 [a] fun b => knt b fun c => ifV c (outK [(ii 0), (ii 1)]) (kal 3 z3 fun b => kst b (ii 0) fun _ => kcl r
  165 [a, (Value.func (Go.Fn.func 166) #[] #[b])] fun d => kld b fun d => outK [d, (ii 0)])
theorem st_delta_Bits {lf : Nat} {r : RT} {a : V} : evStep Tryz.prog gt lf r 132 #[a] = inside (b_delta_Bits lf r a) := by kernel_rfl

def lpA_tables_Cost (lf : Nat) (r : RT) : Nat→((V→M V) × (V→V→M V))→V→V→V→V→V→V→V→V→V→V→M V
  | 0, _, _, _, _, _, _, _, _, _, _, _ => .fail
  | fu + 1, k, a, b, c, d, e, f, g, h, i, j => kls j i fun l => ifV l (kix h j fun m => kld m fun n => kls n (ii 0) fun m => ifV m (k.2 (ii 0) (ii 1)) (kfa 0 c fun o =>
   kld o fun p => kln p fun q => kgq n q fun s => ifV s (k.2 (ii 0) (ii 1)) (kcl r 168 [a, j] fun m => kex m 0 fun o => kex m 1 fun p => kfa 0 c fun m => kld m fun p =>
   kix p n fun q => kld q fun t => kcl r 169 [o, t] fun u => kex u 0 fun v => kex u 1 fun w => kne w (ii 0) fun m => ifV m (k.2 (ii 0) w) (kad f v fun p => kmi p (ii
   1099511627776) fun q => kad j (ii 1) fun f => lpA_tables_Cost lf r fu k a b c d e q g h i f)))) (k.1 f)
def sA_tables_Cost : List Nat := [0, 1, 3, 4, 5, 6, 19, 21, 22, 23]
def kcA_tables_Cost (lf : Nat) (r : RT) : (V→M V) × (V→V→M V) := (fun a => outK [a, (ii 0)], fun a b => outK [a, b])
def b_tables_Cost (lf : Nat) (r : RT) (a b : V) : M V := kbx 178 b fun c => kfa 1 c fun d => (timed (kld d M.ret)).bind fun e => kln e.1 fun f => kln a fun g => (timed
  (kcl r 167 [g] M.ret)).bind fun h => kne f h.1 fun i => chkT ((!(clash3 e.2 h.2) && true) && true) (ifV i (outK [(ii 0), (ii 1)]) (kfa 1 c fun d => kld d fun e => kln
  e fun f => lpA_tables_Cost lf r lf (kcA_tables_Cost lf r) a b c (ii 0) (ii 0) (ii 0) i e f (ii 0)))
theorem lqA_tables_Cost {lf : Nat} {r : RT} (K : KT) : ∀ fu, lpA_tables_Cost lf r fu ((fun a => K (.exit 0) (zp [6] [a]), fun a b => K .ret (zp [4, 5] [a, b]))) = fun a
  b c d e f g h i j => loopK (cQ 133 (pb 7 23) lf r) sA_tables_Cost fu (zp sA_tables_Cost [a, b, c, d, e, f, g, h, i, j]) K
  | 0 => by funext a b c d e f g h i j; kernel_rfl
  | fu + 1 => by
    have ih := lqA_tables_Cost (lf := lf) (r := r) K fu
    funext a b c d e f g h i j
    rw [lpA_tables_Cost]
    simp only [ih]
    kernel_rfl
theorem kqA_tables_Cost {lf : Nat} {r : RT} : kcA_tables_Cost lf r = ((fun a => (tK 133 (pb 6 23) lf r) (.exit 0) (zp [6] [a]), fun a b => (tK 133 (pb 6 23) lf r) .ret (zp [4, 5] [a, b]))) := by kernel_rfl
theorem st_tables_Cost {lf : Nat} {r : RT} {a b : V} : evStep Tryz.prog gt lf r 133 #[a, b] = inside (b_tables_Cost lf r a b) := by 
  unfold b_tables_Cost
  simp only [kqA_tables_Cost, lqA_tables_Cost]
  kernel_rfl

def lpA_used_Is (lf : Nat) (r : RT) : Nat→((V→M V) × (V→M V))→V→V→V→V→M V
  | 0, _, _, _, _, _ => .fail
  | fu + 1, k, a, b, c, d => kls d c fun e => ifV e (kgr d (ii 0) fun f => ifV f (kit a d fun g => ksb d (ii 1) fun h => kit a h fun i => klq g i fun j => ifV j (k.2 bF)
   (kad d (ii 1) fun f => lpA_used_Is lf r fu k a b c f)) (kad d (ii 1) fun f => lpA_used_Is lf r fu k a b c f)) (k.1 a)
def sA_used_Is : List Nat := [0, 2, 5, 6]
def kcA_used_Is (lf : Nat) (r : RT) : (V→M V) × (V→M V) := (fun a => kne a (Value.string { data := #[] }) fun b => outK [b], fun a => outK [a])
def b_used_Is (lf : Nat) (r : RT) (a : V) : M V := klx a fun b => lpA_used_Is lf r lf (kcA_used_Is lf r) a bF b (ii 0)
theorem lqA_used_Is {lf : Nat} {r : RT} (K : KT) : ∀ fu, lpA_used_Is lf r fu ((fun a => K (.exit 0) (zp [0] [a]), fun a => K .ret (zp [2] [a]))) = fun a b c d => loopK
  (cQ 134 (pb 5 5) lf r) sA_used_Is fu (zp sA_used_Is [a, b, c, d]) K
  | 0 => by funext a b c d; kernel_rfl
  | fu + 1 => by
    have ih := lqA_used_Is (lf := lf) (r := r) K fu
    funext a b c d
    rw [lpA_used_Is]
    simp only [ih]
    kernel_rfl
theorem kqA_used_Is {lf : Nat} {r : RT} : kcA_used_Is lf r = ((fun a => (tK 134 (pb 4 5) lf r) (.exit 0) (zp [0] [a]), fun a => (tK 134 (pb 4 5) lf r) .ret (zp [2] [a]))) := by kernel_rfl
theorem st_used_Is {lf : Nat} {r : RT} {a : V} : evStep Tryz.prog gt lf r 134 #[a] = inside (b_used_Is lf r a) := by 
  unfold b_used_Is
  simp only [kqA_used_Is, lqA_used_Is]
  kernel_rfl

def lpA_used_rows (lf : Nat) (r : RT) : Nat→(V→V→M V)→V→V→V→V→V→M V
  | 0, _, _, _, _, _, _ => .fail
  | fu + 1, k, a, b, c, d, e => kls e d fun f => ifV f (kit a e fun g => kqu g (i1 16) fun h => kia 16 c h fun i => kld i fun j => krm g (i1 16) fun l => ksb (i1 15) l
   fun m => ksl (i3 1) m fun n => kor j n fun o => kia 16 c h fun p => kst p o fun _ => kad e (ii 1) fun h => lpA_used_rows lf r fu k a b c d h) (k b c)
def sA_used_rows : List Nat := [0, 2, 3, 7, 8]
def kcA_used_rows (lf : Nat) (r : RT) : (V→V→M V) := fun a b => klg 16 b fun c => ksg 16 a c fun _ => klg 16 a fun b => outK [b]
def b_used_rows (lf : Nat) (r : RT) (a : V) : M V := kal 184 z184 fun b => kal 184 z184 fun c => klx a fun d => lpA_used_rows lf r lf (kcA_used_rows lf r) a b c d (ii 0)
theorem lqA_used_rows {lf : Nat} {r : RT} (K : KT) : ∀ fu, lpA_used_rows lf r fu (fun a b => K (.exit 0) (zp [2, 3] [a, b])) = fun a b c d e => loopK (cQ 135 (pb 6 11)
  lf r) sA_used_rows fu (zp sA_used_rows [a, b, c, d, e]) K
  | 0 => by funext a b c d e; kernel_rfl
  | fu + 1 => by
    have ih := lqA_used_rows (lf := lf) (r := r) K fu
    funext a b c d e
    rw [lpA_used_rows]
    simp only [ih]
    kernel_rfl
theorem kqA_used_rows {lf : Nat} {r : RT} : kcA_used_rows lf r = (fun a b => (tK 135 (pb 5 11) lf r) (.exit 0) (zp [2, 3] [a, b])) := by kernel_rfl
theorem st_used_rows {lf : Nat} {r : RT} {a : V} : evStep Tryz.prog gt lf r 135 #[a] = inside (b_used_rows lf r a) := by 
  unfold b_used_rows
  simp only [kqA_used_rows, lqA_used_rows]
  kernel_rfl

def lpA_picks_Write (lf : Nat) (r : RT) : Nat→(M V)→V→V→V→V→V→V→V→V→V→M V
  | 0, _, _, _, _, _, _, _, _, _, _ => .fail
  | fu + 1, k, a, b, c, d, e, f, g, h, i => kls i h fun j => ifV j (kix g i fun l => kld l fun m => kad m (ii 1) fun l => ksl (i3 1) l fun n => ksb n (i3 2) fun o => kad
   m (ii 1) fun p => kcl r 56 [a, o, p] fun q => kad i (ii 1) fun l => lpA_picks_Write lf r fu k a b c d e f g h l) (k)
def sA_picks_Write : List Nat := [0, 1, 2, 6, 9, 12, 27, 28, 29]
def kcA_picks_Write (lf : Nat) (r : RT) : (M V) := outK [(ii 0)]
def b_picks_Write (lf : Nat) (r : RT) (a b c : V) : M V := kpe a nP fun d => ifV d (outK [(ii 7)]) (kcl r 162 [b, c] fun e => knt e fun f => ifV f (outK [(ii 1)]) (kcv
  .u32 c fun e => kcl r 56 [a, e, (ii 3)] fun g => kln b fun e => kcv .u32 e fun g => kcl r 56 [a, g, (ii 15)] fun h => kcl r 163 [b] fun e => kln e fun g =>
  lpA_picks_Write lf r lf (kcA_picks_Write lf r) a b c (ii 0) d f e g (ii 0)))
theorem lqA_picks_Write {lf : Nat} {r : RT} (K : KT) : ∀ fu, lpA_picks_Write lf r fu (K (.exit 1) []) = fun a b c d e f g h i => loopK (cQ 136 (pb 8 47) lf r)
  sA_picks_Write fu (zp sA_picks_Write [a, b, c, d, e, f, g, h, i]) K
  | 0 => by funext a b c d e f g h i; kernel_rfl
  | fu + 1 => by
    have ih := lqA_picks_Write (lf := lf) (r := r) K fu
    funext a b c d e f g h i
    rw [lpA_picks_Write]
    simp only [ih]
    kernel_rfl
theorem kqA_picks_Write {lf : Nat} {r : RT} : kcA_picks_Write lf r = ((tK 136 (pb 7 47) lf r) (.exit 1) []) := by kernel_rfl
theorem st_picks_Write {lf : Nat} {r : RT} {a b c : V} : evStep Tryz.prog gt lf r 136 #[a, b, c] = inside (b_picks_Write lf r a b c) := by 
  unfold b_picks_Write
  simp only [kqA_picks_Write, lqA_picks_Write]
  kernel_rfl

def b_delta_Write (lf : Nat) (r : RT) (a b : V) : M V := kbx 90 a fun c => kld c fun d => kpe d nP fun e => ifV e (outK [(ii 7)]) (kcl r 164 [b] fun d => knt d fun f =>
  ifV f (outK [(ii 1)]) (kcl r 165 [b, (Value.func (Go.Fn.func 170) #[] #[c])] fun d => outK [(ii 0)]))
theorem st_delta_Write {lf : Nat} {r : RT} {a b : V} : evStep Tryz.prog gt lf r 137 #[a, b] = inside (b_delta_Write lf r a b) := by kernel_rfl

def lpB_canon_New (lf : Nat) (r : RT) : Nat→(V→V→V→V→V→V→V→V→M V)→V→V→V→V→V→V→V→V→V→V→V→V→M V
  | 0, _, _, _, _, _, _, _, _, _, _, _, _, _ => .fail
  | fu + 1, k, a, b, c, d, e, f, g, h, i, j, l, m => kls m l fun n => ifV n (kix j m fun o => kld o fun p => keq p f fun o => ifV o (knn d fun q => kfa 1 q fun s => kld
   s fun t => kcv .u32 e fun u => kix t m fun v => kst v u fun _ => knn d fun q => kfa 2 q fun s => kld s fun t => kb1 3 1 m fun u => kap 3 1 t u fun v => knn d fun w =>
   kfa 2 w fun x => kst x v fun _ => kad e (ii 1) fun q => kad m (ii 1) fun e => lpB_canon_New lf r fu k a b c d q f g h i j l e) (kad m (ii 1) fun q => lpB_canon_New lf
   r fu k a b c d e f g h i j l q)) (k a b c d e f g h)
def sB_canon_New : List Nat := [0, 2, 3, 4, 5, 6, 9, 18, 30, 51, 52, 53]
def KBB_canon_New (lf : Nat) (r : RT) (k : (V→M V)) (again : V→V→V→V→V→V→V→V→M V) : (V→V→V→V→V→V→V→V→M V) := fun a b c d e f g h => kad f (ii 1) fun i => again a b c d e i g h
def lpA_canon_New (lf : Nat) (r : RT) : Nat→(V→M V)→V→V→V→V→V→V→V→V→M V
  | 0, _, _, _, _, _, _, _, _, _ => .fail
  | fu + 1, k, a, b, c, d, e, f, g, h => klq f (ii 20) fun i => ifV i (kml e (ii 2) fun j => knn d fun e => kfa 3 e fun l => kia 21 l f fun m => kst m j fun _ => knn d
   fun e => kfa 2 e fun l => kld l fun m => kln m fun n => knn d fun o => kfa 24 o fun p => kia 22 p f fun q => kst q n fun _ => kln a fun e => lpB_canon_New lf r lf
   (KBB_canon_New lf r k (lpA_canon_New lf r fu k)) a b c d j f g h i a e (ii 0)) (k d)
def sA_canon_New : List Nat := [0, 2, 3, 4, 5, 6, 9, 18]
def kcA_canon_New (lf : Nat) (r : RT) : (V→M V) := fun a => knn a fun b => kfa 2 b fun c => kld c fun d => kln d fun e => knn a fun f => kfa 24 f fun g => kia 22 g (ii
  21) fun h => kst h e fun _ => outK [a, (ii 0)]
def b_canon_New (lf : Nat) (r : RT) (a : V) : M V := kln a fun b => kls b (ii 3) fun c => ifV c (outK [nP, (ii 1)]) (kln a fun d => kgr d (ii 258) fun e => ifV e (outK
  [nP, (ii 1)]) (kcl r 171 [a] fun b => knt b fun c => ifV c (outK [nP, (ii 22)]) ((timed (kcl r 156 [a] M.ret)).bind fun b => kln a fun d => (timed (kmk 40 [(i3 0)] d d
  M.ret)).bind fun f => kbd z223 [(0, 1, b.1), (1, 1, f.1)] fun g => (timed (kbx 223 g M.ret)).bind fun h => chkT ((!(clash3 b.2 f.2) && true) && true) (lpA_canon_New lf
  r lf (kcA_canon_New lf r) a nP (ii 0) h.1 (ii 0) (ii 1) e c))))
theorem lqB_canon_New {lf : Nat} {r : RT} (K : KT) : ∀ fu, lpB_canon_New lf r fu (fun a b c d e f g h => K (.exit 3) (zp [0, 2, 3, 4, 5, 6, 9, 18] [a, b, c, d, e, f, g,
  h])) = fun a b c d e f g h i j l m => loopK (cQ 138 (pb 17 31023) lf r) sB_canon_New fu (zp sB_canon_New [a, b, c, d, e, f, g, h, i, j, l, m]) K
  | 0 => by funext a b c d e f g h i j l m; kernel_rfl
  | fu + 1 => by
    have ih := lqB_canon_New (lf := lf) (r := r) K fu
    funext a b c d e f g h i j l m
    rw [lpB_canon_New]
    simp only [ih]
    kernel_rfl
theorem kqB_canon_New {lf : Nat} {r : RT} (K : KT) (fu : Nat) : KBB_canon_New lf r (fun a => K (.exit 1) (zp [4] [a])) (fun a b c d e f g h => loopK (cQ 138 (pb 8 47) lf
  r) sA_canon_New fu (zp sA_canon_New [a, b, c, d, e, f, g, h]) K) = (fun a b c d e f g h => (iK 138 (pb 8 47) (pb 8 121) sA_canon_New fu K lf r) (.exit 3) (zp [0, 2, 3,
  4, 5, 6, 9, 18] [a, b, c, d, e, f, g, h])) := by kernel_rfl
theorem lqA_canon_New {lf : Nat} {r : RT} (K : KT) : ∀ fu, lpA_canon_New lf r fu (fun a => K (.exit 1) (zp [4] [a])) = fun a b c d e f g h => loopK (cQ 138 (pb 8 47) lf
  r) sA_canon_New fu (zp sA_canon_New [a, b, c, d, e, f, g, h]) K
  | 0 => by funext a b c d e f g h; kernel_rfl
  | fu + 1 => by
    have ih := lqA_canon_New (lf := lf) (r := r) K fu
    funext a b c d e f g h
    rw [lpA_canon_New]
    simp only [ih, kqB_canon_New, lqB_canon_New]
    kernel_rfl
theorem kqA_canon_New {lf : Nat} {r : RT} : kcA_canon_New lf r = (fun a => (tK 138 (pb 7 47) lf r) (.exit 1) (zp [4] [a])) := by kernel_rfl
theorem st_canon_New {lf : Nat} {r : RT} {a : V} : evStep Tryz.prog gt lf r 138 #[a] = inside (b_canon_New lf r a) := by 
  unfold b_canon_New
  simp only [kqA_canon_New, lqA_canon_New]
  kernel_rfl

def b_canon_Code_Put (lf : Nat) (r : RT) (a b c : V) : M V := kpe b nP fun d => ifV d (outK [(ii 7)]) (kcl r 172 [a, c] fun e => kex e 0 fun f => kex e 1 fun g => kex e
  2 fun h => kne h (ii 0) fun e => ifV e (outK [h]) (kcl r 56 [b, f, g] fun i => outK [i]))
theorem st_canon_Code_Put {lf : Nat} {r : RT} {a b c : V} : evStep Tryz.prog gt lf r 139 #[a, b, c] = inside (b_canon_Code_Put lf r a b c) := by kernel_rfl

def lpA_balerref05_There (lf : Nat) (r : RT) : Nat→((M V) × (V→M V))→V→V→V→V→M V
  | 0, _, _, _, _, _ => .fail
  | fu + 1, k, a, b, c, d => klx a fun e => kls d e fun f => ifV f (kit a d fun e => kcv .i64 e fun g => keq g b fun h => ifV h (k.2 bT) (kad d (ii 1) fun e => lpA_balerref05_There lf r fu k a b c e)) (k.1)
def sA_balerref05_There : List Nat := [0, 1, 4, 5]
def kcA_balerref05_There (lf : Nat) (r : RT) : (M V) × (V→M V) := (outK [bF], fun a => outK [a])
def b_balerref05_There (lf : Nat) (r : RT) (a b : V) : M V := lpA_balerref05_There lf r lf (kcA_balerref05_There lf r) a b bF (ii 0)
theorem lqA_balerref05_There {lf : Nat} {r : RT} (K : KT) : ∀ fu, lpA_balerref05_There lf r fu ((K (.exit 0) [], fun a => K .ret (zp [4] [a]))) = fun a b c d => loopK
  (cQ 140 (pb 5 5) lf r) sA_balerref05_There fu (zp sA_balerref05_There [a, b, c, d]) K
  | 0 => by funext a b c d; kernel_rfl
  | fu + 1 => by
    have ih := lqA_balerref05_There (lf := lf) (r := r) K fu
    funext a b c d
    rw [lpA_balerref05_There]
    simp only [ih]
    kernel_rfl
theorem kqA_balerref05_There {lf : Nat} {r : RT} : kcA_balerref05_There lf r = (((tK 140 (pb 4 5) lf r) (.exit 0) [], fun a => (tK 140 (pb 4 5) lf r) .ret (zp [4] [a]))) := by kernel_rfl
theorem st_balerref05_There {lf : Nat} {r : RT} {a b : V} : evStep Tryz.prog gt lf r 140 #[a, b] = inside (b_balerref05_There lf r a b) := by 
  unfold b_balerref05_There
  simp only [kqA_balerref05_There, lqA_balerref05_There]
  kernel_rfl

def b_balerref05_Is (lf : Nat) (r : RT) (a : V) : M V := klx a fun b => kgr b (ii 0) fun c => ifV c (kcl r 101 [a] fun d => keq d a fun e => outK [e]) (outK [bF])
theorem st_balerref05_Is {lf : Nat} {r : RT} {a : V} : evStep Tryz.prog gt lf r 141 #[a] = inside (b_balerref05_Is lf r a) := by kernel_rfl

def lpA_balerref06_Place (lf : Nat) (r : RT) : Nat→((M V) × (V→M V))→V→V→V→V→M V
  | 0, _, _, _, _, _ => .fail
  | fu + 1, k, a, b, c, d => klx a fun e => kls d e fun f => ifV f (kit a d fun e => keq e b fun g => ifV g (k.2 d) (kad d (ii 1) fun e => lpA_balerref06_Place lf r fu k a b c e)) (k.1)
def sA_balerref06_Place : List Nat := [0, 1, 4, 5]
def kcA_balerref06_Place (lf : Nat) (r : RT) : (M V) × (V→M V) := (outK [(ii (-1))], fun a => outK [a])
def b_balerref06_Place (lf : Nat) (r : RT) (a b : V) : M V := lpA_balerref06_Place lf r lf (kcA_balerref06_Place lf r) a b (ii 0) (ii 0)
theorem lqA_balerref06_Place {lf : Nat} {r : RT} (K : KT) : ∀ fu, lpA_balerref06_Place lf r fu ((K (.exit 0) [], fun a => K .ret (zp [4] [a]))) = fun a b c d => loopK
  (cQ 142 (pb 5 5) lf r) sA_balerref06_Place fu (zp sA_balerref06_Place [a, b, c, d]) K
  | 0 => by funext a b c d; kernel_rfl
  | fu + 1 => by
    have ih := lqA_balerref06_Place (lf := lf) (r := r) K fu
    funext a b c d
    rw [lpA_balerref06_Place]
    simp only [ih]
    kernel_rfl
theorem kqA_balerref06_Place {lf : Nat} {r : RT} : kcA_balerref06_Place lf r = (((tK 142 (pb 4 5) lf r) (.exit 0) [], fun a => (tK 142 (pb 4 5) lf r) .ret (zp [4] [a]))) := by kernel_rfl
theorem st_balerref06_Place {lf : Nat} {r : RT} {a b : V} : evStep Tryz.prog gt lf r 142 #[a, b] = inside (b_balerref06_Place lf r a b) := by 
  unfold b_balerref06_Place
  simp only [kqA_balerref06_Place, lqA_balerref06_Place]
  kernel_rfl

def b_balerref06_Touch (lf : Nat) (r : RT) (a b : V) : M V := kad b (ii 1) fun c => ksx a (some b) (some c) fun d => ksx a none (some b) fun e => kad d e fun f => kad b
  (ii 1) fun g => ksx a (some g) none fun h => kad f h fun i => outK [i]
theorem st_balerref06_Touch {lf : Nat} {r : RT} {a b : V} : evStep Tryz.prog gt lf r 143 #[a, b] = inside (b_balerref06_Touch lf r a b) := by kernel_rfl

def b_balerref07_Row (lf : Nat) (r : RT) (a : V) : M V := keq a (ii 0) fun b => ifV b (outK [nS]) (krm a (ii 2) fun c => keq c (ii 1) fun d => ifV d (kb1 3 1 (ii 0) fun
  c => kap 3 1 nS c fun e => ksb a (ii 1) fun c => kqu c (ii 2) fun f => kcl r 144 [f] fun g => kap 3 1 e g fun h => outK [h]) (kb1 3 1 (ii 1) fun c => kap 3 1 nS c fun
  e => ksb a (ii 2) fun c => kqu c (ii 2) fun f => kcl r 144 [f] fun g => kap 3 1 e g fun h => outK [h]))
theorem st_balerref07_Row {lf : Nat} {r : RT} {a : V} : evStep Tryz.prog gt lf r 144 #[a] = inside (b_balerref07_Row lf r a) := by kernel_rfl

def lpB_balerref12_Of (lf : Nat) (r : RT) : Nat→(V→V→V→V→V→V→V→V→V→V→V→V→M V)→V→V→V→V→V→V→V→V→V→V→V→M V
  | 0, _, _, _, _, _, _, _, _, _, _, _, _ => .fail
  | fu + 1, k, a, b, c, d, e, f, g, h, i, j, l => kls l j fun m => ifV m (kix i l fun n => kld n fun o => kfa 0 d fun n => kld n fun p => kcl r 176 [o, p] fun q => kb1 3
   1 q fun s => kap 3 1 f s fun t => kad l (ii 1) fun f => lpB_balerref12_Of lf r fu k a b c d e t g h i j f) (k a b c d e f g h i j l m)
def sB_balerref12_Of : List Nat := [0, 1, 4, 5, 6, 7, 24, 25, 26, 27, 28]
def lpD_balerref12_Of (lf : Nat) (r : RT) : Nat→(V→V→V→V→V→V→V→V→V→V→V→V→V→V→V→V→M V)→V→V→V→V→V→V→V→V→V→V→V→V→V→V→V→V→V→V→V→V→V→M V
  | 0, _, _, _, _, _, _, _, _, _, _, _, _, _, _, _, _, _, _, _, _, _, _ => .fail
  | fu + 1, k, a, b, c, d, e, f, g, h, i, j, l, m, n, o, p, q, s, t, u, v, w => kls w v fun x => ifV x (kix u w fun y => kld y fun z => kix f w fun y => kld y fun A =>
   keq A h fun B => ifV B (kap 3 1 i z fun y => kad w (ii 1) fun i => lpD_balerref12_Of lf r fu k a b c d e f g h y j l m n o p q s t u v i) (kad w (ii 1) fun y =>
   lpD_balerref12_Of lf r fu k a b c d e f g h i j l m n o p q s t u v y)) (k a b c d e f g i j l m n o p q s)
def sD_balerref12_Of : List Nat := [0, 1, 4, 5, 6, 7, 10, 11, 12, 24, 25, 26, 27, 28, 29, 42, 43, 44, 46, 47, 48]
def KBD_balerref12_Of (lf : Nat) (r : RT) (k : (V→V→V→V→V→V→V→V→M V)) (again : V→V→V→V→V→V→V→V→V→V→V→V→V→V→V→M V) : (V→V→V→V→V→V→V→V→V→V→V→V→V→V→V→V→M V) := fun a b c d
  e f g h i j l m n o p q => kcl r 174 [h, b] fun s => kcl r 177 [s] fun t => kb1 141 1 t fun u => kap 141 1 g u fun v => kad q (ii 1) fun g => again a b c d e f v i j l m n o p g
def lpC_balerref12_Of (lf : Nat) (r : RT) : Nat→(V→V→V→V→V→V→V→V→M V)→V→V→V→V→V→V→V→V→V→V→V→V→V→V→V→M V
  | 0, _, _, _, _, _, _, _, _, _, _, _, _, _, _, _, _ => .fail
  | fu + 1, k, a, b, c, d, e, f, g, h, i, j, l, m, n, o, p => kls p o fun q => ifV q (kln e fun s => lpD_balerref12_Of lf r lf (KBD_balerref12_Of lf r k
   (lpC_balerref12_Of lf r fu k)) a b c d e f g p nS h i j l m n o p q e s (ii 0)) (k a b c d e f g h)
def sC_balerref12_Of : List Nat := [0, 1, 4, 5, 6, 7, 10, 24, 25, 26, 27, 28, 29, 42, 43]
def KBC_balerref12_Of (lf : Nat) (r : RT) (k : (V→V→M V)) (again : V→V→V→V→V→V→M V) : (V→V→V→V→V→V→V→V→M V) := fun a b c d e f g h => kbd z195 [(0, 1, g), (1, 1, f)] fun
  i => ksg 2 d i fun _ => kad h (ii 1) fun i => again a b c d e i
def KBB_balerref12_Of (lf : Nat) (r : RT) (k : (V→V→M V)) (again : V→V→V→V→V→V→M V) : (V→V→V→V→V→V→V→V→V→V→V→V→M V) := fun a b c d e f g h i j l m => kfa 0 d fun n =>
  kld n fun o => kln o fun p => lpC_balerref12_Of lf r lf (KBC_balerref12_Of lf r k again) a b c d e f nS g h i j l m p (ii 0)
def lpA_balerref12_Of (lf : Nat) (r : RT) : Nat→(V→V→M V)→V→V→V→V→V→V→M V
  | 0, _, _, _, _, _, _, _ => .fail
  | fu + 1, k, a, b, c, d, e, f => kls f (ii 4) fun g => ifV g (kln e fun h => lpB_balerref12_Of lf r lf (KBB_balerref12_Of lf r k (lpA_balerref12_Of lf r fu k)) a b c d e nS f g e h (ii 0)) (k c d)
def sA_balerref12_Of : List Nat := [0, 1, 4, 5, 6, 24]
def kcA_balerref12_Of (lf : Nat) (r : RT) : (V→V→M V) := fun a b => klg 2 b fun c => ksg 2 a c fun _ => klg 2 a fun b => outK [b]
def b_balerref12_Of (lf : Nat) (r : RT) (a b : V) : M V := kal 195 z195 fun c => kcl r 174 [a, b] fun d => kln a fun e => kcl r 173 [d, e] fun f => kbd z195 [(0, 1, f)]
  fun g => kal 195 z195 fun h => ksg 2 h g fun _ => kcl r 175 [a] fun d => lpA_balerref12_Of lf r lf (kcA_balerref12_Of lf r) a b c h d (ii 0)
theorem lqB_balerref12_Of {lf : Nat} {r : RT} (K : KT) : ∀ fu, lpB_balerref12_Of lf r fu (fun a b c d e f g h i j l m => K (.exit 2) (zp [0, 1, 4, 5, 6, 7, 24, 25, 26,
  27, 28, 29] [a, b, c, d, e, f, g, h, i, j, l, m])) = fun a b c d e f g h i j l => loopK (cQ 145 (pb 16 10647) lf r) sB_balerref12_Of fu (zp sB_balerref12_Of [a, b, c, d, e, f, g, h, i, j, l]) K
  | 0 => by funext a b c d e f g h i j l; kernel_rfl
  | fu + 1 => by
    have ih := lqB_balerref12_Of (lf := lf) (r := r) K fu
    funext a b c d e f g h i j l
    rw [lpB_balerref12_Of]
    simp only [ih]
    kernel_rfl
theorem lqD_balerref12_Of {lf : Nat} {r : RT} (K : KT) : ∀ fu, lpD_balerref12_Of lf r fu (fun a b c d e f g h i j l m n o p q => K (.exit 6) (zp [0, 1, 4, 5, 6, 7, 10,
  12, 24, 25, 26, 27, 28, 29, 42, 43] [a, b, c, d, e, f, g, h, i, j, l, m, n, o, p, q])) = fun a b c d e f g h i j l m n o p q s t u v w => loopK (cQ 145 (pb 28
  46971287) lf r) sD_balerref12_Of fu (zp sD_balerref12_Of [a, b, c, d, e, f, g, h, i, j, l, m, n, o, p, q, s, t, u, v, w]) K
  | 0 => by funext a b c d e f g h i j l m n o p q s t u v w; kernel_rfl
  | fu + 1 => by
    have ih := lqD_balerref12_Of (lf := lf) (r := r) K fu
    funext a b c d e f g h i j l m n o p q s t u v w
    rw [lpD_balerref12_Of]
    simp only [ih]
    kernel_rfl
theorem kqD_balerref12_Of {lf : Nat} {r : RT} (K : KT) (fu : Nat) : KBD_balerref12_Of lf r (fun a b c d e f g h => K (.exit 4) (zp [0, 1, 4, 5, 6, 7, 10, 24] [a, b, c,
  d, e, f, g, h])) (fun a b c d e f g h i j l m n o p => loopK (cQ 145 (pb 18 47511) lf r) sC_balerref12_Of fu (zp sC_balerref12_Of [a, b, c, d, e, f, g, h, i, j, l, m,
  n, o, p]) K) = (fun a b c d e f g h i j l m n o p q => (iK 145 (pb 18 47511) (pb 9 179) sC_balerref12_Of fu K lf r) (.exit 6) (zp [0, 1, 4, 5, 6, 7, 10, 12, 24, 25,
  26, 27, 28, 29, 42, 43] [a, b, c, d, e, f, g, h, i, j, l, m, n, o, p, q])) := by kernel_rfl
theorem lqC_balerref12_Of {lf : Nat} {r : RT} (K : KT) : ∀ fu, lpC_balerref12_Of lf r fu (fun a b c d e f g h => K (.exit 4) (zp [0, 1, 4, 5, 6, 7, 10, 24] [a, b, c, d,
  e, f, g, h])) = fun a b c d e f g h i j l m n o p => loopK (cQ 145 (pb 18 47511) lf r) sC_balerref12_Of fu (zp sC_balerref12_Of [a, b, c, d, e, f, g, h, i, j, l, m, n, o, p]) K
  | 0 => by funext a b c d e f g h i j l m n o p; kernel_rfl
  | fu + 1 => by
    have ih := lqC_balerref12_Of (lf := lf) (r := r) K fu
    funext a b c d e f g h i j l m n o p
    rw [lpC_balerref12_Of]
    simp only [ih, kqD_balerref12_Of, lqD_balerref12_Of]
    kernel_rfl
theorem kqC_balerref12_Of {lf : Nat} {r : RT} (K : KT) (fu : Nat) : KBC_balerref12_Of lf r (fun a b => K (.exit 0) (zp [4, 5] [a, b])) (fun a b c d e f => loopK (cQ 145
  (pb 7 23) lf r) sA_balerref12_Of fu (zp sA_balerref12_Of [a, b, c, d, e, f]) K) = (fun a b c d e f g h => (iK 145 (pb 7 23) (pb 10 371) sA_balerref12_Of fu K lf r)
  (.exit 4) (zp [0, 1, 4, 5, 6, 7, 10, 24] [a, b, c, d, e, f, g, h])) := by kernel_rfl
theorem kqB_balerref12_Of {lf : Nat} {r : RT} (K : KT) (fu : Nat) : KBB_balerref12_Of lf r (fun a b => K (.exit 0) (zp [4, 5] [a, b])) (fun a b c d e f => loopK (cQ 145
  (pb 7 23) lf r) sA_balerref12_Of fu (zp sA_balerref12_Of [a, b, c, d, e, f]) K) = (fun a b c d e f g h i j l m => (iK 145 (pb 7 23) (pb 8 83) sA_balerref12_Of fu K lf
  r) (.exit 2) (zp [0, 1, 4, 5, 6, 7, 24, 25, 26, 27, 28, 29] [a, b, c, d, e, f, g, h, i, j, l, m])) := by 
  unfold KBB_balerref12_Of
  simp only [kqC_balerref12_Of, lqC_balerref12_Of]
  kernel_rfl
theorem lqA_balerref12_Of {lf : Nat} {r : RT} (K : KT) : ∀ fu, lpA_balerref12_Of lf r fu (fun a b => K (.exit 0) (zp [4, 5] [a, b])) = fun a b c d e f => loopK (cQ 145
  (pb 7 23) lf r) sA_balerref12_Of fu (zp sA_balerref12_Of [a, b, c, d, e, f]) K
  | 0 => by funext a b c d e f; kernel_rfl
  | fu + 1 => by
    have ih := lqA_balerref12_Of (lf := lf) (r := r) K fu
    funext a b c d e f
    rw [lpA_balerref12_Of]
    simp only [ih, kqB_balerref12_Of, kqC_balerref12_Of, lqB_balerref12_Of, lqC_balerref12_Of]
    kernel_rfl
theorem kqA_balerref12_Of {lf : Nat} {r : RT} : kcA_balerref12_Of lf r = (fun a b => (tK 145 (pb 6 23) lf r) (.exit 0) (zp [4, 5] [a, b])) := by kernel_rfl
theorem st_balerref12_Of {lf : Nat} {r : RT} {a b : V} : evStep Tryz.prog gt lf r 145 #[a, b] = inside (b_balerref12_Of lf r a b) := by 
  unfold b_balerref12_Of
  simp only [kqA_balerref12_Of, lqA_balerref12_Of]
  kernel_rfl

end
end Go.Proofs.YtcehhgppfahbkaaGreatDoor

/- A sorter of rotations, step by step, in plain Lean: what each step does, and that it stays within its rows. No program in sight. -/
import Derived.Test.YtbakfaihnecmoaaPlain4
namespace Go.Proofs.Ytbakfaihnecmoaa
set_option linter.unusedVariables false
set_option linter.unusedSimpArgs false
open Go.RowKit

structure SS where
  ord : List Nat
  cls : List Nat
  asd : List Nat
  reach : Nat
  stk : List (Nat × Nat × Nat)
  lo : Nat
  mid : Nat
  hi : Nat
  laid : Nat
  one : Nat
  two : Nat
  rnk : Nat
  last : Nat
  steps : Nat
  done : Bool

namespace Sp
def gtP (k l : Nat × Nat) : Bool := decide (l.1 < k.1) || (k.1 == l.1 && decide (l.2 < k.2))
def keyS (s : ByteArray) (reach : Nat) (cls : List Nat) (a : Nat) : Nat × Nat := if reach = 0 then ((s.data.toList.getD a 0).toNat, 0) else (cls.getD a 0, cls.getD ((a + reach) % s.size) 0)
def abS (s : ByteArray) (x : SS) (a b : Nat) : Bool := gtP (keyS s x.reach x.cls a) (keyS s x.reach x.cls b)
def joinS (x : SS) : SS := match x.stk with
  | [] => x
  | p :: r => if x.hi = 0 ∧ p.2.1 ≠ 0 then { x with lo := p.1, mid := p.2.1, hi := p.2.2, stk := r, laid := 0, one := 0, two := p.2.1 } else x
def layS (x : SS) : SS := { x with asd := x.asd.set x.laid (x.ord.getD (x.lo + x.laid) 0), laid := x.laid + 1 }
def takeS (s : ByteArray) (x : SS) : Bool := x.two == x.hi || (decide (x.one < x.laid) && !(abS s x (x.asd.getD x.one 0) (x.ord.getD x.two 0)))
def toS (x : SS) : Nat := x.lo + x.one + x.two - x.mid
def endS (x : SS) (e : Bool) : SS := if e then { x with lo := 0, mid := 0, hi := 0 } else x
def putS (s : ByteArray) (x : SS) : SS :=
  endS (if takeS s x then { x with ord := x.ord.set (toS x) (x.asd.getD x.one 0), one := x.one + 1 } else { x with ord := x.ord.set (toS x) (x.ord.getD x.two 0), two := x.two + 1 }) (toS x + 1 == x.hi)
def beginS (x : SS) : SS := match x.stk with
  | [] => x
  | p :: r => if p.2.2 - p.1 < 2 then { x with stk := r } else { x with stk := (p.1, 0, (p.1 + p.2.2) / 2) :: ((p.1 + p.2.2) / 2, 0, p.2.2) :: (p.1, (p.1 + p.2.2) / 2, p.2.2) :: r }
def lastS (s : ByteArray) (x : SS) : Nat := if x.rnk = 0 then 0 else if abS s x (x.ord.getD x.rnk 0) (x.ord.getD (x.rnk - 1) 0) then x.last + 1 else x.last
def passS (x : SS) : SS := if x.last + 1 = x.ord.length ∨ x.ord.length ≤ x.reach then { x with cls := x.asd, asd := x.cls, rnk := 0, done := true }
  else { x with cls := x.asd, asd := x.cls, rnk := 0, reach := max 1 (2 * x.reach), stk := (0, 0, x.ord.length) :: x.stk }
def classS (s : ByteArray) (x : SS) : SS := { x with last := lastS s x, asd := x.asd.set (x.ord.getD x.rnk 0) (lastS s x), rnk := x.rnk + 1 }
def rankS (s : ByteArray) (x : SS) : SS := if (classS s x).rnk = x.ord.length then passS (classS s x) else classS s x
def actS (s : ByteArray) (x : SS) : SS := if 0 < x.hi then (if x.laid < x.mid - x.lo then layS x else putS s x) else match x.stk with | [] => rankS s x | _ => beginS x
def stepS (s : ByteArray) (x : SS) : SS := { actS s (joinS x) with steps := x.steps + 1 }
def startS (n : Nat) : SS := ⟨List.range n, List.replicate n 0, List.replicate n 0, 0, [(0, 0, n)], 0, 0, 0, 0, 0, 0, 0, 0, 0, decide (n < 2)⟩
def iterS (s : ByteArray) : Nat → SS → SS
  | 0, x => x
  | k + 1, x => iterS s k (stepS s x)

/-! how many steps there are -/
def costT (m : Nat) : Nat := if h : m < 2 then 1 else 1 + costT (m / 2) + costT (m - m / 2) + m / 2 + m
termination_by m
theorem costT_small {m : Nat} (h : m < 2) : costT m = 1 := by rw [costT]; simp [h]
theorem costT_big {m : Nat} (h : 2 ≤ m) : costT m = 1 + costT (m / 2) + costT (m - m / 2) + m / 2 + m := by
  rw [costT]; simp [show ¬ m < 2 by omega]
theorem costT_pos (m : Nat) : 1 ≤ costT m := by
  by_cases h : m < 2
  · rw [costT_small h]; omega
  · rw [costT_big (by omega)]; omega
theorem costT_most : ∀ b m, 1 ≤ m → m ≤ 2 ^ b → costT m ≤ (3 + 3 * b) * m
  | 0, m, h1, h2 => by
    have : m = 1 := by simp at h2; omega
    subst this
    rw [costT_small (by omega)]
    omega
  | b + 1, m, h1, h2 => by
    by_cases h : m < 2
    · rw [costT_small h]
      have : 0 < (3 + 3 * (b + 1)) * m := Nat.mul_pos (by omega) (by omega)
      omega
    · rw [costT_big (by omega)]
      rw [Nat.pow_succ] at h2
      have e1 := costT_most b (m / 2) (by omega) (by omega)
      have e2 := costT_most b (m - m / 2) (by omega) (by omega)
      have e3 : (3 + 3 * b) * (m / 2) + (3 + 3 * b) * (m - m / 2) = (3 + 3 * b) * m := by rw [← Nat.mul_add]; congr 1; omega
      have e4 : (3 + 3 * (b + 1)) * m = (3 + 3 * b) * m + 3 * m := by rw [← Nat.add_mul]; congr 1
      omega

def costP (p : Nat × Nat × Nat) : Nat := if p.2.1 = 0 then costT (p.2.2 - p.1) else (p.2.1 - p.1) + (p.2.2 - p.1)
def restM (x : SS) : Nat := if x.hi = 0 then 0 else (x.mid - x.lo - x.laid) + (x.hi - x.lo - (x.one + (x.two - x.mid)))
def restP (n : Nat) (x : SS) : Nat := (x.stk.map costP).sum + restM x + (n - x.rnk)

/-- a part that may wait -/
def PartOk (n : Nat) (p : Nat × Nat × Nat) : Prop := p.1 ≤ p.2.2 ∧ p.2.2 ≤ n ∧ (p.2.1 = 0 ∨ p.1 < p.2.1 ∧ p.2.1 < p.2.2)
structure MergeOk (n : Nat) (x : SS) : Prop where
  lm : x.lo < x.mid
  mh : x.mid < x.hi
  hn : x.hi ≤ n
  laid : x.laid ≤ x.mid - x.lo
  one : x.one ≤ x.laid
  two1 : x.mid ≤ x.two
  two2 : x.two ≤ x.hi
  fresh : x.laid < x.mid - x.lo → x.one = 0 ∧ x.two = x.mid
  more : x.lo + x.one + x.two - x.mid < x.hi
  asd : ∀ i, i < x.laid → x.asd.getD i 0 < n
/-- what each step keeps; m passes at most behind this one -/
structure Ok (n m : Nat) (x : SS) : Prop where
  ol : x.ord.length = n
  cl : x.cls.length = n
  al : x.asd.length = n
  ord : ∀ i, i < n → x.ord.getD i 0 < n
  reach : x.reach = 0 ∧ 1 ≤ m ∧ n ≤ 2 ^ (m - 1) ∨ 1 ≤ x.reach ∧ n ≤ x.reach * 2 ^ m
  rle : x.reach ≤ 2 * n
  stk : ∀ p, p ∈ x.stk → PartOk n p
  merge : x.hi = 0 ∨ MergeOk n x
  rnk : x.done = false → x.rnk < n
  rnk0 : 0 < x.rnk → x.stk = [] ∧ x.hi = 0
  last : x.last ≤ n
  last2 : x.rnk = 0 ∨ x.last < x.rnk

theorem getD_set {l : List Nat} {i j v : Nat} : (l.set i v).getD j 0 = if i = j ∧ i < l.length then v else l.getD j 0 := by
  simp only [List.getD_eq_getElem?_getD, List.getElem?_set]
  by_cases h : i = j
  · subst h
    by_cases h2 : i < l.length
    · simp [h2]
    · simp [h2, List.getElem?_eq_none (Nat.le_of_not_lt h2)]
  · simp [h]

theorem Ok.join {n m : Nat} {x : SS} (h : Ok n m x) : Ok n m (joinS x) := by
  unfold joinS
  split
  · exact h
  · rename_i p r hs
    split
    · rename_i hc
      obtain ⟨h0, h1⟩ := hc
      have hp := h.stk p (by rw [hs]; simp)
      obtain ⟨q1, q2, q3⟩ := hp
      have q3 := q3.resolve_left h1
      have hr0 : x.rnk = 0 := by
        rcases Nat.eq_zero_or_pos x.rnk with h2 | h2
        · exact h2
        · rw [(h.rnk0 h2).1] at hs; cases hs
      refine ⟨h.ol, h.cl, h.al, h.ord, h.reach, h.rle, fun q hq => h.stk q (by rw [hs]; exact List.mem_cons_of_mem _ hq), .inr ⟨?_, ?_, ?_, ?_, ?_, ?_, ?_, ?_, ?_, ?_⟩, h.rnk, fun h2 => ?_, h.last, .inl hr0⟩ <;> simp only at * <;> try omega
      exact fun _ => ⟨trivial, trivial⟩
    · exact h

theorem Ok.lay {n m : Nat} {x : SS} (h : Ok n m x) (h0 : 0 < x.hi) (h1 : x.laid < x.mid - x.lo) : Ok n m (layS x) := by
  have hm := h.merge.resolve_left (by omega)
  obtain ⟨m1, m2, m3, m4, m5, m6, m7, m8, m9, m10⟩ := hm
  have := m8 h1
  refine ⟨h.ol, h.cl, by simpa [layS] using h.al, h.ord, h.reach, h.rle, h.stk, .inr ⟨m1, m2, m3, ?_, ?_, m6, m7, ?_, m9, ?_⟩, h.rnk, h.rnk0, h.last, h.last2⟩
  · simp only [layS]; omega
  · simp only [layS]; omega
  · intro _; exact this
  · intro i hi
    simp only [layS, getD_set]
    have hol := h.ol
    have hal := h.al
    split
    · exact h.ord _ (by omega)
    · rename_i hne
      exact m10 i (by simp only [layS] at hi; omega)

theorem Ok.ends {n m : Nat} {x : SS} (h : Ok n m { x with lo := x.lo }) (e : Bool) : Ok n m (endS x e) := by
  unfold endS
  cases e
  · exact h
  · exact ⟨h.ol, h.cl, h.al, h.ord, h.reach, h.rle, h.stk, .inl rfl, h.rnk, fun h2 => ⟨(h.rnk0 h2).1, rfl⟩, h.last, h.last2⟩

theorem Ok.put {n m : Nat} {x : SS} (s : ByteArray) (h : Ok n m x) (h0 : 0 < x.hi) (h1 : ¬ x.laid < x.mid - x.lo) : Ok n m (putS s x) := by
  have hm := h.merge.resolve_left (by omega)
  obtain ⟨m1, m2, m3, m4, m5, m6, m7, m8, m9, m10⟩ := hm
  have hr : x.rnk = 0 := by
    rcases Nat.eq_zero_or_pos x.rnk with h2 | h2
    · exact h2
    · have := (h.rnk0 h2).2; omega
  have hol := h.ol
  unfold putS
  by_cases ht : takeS s x = true
  · rw [if_pos ht]
    have h1l : x.one < x.laid := by
      unfold takeS at ht
      rw [Bool.or_eq_true, Bool.and_eq_true, decide_eq_true_iff] at ht
      rcases ht with h2 | h2
      · have : x.two = x.hi := by simpa using h2
        omega
      · exact h2.1
    have hord : ∀ i, i < n → (x.ord.set (toS x) (x.asd.getD x.one 0)).getD i 0 < n := by
      intro i hi
      rw [getD_set]
      split
      · exact m10 _ h1l
      · exact h.ord i hi
    unfold endS
    by_cases he : (toS x + 1 == x.hi) = true
    · rw [if_pos he]
      exact ⟨by simpa using hol, h.cl, h.al, hord, h.reach, h.rle, h.stk, .inl rfl, h.rnk, fun h2 => ⟨(h.rnk0 h2).1, rfl⟩, h.last, h.last2⟩
    · rw [if_neg he]
      have he : ¬ toS x + 1 = x.hi := by simpa using he
      unfold toS at he
      refine ⟨by simpa using hol, h.cl, h.al, hord, h.reach, h.rle, h.stk, .inr ⟨m1, m2, m3, m4, ?_, m6, m7, ?_, ?_, m10⟩, h.rnk, h.rnk0, h.last, h.last2⟩
      · simp only; omega
      · simp only; omega
      · simp only; omega
  · rw [if_neg ht]
    have h1l : x.two < x.hi := by
      unfold takeS at ht
      rw [Bool.or_eq_true] at ht
      have h2 : ¬ x.two = x.hi := fun h2 => ht (.inl (by simpa using h2))
      omega
    have hord : ∀ i, i < n → (x.ord.set (toS x) (x.ord.getD x.two 0)).getD i 0 < n := by
      intro i hi
      rw [getD_set]
      split
      · exact h.ord _ (by omega)
      · exact h.ord i hi
    unfold endS
    by_cases he : (toS x + 1 == x.hi) = true
    · rw [if_pos he]
      exact ⟨by simpa using hol, h.cl, h.al, hord, h.reach, h.rle, h.stk, .inl rfl, h.rnk, fun h2 => ⟨(h.rnk0 h2).1, rfl⟩, h.last, h.last2⟩
    · rw [if_neg he]
      have he : ¬ toS x + 1 = x.hi := by simpa using he
      unfold toS at he
      refine ⟨by simpa using hol, h.cl, h.al, hord, h.reach, h.rle, h.stk, .inr ⟨m1, m2, m3, m4, m5, ?_, ?_, ?_, ?_, m10⟩, h.rnk, h.rnk0, h.last, h.last2⟩
      · simp only; omega
      · simp only; omega
      · simp only; omega
      · simp only; omega

theorem Ok.begins {n m : Nat} {x : SS} (h : Ok n m x) (h0 : x.hi = 0) : Ok n m (beginS x) := by
  unfold beginS
  split
  · exact h
  · rename_i p r hs
    have hr : x.rnk = 0 := by
      rcases Nat.eq_zero_or_pos x.rnk with h2 | h2
      · exact h2
      · have := (h.rnk0 h2).1; rw [hs] at this; cases this
    have hp := h.stk p (by rw [hs]; simp)
    have hrest : ∀ q, q ∈ r → PartOk n q := fun q hq => h.stk q (by rw [hs]; exact List.mem_cons_of_mem _ hq)
    obtain ⟨q1, q2, q3⟩ := hp
    split
    · exact ⟨h.ol, h.cl, h.al, h.ord, h.reach, h.rle, hrest, .inl h0, h.rnk, fun h2 => by simp only at h2; omega, h.last, h.last2⟩
    · refine ⟨h.ol, h.cl, h.al, h.ord, h.reach, h.rle, fun q hq => ?_, .inl h0, h.rnk, fun h2 => by simp only at h2; omega, h.last, h.last2⟩
      simp only [List.mem_cons] at hq
      rcases hq with rfl | rfl | rfl | hq
      · exact ⟨by simp only; omega, by simp only; omega, .inl rfl⟩
      · exact ⟨by simp only; omega, by simp only; omega, .inl rfl⟩
      · exact ⟨by simp only; omega, by simp only; omega, .inr (by simp only; omega)⟩
      · exact hrest q hq

theorem lastS_le {n m : Nat} {x : SS} (s : ByteArray) (h : Ok n m x) : lastS s x ≤ x.rnk := by
  unfold lastS
  have := h.last2
  split
  · omega
  · split <;> omega

/-- the passes that may be behind this one, when it ends -/
def lessP (x : SS) (m : Nat) : Nat := m - 1
theorem Ok.ranks {n m : Nat} {x : SS} (s : ByteArray) (h : Ok n m x) (h0 : x.hi = 0) (hs : x.stk = []) (hd : x.done = false) :
    Ok n (if x.rnk + 1 = n ∧ (rankS s x).done = false then m - 1 else m) (rankS s x) ∧ (x.rnk + 1 = n → (rankS s x).done = false → 1 ≤ m) := by
  have hl := lastS_le s h
  have hrn := h.rnk hd
  have hol := h.ol
  unfold rankS
  by_cases he : (classS s x).rnk = x.ord.length
  · rw [if_pos he]
    have he2 : x.rnk + 1 = n := by simp only [classS] at he; omega
    unfold passS
    by_cases hc : (classS s x).last + 1 = (classS s x).ord.length ∨ (classS s x).ord.length ≤ (classS s x).reach
    · rw [if_pos hc]
      refine ⟨?_, fun _ h2 => by simp at h2⟩
      rw [if_neg (by simp)]
      exact ⟨h.ol, by simpa [classS] using h.al, h.cl, h.ord, h.reach, h.rle, h.stk, .inl h0, fun h2 => (by cases h2), fun h2 => by simp only at h2; omega, by simp only [classS]; omega, .inl rfl⟩
    · rw [if_neg hc]
      have hc2 : x.reach < n := by simp only [classS] at hc; omega
      have hm : 1 ≤ m := by
        rcases h.reach with h2 | h2
        · exact h2.2.1
        · rcases Nat.eq_zero_or_pos m with h3 | h3
          · subst h3; simp at h2; omega
          · exact h3
      refine ⟨?_, fun _ _ => hm⟩
      rw [if_pos ⟨he2, by simpa [classS] using hd⟩]
      refine ⟨h.ol, by simpa [classS] using h.al, h.cl, h.ord, ?_, ?_, ?_, .inl h0, fun _ => by simp only; omega, fun h2 => by simp only at h2; omega, by simp only [classS]; omega, .inl rfl⟩
      · right
        simp only [classS]
        refine ⟨by omega, ?_⟩
        rcases h.reach with h2 | h2
        · rw [h2.1]; simpa using h2.2.2
        · have e : max 1 (2 * x.reach) = 2 * x.reach := by omega
          rw [e]
          have e2 : 2 * x.reach * 2 ^ (m - 1) = x.reach * 2 ^ m := by
            obtain ⟨k, rfl⟩ : ∃ k, m = k + 1 := ⟨m - 1, by omega⟩
            rw [Nat.pow_succ, Nat.add_sub_cancel, Nat.mul_comm 2 x.reach, Nat.mul_assoc, Nat.mul_comm 2]
          rw [e2]; exact h2.2
      · simp only [classS]; omega
      · intro q hq
        simp only [classS, hs, List.mem_singleton] at hq
        subst hq
        exact ⟨by simp, by simp only; omega, .inl rfl⟩
  · rw [if_neg he]
    have he2 : x.rnk + 1 ≠ n := by simp only [classS] at he; omega
    rw [if_neg (by omega)]
    refine ⟨?_, fun h2 => absurd h2 he2⟩
    exact ⟨h.ol, h.cl, by simpa [classS] using h.al, h.ord, h.reach, h.rle, h.stk, .inl h0, fun _ => by simp only [classS]; omega, fun _ => ⟨hs, h0⟩, by simp only [classS]; omega, .inr (by simp only [classS]; omega)⟩

/-! each step is one less -/
theorem restP_join {n m : Nat} {x : SS} (h : Ok n m x) : restP n (joinS x) = restP n x := by
  unfold joinS
  split
  · rfl
  · rename_i p r hs
    split
    · rename_i hc
      have hp := (h.stk p (by rw [hs]; simp)).2.2.resolve_left hc.2
      unfold restP restM
      rw [hs]
      simp only [List.map_cons, List.sum_cons, hc.1, if_true, costP, if_neg hc.2]
      rw [if_neg (by omega)]; omega
    · rfl
theorem restP_lay {n m : Nat} {x : SS} (h : Ok n m x) (h0 : 0 < x.hi) (h1 : x.laid < x.mid - x.lo) : restP n (layS x) + 1 = restP n x := by
  unfold restP restM layS
  simp only
  rw [if_neg (by omega), if_neg (by omega)]
  omega
theorem restP_put {n m : Nat} {x : SS} (s : ByteArray) (h : Ok n m x) (h0 : 0 < x.hi) (h1 : ¬ x.laid < x.mid - x.lo) : restP n (putS s x) + 1 = restP n x := by
  obtain ⟨m1, m2, m3, m4, m5, m6, m7, m8, m9, m10⟩ := h.merge.resolve_left (by omega)
  have e0 : restM x = x.hi - x.lo - (x.one + (x.two - x.mid)) := by
    unfold restM; rw [if_neg (by omega)]; omega
  have key : ∀ y : SS, y.stk = x.stk → y.rnk = x.rnk → y.lo = x.lo → y.mid = x.mid → y.hi = x.hi → y.laid = x.laid → (y.one = x.one + 1 ∧ y.two = x.two ∨ y.one = x.one ∧ y.two = x.two + 1) → restP n (endS y (toS x + 1 == x.hi)) + 1 = restP n x := by
    intro y e1 e2 e3 e4 e5 e6 e7
    unfold restP
    rw [e0]
    have hto : toS x = x.lo + x.one + x.two - x.mid := rfl
    by_cases he : toS x + 1 = x.hi
    · have he2 : (toS x + 1 == x.hi) = true := by simpa using he
      have : restM (endS y true) = 0 := by simp [restM, endS]
      rw [he2, this]
      simp only [endS, if_true, e1, e2]
      omega
    · have he2 : (toS x + 1 == x.hi) = false := by simpa using he
      rw [he2]
      have : restM (endS y false) = x.hi - x.lo - (y.one + (y.two - x.mid)) := by
        unfold restM; simp only [endS, Bool.false_eq_true, if_false]; rw [if_neg (by omega), e3, e4, e5, e6]; omega
      rw [this]
      simp only [endS, Bool.false_eq_true, if_false, e1, e2]
      omega
  unfold putS
  split
  · exact key _ rfl rfl rfl rfl rfl rfl (.inl ⟨rfl, rfl⟩)
  · exact key _ rfl rfl rfl rfl rfl rfl (.inr ⟨rfl, rfl⟩)
theorem restP_begin {n m : Nat} {x : SS} (h : Ok n m x) (h0 : x.hi = 0) {p : Nat × Nat × Nat} {r : List (Nat × Nat × Nat)} (hs : x.stk = p :: r) (hp : p.2.1 = 0) : restP n (beginS x) + 1 = restP n x := by
  unfold beginS
  rw [hs]
  simp only
  split
  · rename_i hc
    unfold restP restM
    rw [hs]
    simp only [List.map_cons, List.sum_cons, h0, if_true, costP, hp]
    rw [costT_small hc]
    omega
  · rename_i hc
    have h2 := h.stk p (by rw [hs]; simp)
    have q1 := h2.1
    unfold restP restM
    rw [hs]
    simp only [List.map_cons, List.sum_cons, h0, if_true, costP, hp]
    rw [costT_big (m := p.2.2 - p.1) (by omega), if_neg (by omega)]
    have e1 : (p.1 + p.2.2) / 2 - p.1 = (p.2.2 - p.1) / 2 := by omega
    have e2 : p.2.2 - (p.1 + p.2.2) / 2 = p.2.2 - p.1 - (p.2.2 - p.1) / 2 := by omega
    rw [e1, e2]
    omega

def total (n m : Nat) (x : SS) : Nat := restP n x + m * (costT n + n)

theorem restP_rank {n m : Nat} {x : SS} (s : ByteArray) (h : Ok n m x) (h0 : x.hi = 0) (hs : x.stk = []) (hd : x.done = false) (hnd : (rankS s x).done = false) :
    total n (if x.rnk + 1 = n ∧ (rankS s x).done = false then m - 1 else m) (rankS s x) + 1 = total n m x := by
  have hm := (h.ranks s h0 hs hd).2
  have hrn := h.rnk hd
  have hol := h.ol
  have e0 : restP n x = n - x.rnk := by unfold restP restM; rw [hs, if_pos h0]; simp
  unfold total
  rw [e0]
  by_cases he : x.rnk + 1 = n
  · have hm := hm he hnd
    rw [if_pos ⟨he, hnd⟩]
    obtain ⟨k, rfl⟩ : ∃ k, m = k + 1 := ⟨m - 1, by omega⟩
    have e1 : restP n (rankS s x) = costT n + n := by
      unfold rankS at hnd ⊢
      rw [if_pos (by simp only [classS]; omega)] at hnd ⊢
      unfold passS at hnd ⊢
      split at hnd
      · cases hnd
      · rename_i hc
        rw [if_neg hc]
        unfold restP restM
        simp [classS, hs, h0, costP, hol]
    rw [e1, Nat.add_sub_cancel, Nat.add_mul, Nat.one_mul]
    omega
  · rw [if_neg (by omega)]
    have e1 : restP n (rankS s x) = n - (x.rnk + 1) := by
      unfold rankS
      rw [if_neg (by simp only [classS]; omega)]
      unfold restP restM
      simp [classS, hs, h0]
    rw [e1]
    omega

theorem Ok.of_steps {n m : Nat} {x : SS} (h : Ok n m x) (k : Nat) : Ok n m { x with steps := k } := ⟨h.ol, h.cl, h.al, h.ord, h.reach, h.rle, h.stk, (h.merge.imp id fun ⟨a, b, c, d, e, f, g, i, j, l⟩ => ⟨a, b, c, d, e, f, g, i, j, l⟩), h.rnk, h.rnk0, h.last, h.last2⟩

/-- after the join, a part on top that is to be put together means that one is being put together -/
theorem join_top {x : SS} {p : Nat × Nat × Nat} {r : List (Nat × Nat × Nat)} (hs : (joinS x).stk = p :: r) (h0 : (joinS x).hi = 0) {n m : Nat} (h : Ok n m x) : p.2.1 = 0 := by
  unfold joinS at hs h0
  split at hs
  · rename_i h1; rw [h1] at hs; cases hs
  · rename_i q r' h1
    split at hs
    · rename_i hc
      rw [h1] at h0
      simp only [if_pos hc] at h0
      have := (h.stk q (by rw [h1]; simp)).2.2.resolve_left hc.2
      omega
    · rename_i hc
      rw [h1] at h0
      simp only [if_neg hc] at h0
      rw [h1] at hs
      cases hs
      exact Decidable.byContradiction fun hp => hc ⟨h0, hp⟩

theorem join_done (x : SS) : (joinS x).done = x.done := by
  unfold joinS
  split
  · rfl
  · split <;> rfl

theorem Ok.step {n m : Nat} {x : SS} (s : ByteArray) (h : Ok n m x) (hd : x.done = false) :
    ∃ m', Ok n m' (stepS s x) ∧ ((stepS s x).done = false → total n m' (stepS s x) + 1 = total n m x) := by
  have hj := h.join
  have ej := restP_join h
  have hdj : (joinS x).done = false := by rw [join_done]; exact hd
  unfold stepS
  have tk : ∀ (m' : Nat) (y : SS) (k : Nat), total n m' { y with steps := k } = total n m' y := fun m' y k => rfl
  have fin : ∀ m' y, Ok n m' y → (y.done = false → total n m' y + 1 = total n m (joinS x)) → ∃ m', Ok n m' { y with steps := x.steps + 1 } ∧ (({ y with steps := x.steps + 1 } : SS).done = false → total n m' { y with steps := x.steps + 1 } + 1 = total n m x) := fun m' y h1 h2 =>
    ⟨m', h1.of_steps _, fun h3 => by rw [tk, h2 h3]; unfold total; rw [ej]⟩
  unfold actS
  by_cases h0 : 0 < (joinS x).hi
  · rw [if_pos h0]
    by_cases h1 : (joinS x).laid < (joinS x).mid - (joinS x).lo
    · rw [if_pos h1]
      exact fin m _ (hj.lay h0 h1) fun _ => by unfold total; rw [← restP_lay hj h0 h1]; omega
    · rw [if_neg h1]
      exact fin m _ (hj.put s h0 h1) fun _ => by unfold total; rw [← restP_put s hj h0 h1]; omega
  · rw [if_neg h0]
    have h0 : (joinS x).hi = 0 := by omega
    split
    · rename_i hs
      exact fin _ _ (hj.ranks s h0 hs hdj).1 fun h3 => restP_rank s hj h0 hs hdj h3
    · rename_i hs
      obtain ⟨p, r, hs⟩ : ∃ p r, (joinS x).stk = p :: r := by
        cases h2 : (joinS x).stk with
        | nil => exact absurd h2 hs
        | cons p r => exact ⟨p, r, rfl⟩
      exact fin m _ (hj.begins h0) fun _ => by unfold total; rw [← restP_begin hj h0 hs (join_top hs h0 h)]; omega

end Sp
end Go.Proofs.Ytbakfaihnecmoaa

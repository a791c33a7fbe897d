/- The evaluator's parts are local: what they yield hangs on what they touched alone. No program in sight. -/
import Derived.Test.YtmjolmggelkjlaaGreatEvA
namespace Go.Proofs.YtmjolmggelkjlaaGreat.Ev
set_option linter.unusedVariables false
set_option linter.unusedSimpArgs false
open Go

theorem Tr.get_nil {α : Type} (f j : Nat) : Tr.get f (.nil : Tr α) j = none := by cases f <;> rfl
theorem Tr.get_big {α : Type} : ∀ (f : Nat) (t : Tr α) (j : Nat), 2 ^ f - 1 ≤ j → Tr.get f t j = none := by
  intro f
  induction f with
  | zero => intro t j _; rfl
  | succ f ih =>
    intro t j hj
    have h2 : 2 ^ (f + 1) = 2 * 2 ^ f := by rw [Nat.pow_succ]; omega
    have h1 : 1 ≤ 2 ^ f := Nat.one_le_two_pow
    cases t with
    | nil => rfl
    | node l v r =>
      unfold Tr.get
      by_cases h0 : j = 0
      · have hf : 2 ^ f = 1 := by omega
        omega
      · rw [if_neg h0]
        split
        · exact ih l _ (by omega)
        · exact ih r _ (by omega)
theorem Tr.get_set {α : Type} : ∀ (f : Nat) (t : Tr α) (i : Nat) (a : Option α) (j : Nat), i < 2 ^ f - 1 → Tr.get f (Tr.set f t i a) j = if j = i then a else Tr.get f t j := by
  intro f
  induction f with
  | zero => intro t i a j h; simp at h
  | succ f ih =>
    intro t i a j hi
    have h2 : 2 ^ (f + 1) = 2 * 2 ^ f := by rw [Nat.pow_succ]; omega
    have h1 : 1 ≤ 2 ^ f := Nat.one_le_two_pow
    cases t with
    | nil =>
      unfold Tr.set
      by_cases h0 : i = 0
      · subst h0
        simp only [if_true]
        unfold Tr.get
        by_cases hj : j = 0
        · simp [hj]
        · simp [hj, Tr.get_nil]
      · rw [if_neg h0]
        by_cases ho : i % 2 = 1
        · rw [if_pos ho]
          simp only [Tr.get]
          by_cases hj : j = 0
          · subst hj; simp; omega
          · rw [if_neg hj]
            by_cases hjo : j % 2 = 1
            · rw [if_pos hjo, ih _ _ _ _ (by omega)]
              by_cases e : j = i
              · subst e; simp
              · rw [if_neg e, if_neg (by omega), Tr.get_nil]
            · rw [if_neg hjo, Tr.get_nil, if_neg (by intro e; subst e; exact hjo ho)]
        · rw [if_neg ho]
          simp only [Tr.get]
          by_cases hj : j = 0
          · subst hj; simp; omega
          · rw [if_neg hj]
            by_cases hjo : j % 2 = 1
            · rw [if_pos hjo, Tr.get_nil, if_neg (by intro e; subst e; exact ho hjo)]
            · rw [if_neg hjo, ih _ _ _ _ (by omega)]
              by_cases e : j = i
              · subst e; simp
              · rw [if_neg e, if_neg (by omega), Tr.get_nil]
    | node l v r =>
      unfold Tr.set
      by_cases h0 : i = 0
      · subst h0
        simp only [if_true]
        unfold Tr.get
        by_cases hj : j = 0
        · simp [hj]
        · simp [hj]
      · rw [if_neg h0]
        by_cases ho : i % 2 = 1
        · rw [if_pos ho]
          simp only [Tr.get]
          by_cases hj : j = 0
          · subst hj; simp; omega
          · rw [if_neg hj, if_neg hj]
            by_cases hjo : j % 2 = 1
            · rw [if_pos hjo, if_pos hjo, ih _ _ _ _ (by omega)]
              by_cases e : j = i
              · subst e; simp
              · rw [if_neg e, if_neg (by omega)]
            · rw [if_neg hjo, if_neg hjo, if_neg (by intro e; subst e; exact hjo ho)]
        · rw [if_neg ho]
          simp only [Tr.get]
          by_cases hj : j = 0
          · subst hj; simp; omega
          · rw [if_neg hj, if_neg hj]
            by_cases hjo : j % 2 = 1
            · rw [if_pos hjo, if_pos hjo, if_neg (by intro e; subst e; exact ho hjo)]
            · rw [if_neg hjo, if_neg hjo, ih _ _ _ _ (by omega)]
              by_cases e : j = i
              · subst e; simp
              · rw [if_neg e, if_neg (by omega)]
theorem Tr.get_fuel {α : Type} : ∀ (f f' : Nat) (t : Tr α) (i : Nat), i < 2 ^ f - 1 → i < 2 ^ f' - 1 → Tr.get f t i = Tr.get f' t i := by
  intro f
  induction f with
  | zero => intro f' t i h; simp at h
  | succ f ih =>
    intro f' t i h h'
    cases f' with
    | zero => simp at h'
    | succ f' =>
      have h2 : 2 ^ (f + 1) = 2 * 2 ^ f := by rw [Nat.pow_succ]; omega
      have h3 : 2 ^ (f' + 1) = 2 * 2 ^ f' := by rw [Nat.pow_succ]; omega
      cases t with
      | nil => rfl
      | node l v r =>
        unfold Tr.get
        by_cases h0 : i = 0
        · rw [if_pos h0, if_pos h0]
        · rw [if_neg h0, if_neg h0]
          split
          · exact ih f' l _ (by omega) (by omega)
          · exact ih f' r _ (by omega) (by omega)
theorem Tr.set_fuel {α : Type} : ∀ (f f' : Nat) (t : Tr α) (i : Nat) (a : Option α), i < 2 ^ f - 1 → i < 2 ^ f' - 1 → Tr.set f t i a = Tr.set f' t i a := by
  intro f
  induction f with
  | zero => intro f' t i a h; simp at h
  | succ f ih =>
    intro f' t i a h h'
    cases f' with
    | zero => simp at h'
    | succ f' =>
      have h2 : 2 ^ (f + 1) = 2 * 2 ^ f := by rw [Nat.pow_succ]; omega
      have h3 : 2 ^ (f' + 1) = 2 * 2 ^ f' := by rw [Nat.pow_succ]; omega
      cases t with
      | nil =>
        unfold Tr.set
        by_cases h0 : i = 0
        · rw [if_pos h0, if_pos h0]
        · rw [if_neg h0, if_neg h0]
          split
          · rw [ih f' _ _ a (by omega) (by omega)]
          · rw [ih f' _ _ a (by omega) (by omega)]
      | node l v r =>
        unfold Tr.set
        by_cases h0 : i = 0
        · rw [if_pos h0, if_pos h0]
        · rw [if_neg h0, if_neg h0]
          split
          · rw [ih f' _ _ a (by omega) (by omega)]
          · rw [ih f' _ _ a (by omega) (by omega)]
theorem pow_room (i k : Nat) : i < 2 ^ (i + 1 + k) - 1 := by
  have h1 : i + 1 + k < 2 ^ (i + 1 + k) := Nat.lt_two_pow_self
  omega
theorem H.get_set {h : H} {i : Nat} (x : Option AB) (j : Nat) : (h.set i x).get j = if j = i then x else h.get j := by
  unfold H.get H.set
  have hi := pow_room i (j + 1)
  have hj := pow_room j (i + 1)
  have hi0 := pow_room i 0
  have hj0 := pow_room j 0
  have e : i + 1 + (j + 1) = j + 1 + (i + 1) := by omega
  rw [e] at hi
  rw [Tr.get_fuel (j + 1) (j + 1 + (i + 1)) _ _ hj0 hj, Tr.get_fuel (j + 1) (j + 1 + (i + 1)) h _ hj0 hj, Tr.set_fuel (i + 1) (j + 1 + (i + 1)) _ _ _ hi0 hi]
  exact Tr.get_set _ _ _ _ _ hi

def hd (B : AB) : TypeId × Bool × Nat := (B.elem, B.own, B.cells.length)
def H.hd (h : H) (b : Nat) : Option (TypeId × Bool × Nat) := (h.get b).map Ev.hd
def H.cell (h : H) (b k : Nat) : Option Value := (h.get b).bind (·.cells[k]?)
def agrS (h h' : H) (b k : Nat) : Prop := h.hd b = h'.hd b ∧ h.cell b k = h'.cell b k
def agrE (h h' : H) (e : En) : Prop := match e.k with
  | none => h.get e.b = h'.get e.b
  | some k => agrS h h' e.b k
def wrote (L : List En) (b k : Nat) : Prop := ∃ e ∈ L, e.wr = true ∧ e.b = b ∧ (e.k = none ∨ e.k = some k)

theorem agrS.refl (h : H) (b k : Nat) : agrS h h b k := ⟨rfl, rfl⟩
theorem agrS.symm {h h' : H} {b k : Nat} (x : agrS h h' b k) : agrS h' h b k := ⟨x.1.symm, x.2.symm⟩
theorem agrS.trans {h h' h'' : H} {b k : Nat} (x : agrS h h' b k) (y : agrS h' h'' b k) : agrS h h'' b k := ⟨x.1.trans y.1, x.2.trans y.2⟩
theorem agrS.of_get {h h' : H} {b : Nat} (k : Nat) (x : h.get b = h'.get b) : agrS h h' b k := by
  unfold agrS H.hd H.cell; rw [x]; exact ⟨rfl, rfl⟩
theorem get_of_agrS {h h' : H} {b : Nat} (x : ∀ k, agrS h h' b k) : h.get b = h'.get b := by
  have h0 := (x 0).1
  unfold H.hd at h0
  cases hg : h.get b with
  | none => rw [hg] at h0; cases hg' : h'.get b with
    | none => rfl
    | some B => rw [hg'] at h0; simp at h0
  | some B =>
    rw [hg] at h0
    cases hg' : h'.get b with
    | none => rw [hg'] at h0; simp at h0
    | some B' =>
      rw [hg'] at h0
      simp [Ev.hd] at h0
      obtain ⟨h1, h2, h3⟩ := h0
      have hc : B.cells = B'.cells := by
        apply List.ext_getElem?
        intro k
        have := (x k).2
        unfold H.cell at this
        rw [hg, hg'] at this
        simpa using this
      cases B; cases B'
      simp_all
theorem agrE.of_get {h h' : H} {e : En} (x : h.get e.b = h'.get e.b) : agrE h h' e := by
  unfold agrE
  split
  · exact x
  · exact agrS.of_get _ x
theorem agrE.of_all {h h' : H} {e : En} (x : ∀ k, (e.k = none ∨ e.k = some k) → agrS h h' e.b k) : agrE h h' e := by
  unfold agrE
  split
  · rename_i he
    exact get_of_agrS fun k => x k (.inl he)
  · rename_i k he
    exact x k (.inr he)
theorem agrE.at_ {h h' : H} {e : En} (x : agrE h h' e) {k : Nat} (hk : e.k = none ∨ e.k = some k) : agrS h h' e.b k := by
  unfold agrE at x
  rcases hk with hk | hk
  · rw [hk] at x; exact agrS.of_get k x
  · rw [hk] at x; exact x

theorem wrote_append {L L' : List En} {b k : Nat} : wrote (L ++ L') b k ↔ wrote L b k ∨ wrote L' b k := by
  unfold wrote
  constructor
  · rintro ⟨e, he, hr⟩
    rcases List.mem_append.1 he with h | h
    · exact .inl ⟨e, h, hr⟩
    · exact .inr ⟨e, h, hr⟩
  · rintro (⟨e, he, hr⟩ | ⟨e, he, hr⟩)
    · exact ⟨e, List.mem_append.2 (.inl he), hr⟩
    · exact ⟨e, List.mem_append.2 (.inr he), hr⟩
theorem not_wrote_nil {b k : Nat} : ¬ wrote [] b k := by rintro ⟨e, he, _⟩; cases he

/-- what a part yields hangs on what it touched alone, and it changes nothing else -/
structure LocAt {α : Type} (m : M α) (h : H) (n : Nat) (r : α) (h1 : H) (n1 : Nat) (L : List En) : Prop where
  le : n ≤ n1
  lt : ∀ e ∈ L, e.b < n1
  frame : ∀ b k, ¬ wrote L b k → ¬ (n ≤ b ∧ b < n1) → agrS h1 h b k
  det : ∀ h', (∀ e ∈ L, ¬ (n ≤ e.b ∧ e.b < n1) → agrE h h' e) → ∃ h1', m h' n = some ⟨r, h1', n1, L⟩ ∧ ∀ b k, (wrote L b k ∨ (n ≤ b ∧ b < n1)) → agrS h1' h1 b k
def Loc {α : Type} (m : M α) : Prop := ∀ h n r h1 n1 L, m h n = some ⟨r, h1, n1, L⟩ → LocAt m h n r h1 n1 L

theorem Loc.ret {α : Type} (a : α) : Loc (.ret a) := by
  intro h n r h1 n1 L hm
  simp only [M.ret, Option.some.injEq, Out.mk.injEq] at hm
  obtain ⟨rfl, rfl, rfl, rfl⟩ := hm
  exact ⟨Nat.le_refl _, (fun e he => nomatch he), fun b k _ _ => agrS.refl _ _ _, fun h' _ => ⟨h', rfl, fun b k hw => by
    rcases hw with hw | hw
    · exact absurd hw not_wrote_nil
    · omega⟩⟩
theorem Loc.fail {α : Type} : Loc (.fail : M α) := by intro h n r h1 n1 L hm; cases hm
theorem Loc.lift {α : Type} (o : Option α) : Loc (.lift o) := by
  cases o with
  | none => intro h n r h1 n1 L hm; cases hm
  | some a => exact Loc.ret a
theorem Loc.bind {α β : Type} {m : M α} {f : α → M β} (hm : Loc m) (hf : ∀ a, Loc (f a)) : Loc (m.bind f) := by
  intro h n r h2 n2 L hr
  unfold M.bind at hr
  split at hr
  · rename_i a h1 n1 L1 e1
    split at hr
    · rename_i c h2' n2' L2 e2
      simp only [Option.some.injEq, Out.mk.injEq] at hr
      obtain ⟨rfl, rfl, rfl, rfl⟩ := hr
      have A := hm h n a h1 n1 L1 e1
      have B := hf a h1 n1 c h2' n2' L2 e2
      have hle1 := A.le
      have hle2 := B.le
      refine ⟨by omega, fun e he => ?_, fun b k hw hi => ?_, fun h' hag => ?_⟩
      · rcases List.mem_append.1 he with h | h
        · have := A.lt e h; omega
        · exact B.lt e h
      · rw [wrote_append] at hw
        exact (B.frame b k (fun x => hw (.inr x)) (by omega)).trans (A.frame b k (fun x => hw (.inl x)) (by omega))
      · obtain ⟨h1', r1, w1⟩ := A.det h' fun e he hi => hag e (List.mem_append.2 (.inl he)) (by have := A.lt e he; omega)
        have A' := hm h' n a h1' n1 L1 r1
        obtain ⟨h2', r2, w2⟩ := B.det h1' fun e he hi => by
          apply agrE.of_all
          intro k hk
          by_cases hw : wrote L1 e.b k ∨ (n ≤ e.b ∧ e.b < n1)
          · exact (w1 e.b k hw).symm
          · have hw1 : ¬ wrote L1 e.b k := fun x => hw (.inl x)
            have hw2 : ¬ (n ≤ e.b ∧ e.b < n1) := fun x => hw (.inr x)
            exact ((A.frame e.b k hw1 hw2).trans ((hag e (List.mem_append.2 (.inr he)) (by omega)).at_ hk)).trans (A'.frame e.b k hw1 hw2).symm
        have B' := hf a h1' n1 c h2' n2' L2 r2
        refine ⟨h2', by unfold M.bind; rw [r1]; simp only [r2], fun b k hw => ?_⟩
        rw [wrote_append] at hw
        by_cases hw2 : wrote L2 b k ∨ (n1 ≤ b ∧ b < n2')
        · exact w2 b k hw2
        · have hx1 : ¬ wrote L2 b k := fun x => hw2 (.inl x)
          have hx2 : ¬ (n1 ≤ b ∧ b < n2') := fun x => hw2 (.inr x)
          have hy : wrote L1 b k ∨ (n ≤ b ∧ b < n1) := by
            rcases hw with (hw | hw) | hw
            · exact .inl hw
            · exact absurd hw hx1
            · exact .inr (by omega)
          exact ((B'.frame b k hx1 hx2).trans (w1 b k hy)).trans (B.frame b k hx1 hx2).symm
    · cases hr
  · cases hr
theorem Loc.ite {α : Type} {c : Prop} [Decidable c] {x y : M α} (hx : Loc x) (hy : Loc y) : Loc (if c then x else y) := by
  by_cases h : c
  · rw [if_pos h]; exact hx
  · rw [if_neg h]; exact hy

theorem Loc.rd (b k : Nat) : Loc (Ev.rd b k) := by
  intro h n r h1 n1 L hr
  unfold Ev.rd at hr
  split at hr
  · rename_i hb
    split at hr
    · rename_i B hB
      split at hr
      · rename_i v hv
        simp only [Option.some.injEq, Out.mk.injEq] at hr
        obtain ⟨rfl, rfl, rfl, rfl⟩ := hr
        have nw : ∀ b' k', ¬ wrote [(⟨false, b, some k⟩ : En)] b' k' := by
          rintro b' k' ⟨e, he, hw, _⟩
          simp at he; subst he; cases hw
        refine ⟨Nat.le_refl _, fun e he => by simp at he; subst he; exact hb, fun b' k' _ _ => agrS.refl _ _ _, fun h' hag => ⟨h', ?_, fun b' k' hw => ?_⟩⟩
        · have := hag ⟨false, b, some k⟩ (by simp) (by show ¬ (n ≤ b ∧ b < n); omega)
          unfold agrE agrS at this
          simp only [H.cell, hB, Option.bind_some, hv] at this
          obtain ⟨_, t2⟩ := this
          cases hg : h'.get b with
          | none => rw [hg] at t2; simp at t2
          | some B' =>
            rw [hg] at t2
            simp at t2
            unfold Ev.rd
            rw [if_pos hb, hg]
            simp only [← t2]
        · rcases hw with hw | hw
          · exact absurd hw (nw _ _)
          · omega
      · cases hr
    · cases hr
  · cases hr
theorem set_cell {h : H} {b k : Nat} {B : AB} (hB : h.get b = some B) (v : Value) (b' k' : Nat) : (h.set b (some { B with cells := B.cells.set k v })).get b' = if b' = b then some { B with cells := B.cells.set k v } else h.get b' := H.get_set _ _
theorem Loc.wr (b k : Nat) (v : Value) : Loc (Ev.wr b k v) := by
  intro h n r h1 n1 L hr
  unfold Ev.wr at hr
  split at hr
  · rename_i hb
    split at hr
    · rename_i B hB
      split at hr
      · rename_i hc
        simp only [Option.some.injEq, Out.mk.injEq] at hr
        obtain ⟨_, rfl, rfl, rfl⟩ := hr
        have hcc := hc
        simp only [Bool.and_eq_true, decide_eq_true_eq] at hcc
        obtain ⟨⟨hown, hk⟩, hone⟩ := hcc
        refine ⟨Nat.le_refl _, fun e he => by simp at he; rcases he with rfl | rfl <;> exact hb, fun b' k' hw _ => ?_, fun h' hag => ?_⟩
        · unfold agrS H.hd H.cell
          rw [set_cell hB v b' k']
          by_cases e : b' = b
          · subst e
            rw [if_pos rfl, hB]
            have hkk : k ≠ k' := fun e => hw ⟨⟨true, b', some k⟩, by simp, rfl, rfl, .inr (by rw [e])⟩
            simp [Ev.hd, List.getElem?_set_ne hkk]
          · rw [if_neg e]; exact ⟨rfl, rfl⟩
        · have := hag ⟨false, b, some k⟩ (by simp) (by show ¬ (n ≤ b ∧ b < n); omega)
          unfold agrE agrS at this
          simp only [H.hd, H.cell, hB, Option.map_some, Option.bind_some] at this
          obtain ⟨t1, t2⟩ := this
          cases hg : h'.get b with
          | none => rw [hg] at t1; simp at t1
          | some B' =>
            rw [hg] at t1 t2
            simp [Ev.hd] at t1
            obtain ⟨q1, q2, q3⟩ := t1
            refine ⟨h'.set b (some { B' with cells := B'.cells.set k v }), ?_, fun b' k' hw => ?_⟩
            · unfold Ev.wr
              rw [if_pos hb, hg]
              simp only
              rw [if_pos (by rw [← q2, ← q3]; exact hc)]
            · have hbk : b' = b ∧ k' = k := by
                rcases hw with ⟨e, he, hw, rfl, hk'⟩ | hw
                · simp at he
                  rcases he with rfl | rfl
                  · cases hw
                  · simp at hk'; exact ⟨rfl, hk'.symm⟩
                · omega
              obtain ⟨rfl, rfl⟩ := hbk
              unfold agrS H.hd H.cell
              rw [set_cell hB v b' k', set_cell hg v b' k', if_pos rfl, if_pos rfl]
              refine ⟨?_, ?_⟩
              · simp [Ev.hd, q1, q2, q3]
              · simp [hk, ← q3]
      · cases hr
    · cases hr
  · cases hr
theorem Loc.newB (e : TypeId) (cs : List Value) : Loc (Ev.newB e cs) := by
  intro h n r h1 n1 L hr
  unfold Ev.newB at hr
  split at hr
  · rename_i hn
    simp only [Option.some.injEq, Out.mk.injEq] at hr
    obtain ⟨rfl, rfl, rfl, rfl⟩ := hr
    refine ⟨by omega, (fun e he => nomatch he), fun b k _ hi => ?_, fun h' _ => ⟨h'.set n (some ⟨e, true, cs⟩), ?_, fun b k hw => ?_⟩⟩
    · apply agrS.of_get
      rw [H.get_set _ _, if_neg (by omega)]
    · unfold Ev.newB
      rw [if_pos hn]
    · have hb : b = n := by
        rcases hw with hw | hw
        · exact absurd hw not_wrote_nil
        · omega
      subst hb
      apply agrS.of_get
      rw [H.get_set _ _, H.get_set _ _]
      simp
  · cases hr
theorem Loc.whole (b : Nat) : Loc (Ev.whole b) := by
  intro h n r h1 n1 L hr
  unfold Ev.whole at hr
  split at hr
  · rename_i hb
    split at hr
    · rename_i B hB
      simp only [Option.some.injEq, Out.mk.injEq] at hr
      obtain ⟨rfl, rfl, rfl, rfl⟩ := hr
      refine ⟨Nat.le_refl _, fun e he => by simp at he; subst he; exact hb, fun b' k' _ _ => agrS.refl _ _ _, fun h' hag => ⟨h', ?_, fun b' k' hw => ?_⟩⟩
      · have := hag ⟨false, b, none⟩ (by simp) (by show ¬ (n ≤ b ∧ b < n); omega)
        unfold agrE at this
        simp only [hB] at this
        unfold Ev.whole
        rw [if_pos hb, ← this]
      · rcases hw with ⟨e, he, hw, _⟩ | hw
        · simp at he; subst he; cases hw
        · omega
    · cases hr
  · cases hr
theorem Loc.hdr (b : Nat) : Loc (Ev.hdr b) := by
  intro h n r h1 n1 L hr
  unfold Ev.hdr at hr
  split at hr
  · rename_i hb
    split at hr
    · rename_i B hB
      simp only [Option.some.injEq, Out.mk.injEq] at hr
      obtain ⟨rfl, rfl, rfl, rfl⟩ := hr
      refine ⟨Nat.le_refl _, fun e he => by simp at he; subst he; exact hb, fun b' k' _ _ => agrS.refl _ _ _, fun h' hag => ⟨h', ?_, fun b' k' hw => ?_⟩⟩
      · have := hag ⟨false, b, some 1099511627776⟩ (by simp) (by show ¬ (n ≤ b ∧ b < n); omega)
        unfold agrE agrS at this
        simp only [H.hd, hB, Option.map_some] at this
        cases hg : h'.get b with
        | none => rw [hg] at this; simp at this
        | some B' =>
          rw [hg] at this
          simp [Ev.hd] at this
          unfold Ev.hdr
          rw [if_pos hb, hg]
          simp only [← this.1.1]
      · rcases hw with ⟨e, he, hw, _⟩ | hw
        · simp at he; subst he; cases hw
        · omega
    · cases hr
  · cases hr
theorem Loc.kill (b : Nat) : Loc (Ev.kill b) := by
  intro h n r h1 n1 L hr
  unfold Ev.kill at hr
  split at hr
  · rename_i hb
    split at hr
    · rename_i B hB
      split at hr
      · rename_i ho
        simp only [Option.some.injEq, Out.mk.injEq] at hr
        obtain ⟨_, rfl, rfl, rfl⟩ := hr
        refine ⟨Nat.le_refl _, fun e he => by simp at he; rcases he with rfl | rfl <;> exact hb, fun b' k' hw _ => ?_, fun h' hag => ⟨h'.set b none, ?_, fun b' k' hw => ?_⟩⟩
        · apply agrS.of_get
          rw [H.get_set _ _, if_neg]
          rintro rfl
          exact hw ⟨⟨true, b', none⟩, by simp, rfl, rfl, .inl rfl⟩
        · have := hag ⟨false, b, none⟩ (by simp) (by show ¬ (n ≤ b ∧ b < n); omega)
          unfold agrE at this
          simp only [hB] at this
          unfold Ev.kill
          rw [if_pos hb, ← this]
          simp only [ho, if_true]
        · have hbb : b' = b := by
            rcases hw with ⟨e, he, hw, rfl, _⟩ | hw
            · simp at he
              rcases he with rfl | rfl <;> rfl
            · omega
          subst hbb
          apply agrS.of_get
          rw [H.get_set _ _, H.get_set _ _]
          simp
      · cases hr
    · cases hr
  · cases hr
theorem Loc.rdN (b : Nat) : ∀ (n k : Nat), Loc (Ev.rdN b k n) := by
  intro n
  induction n with
  | zero => intro k; exact Loc.ret _
  | succ n ih => intro k; exact Loc.bind (Loc.rd _ _) fun v => Loc.bind (ih _) fun vs => Loc.ret _
theorem Loc.wrN (b : Nat) : ∀ (vs : List Value) (k : Nat), Loc (Ev.wrN b k vs) := by
  intro vs
  induction vs with
  | nil => intro k; exact Loc.ret _
  | cons v vs ih => intro k; exact Loc.bind (Loc.wr _ _ _) fun _ => ih _
theorem wrote_filter {L : List En} {n n1 b k : Nat} (hi : ¬ (n ≤ b ∧ b < n1)) : wrote (L.filter fun e => !(n ≤ e.b && e.b < n1)) b k ↔ wrote L b k := by
  unfold wrote
  constructor
  · rintro ⟨e, he, hr⟩
    exact ⟨e, (List.mem_filter.1 he).1, hr⟩
  · rintro ⟨e, he, h1, h2, h3⟩
    refine ⟨e, List.mem_filter.2 ⟨he, ?_⟩, h1, h2, h3⟩
    rw [h2]
    simp
    omega
theorem LocAt.filter {α : Type} {m m' : M α} {h h1 : H} {n n1 : Nat} {r : α} {L : List En} (A : LocAt m h n r h1 n1 L)
    (hm : ∀ h' h1', m h' n = some ⟨r, h1', n1, L⟩ → m' h' n = some ⟨r, h1', n1, L.filter fun e => !(n ≤ e.b && e.b < n1)⟩) : LocAt m' h n r h1 n1 (L.filter fun e => !(n ≤ e.b && e.b < n1)) := by
  refine ⟨A.le, fun e he => A.lt e (List.mem_filter.1 he).1, fun b k hw hi => A.frame b k (fun x => hw ((wrote_filter hi).2 x)) hi, fun h' hag => ?_⟩
  obtain ⟨h1', r1, w1⟩ := A.det h' fun e he hi => hag e (List.mem_filter.2 ⟨he, by simp; omega⟩) hi
  refine ⟨h1', hm h' h1' r1, fun b k hw => w1 b k ?_⟩
  by_cases hi : n ≤ b ∧ b < n1
  · exact .inr hi
  · rcases hw with hw | hw
    · exact .inl ((wrote_filter hi).1 hw)
    · exact .inr hw
theorem Loc.inside {α : Type} {m : M α} (hm : Loc m) : Loc (Ev.inside m) := by
  intro h n r h1 n1 L hr
  unfold Ev.inside at hr
  split at hr
  · rename_i a h1' n1' L' e1
    simp only [Option.some.injEq, Out.mk.injEq] at hr
    obtain ⟨rfl, rfl, rfl, rfl⟩ := hr
    refine (hm h n a h1' n1' L' e1).filter fun h' h1'' e => ?_
    unfold Ev.inside
    rw [e]
  · cases hr
theorem Loc.timed {α : Type} {m : M α} (hm : Loc m) : Loc (Ev.timed m) := by
  intro h n r h1 n1 L hr
  unfold Ev.timed at hr
  split at hr
  · rename_i a h1' n1' L' e1
    simp only [Option.some.injEq, Out.mk.injEq] at hr
    obtain ⟨rfl, rfl, rfl, rfl⟩ := hr
    have A := hm h n a h1' n1' L' e1
    refine ⟨A.le, A.lt, A.frame, fun h' hag => ?_⟩
    obtain ⟨h2, r2, w2⟩ := A.det h' hag
    exact ⟨h2, by unfold Ev.timed; rw [r2], w2⟩
  · cases hr

theorem Loc.elemsOf (sz n : Nat) (x : Value) : Loc (Ev.elemsOf sz n x) := by
  unfold Ev.elemsOf
  repeat' (first | exact Loc.ret _ | exact Loc.fail | exact Loc.lift _ | exact Loc.rd _ _ | exact Loc.rdN _ _ _ | exact Loc.wrN _ _ _ | exact Loc.whole _ | exact Loc.kill _ | exact Loc.newB _ _ | refine Loc.bind ?_ fun _ => ?_ | split)
theorem Loc.evNew (e : TypeId) (l n : Nat) (old new : List Value) : Loc (Ev.evNew e l n old new) := by
  unfold Ev.evNew
  repeat' (first | exact Loc.ret _ | exact Loc.fail | exact Loc.lift _ | exact Loc.rdN _ _ _ | exact Loc.wrN _ _ _ | exact Loc.hdr _ | exact Loc.kill _ | exact Loc.newB _ _ | refine Loc.bind ?_ fun _ => ?_ | split)
theorem Loc.evAppendTo (e : TypeId) (n sz b off l cap : Nat) (new : List Value) : Loc (Ev.evAppendTo e n sz b off l cap new) := by
  unfold Ev.evAppendTo
  repeat' (first | exact Loc.ret _ | exact Loc.fail | exact Loc.lift _ | exact Loc.rdN _ _ _ | exact Loc.wrN _ _ _ | exact Loc.hdr _ | exact Loc.kill _ | exact Loc.newB _ _ | exact Loc.evNew _ _ _ _ _ | refine Loc.bind ?_ fun _ => ?_ | split)
theorem Loc.evAppend (P : Program) (t : TypeId) (s x : Value) : Loc (Ev.evAppend P t s x) := by
  unfold Ev.evAppend
  repeat' (first | exact Loc.ret _ | exact Loc.fail | exact Loc.lift _ | exact Loc.rdN _ _ _ | exact Loc.wrN _ _ _ | exact Loc.hdr _ | exact Loc.kill _ | exact Loc.newB _ _ | exact Loc.elemsOf _ _ _ | exact Loc.evNew _ _ _ _ _ | exact Loc.evAppendTo _ _ _ _ _ _ _ _ | refine Loc.bind ?_ fun _ => ?_ | split)
theorem Loc.evCopy (P : Program) (t : TypeId) (d s : Value) : Loc (Ev.evCopy P t d s) := by
  unfold Ev.evCopy
  repeat' (first | exact Loc.ret _ | exact Loc.fail | exact Loc.lift _ | exact Loc.wrN _ _ _ | exact Loc.elemsOf _ _ _ | refine Loc.bind ?_ fun _ => ?_ | split)
theorem Loc.evPlain (P : Program) (ρ : Operand → Value) (o : Oper) : Loc (Ev.evPlain P ρ o) := by
  unfold Ev.evPlain
  repeat' (first | exact Loc.ret _ | exact Loc.fail | exact Loc.lift _ | exact Loc.rd _ _ | exact Loc.rdN _ _ _ | exact Loc.wrN _ _ _ | exact Loc.whole _ | exact Loc.kill _ | exact Loc.newB _ _ | refine Loc.bind ?_ fun _ => ?_ | split)
theorem Loc.evCallOp (P : Program) (ρ : Operand → Value) (o : Oper) (c : Call) (args : Array Value) : Loc (Ev.evCallOp P ρ o c args) := by
  unfold Ev.evCallOp
  repeat' (first | exact Loc.ret _ | exact Loc.fail | exact Loc.lift _ | exact Loc.rd _ _ | exact Loc.rdN _ _ _ | exact Loc.wrN _ _ _ | exact Loc.whole _ | exact Loc.kill _ | exact Loc.newB _ _ | exact Loc.evAppend _ _ _ _ | exact Loc.evCopy _ _ _ _ | exact Loc.evPlain _ _ _ | refine Loc.bind ?_ fun _ => ?_ | split)
theorem Loc.evAlloc (P : Program) (e : TypeId) : Loc (Ev.evAlloc P e) := by
  unfold Ev.evAlloc
  repeat' (first | exact Loc.ret _ | exact Loc.fail | exact Loc.lift _ | exact Loc.rd _ _ | exact Loc.rdN _ _ _ | exact Loc.wrN _ _ _ | exact Loc.whole _ | exact Loc.kill _ | exact Loc.newB _ _ | refine Loc.bind ?_ fun _ => ?_ | split)
theorem Loc.evBox (P : Program) (e : TypeId) (v : Value) : Loc (Ev.evBox P e v) := by
  unfold Ev.evBox
  repeat' (first | exact Loc.ret _ | exact Loc.fail | exact Loc.lift _ | exact Loc.rd _ _ | exact Loc.rdN _ _ _ | exact Loc.wrN _ _ _ | exact Loc.whole _ | exact Loc.kill _ | exact Loc.newB _ _ | refine Loc.bind ?_ fun _ => ?_ | split)
theorem Loc.evBuild (P : Program) (t : TypeId) (l : List (Nat × Value)) : Loc (Ev.evBuild P t l) := by
  unfold Ev.evBuild
  repeat' (first | exact Loc.ret _ | exact Loc.fail | exact Loc.lift _ | exact Loc.rd _ _ | exact Loc.rdN _ _ _ | exact Loc.wrN _ _ _ | exact Loc.whole _ | exact Loc.kill _ | exact Loc.newB _ _ | refine Loc.bind ?_ fun _ => ?_ | split)
theorem Loc.evBuildSlice (P : Program) (t : TypeId) (n : Nat) (l : List (Nat × Value)) : Loc (Ev.evBuildSlice P t n l) := by
  unfold Ev.evBuildSlice
  repeat' (first | exact Loc.ret _ | exact Loc.fail | exact Loc.lift _ | exact Loc.rd _ _ | exact Loc.rdN _ _ _ | exact Loc.wrN _ _ _ | exact Loc.whole _ | exact Loc.kill _ | exact Loc.newB _ _ | refine Loc.bind ?_ fun _ => ?_ | split)
theorem Loc.evLoad (P : Program) (t : TypeId) (v : Value) : Loc (Ev.evLoad P t v) := by
  unfold Ev.evLoad
  repeat' (first | exact Loc.ret _ | exact Loc.fail | exact Loc.lift _ | exact Loc.rd _ _ | exact Loc.rdN _ _ _ | exact Loc.wrN _ _ _ | exact Loc.whole _ | exact Loc.kill _ | exact Loc.newB _ _ | refine Loc.bind ?_ fun _ => ?_ | split)
theorem Loc.evStore (P : Program) (t : TypeId) (a v : Value) : Loc (Ev.evStore P t a v) := by
  unfold Ev.evStore
  repeat' (first | exact Loc.ret _ | exact Loc.fail | exact Loc.lift _ | exact Loc.rd _ _ | exact Loc.rdN _ _ _ | exact Loc.wrN _ _ _ | exact Loc.whole _ | exact Loc.kill _ | exact Loc.newB _ _ | refine Loc.bind ?_ fun _ => ?_ | split)
theorem Loc.evNilCheck (v : Value) : Loc (Ev.evNilCheck v) := by
  unfold Ev.evNilCheck
  repeat' (first | exact Loc.ret _ | exact Loc.fail | exact Loc.lift _ | exact Loc.rd _ _ | exact Loc.rdN _ _ _ | exact Loc.wrN _ _ _ | exact Loc.whole _ | exact Loc.kill _ | exact Loc.newB _ _ | refine Loc.bind ?_ fun _ => ?_ | split)
theorem Loc.evToStr (v : Value) : Loc (Ev.evToStr v) := by
  unfold Ev.evToStr
  repeat' (first | exact Loc.ret _ | exact Loc.fail | exact Loc.lift _ | exact Loc.rd _ _ | exact Loc.rdN _ _ _ | exact Loc.wrN _ _ _ | exact Loc.whole _ | exact Loc.kill _ | exact Loc.newB _ _ | refine Loc.bind ?_ fun _ => ?_ | split)
theorem Loc.evToBytes (e : TypeId) (s : ByteArray) : Loc (Ev.evToBytes e s) := by
  unfold Ev.evToBytes
  repeat' (first | exact Loc.ret _ | exact Loc.fail | exact Loc.lift _ | exact Loc.rd _ _ | exact Loc.rdN _ _ _ | exact Loc.wrN _ _ _ | exact Loc.whole _ | exact Loc.kill _ | exact Loc.newB _ _ | refine Loc.bind ?_ fun _ => ?_ | split)
theorem Loc.evMakeSlice (P : Program) (t : TypeId) (l c : Value) : Loc (Ev.evMakeSlice P t l c) := by
  unfold Ev.evMakeSlice
  repeat' (first | exact Loc.ret _ | exact Loc.fail | exact Loc.lift _ | exact Loc.rd _ _ | exact Loc.rdN _ _ _ | exact Loc.wrN _ _ _ | exact Loc.whole _ | exact Loc.kill _ | exact Loc.newB _ _ | refine Loc.bind ?_ fun _ => ?_ | split)
theorem Loc.evSliceM (P : Program) (t : TypeId) (x : Value) (a b c : Option Value) : Loc (Ev.evSliceM P t x a b c) := by
  unfold Ev.evSliceM
  repeat' (first | exact Loc.fail | exact Loc.lift _ | exact Loc.hdr _ | refine Loc.bind ?_ fun _ => ?_ | split)
theorem Loc.evOp (P : Program) (ρ : Operand → Value) (o : Oper) : Loc (Ev.evOp P ρ o) := by
  unfold Ev.evOp
  repeat' (first | exact Loc.ret _ | exact Loc.fail | exact Loc.lift _ | exact Loc.rd _ _ | exact Loc.rdN _ _ _ | exact Loc.wrN _ _ _ | exact Loc.whole _ | exact Loc.kill _ | exact Loc.newB _ _ | exact Loc.evPlain _ _ _ | exact Loc.evSliceM _ _ _ _ _ _  | exact Loc.evCallOp _ _ _ _ _  | exact Loc.evAlloc _ _  | exact Loc.evBox _ _ _  | exact Loc.evBuild _ _ _  | exact Loc.evBuildSlice _ _ _ _  | exact Loc.evLoad _ _ _  | exact Loc.evStore _ _ _ _  | exact Loc.evNilCheck _  | exact Loc.evToStr _  | exact Loc.evToBytes _ _  | exact Loc.evMakeSlice _ _ _ _  | refine Loc.bind ?_ fun _ => ?_ | split)
section
variable {P : Program} {rec : FuncId → Array Value → M Value} {nt : Nat}
theorem Loc.evVal (hrec : ∀ f a, Loc (rec f a)) (ops : Array Oper) (o : Oper) (s : S) : Loc (Ev.evVal P rec ops o s) := by
  unfold Ev.evVal
  repeat' (first | exact Loc.ret _ | exact Loc.fail | exact Loc.lift _ | exact Loc.evOp _ _ _ | exact hrec _ _ | refine Loc.bind ?_ fun _ => ?_ | split)
theorem Loc.evOpers (hrec : ∀ f a, Loc (rec f a)) (ops : Array Oper) : ∀ (l : List Oper) (s : S), Loc (Ev.evOpers P rec nt ops l s) := by
  intro l
  induction l with
  | nil => intro s; exact Loc.ret _
  | cons o r ih => intro s; exact Loc.bind (Loc.timed (Loc.inside (Loc.evVal hrec _ _ _))) fun x => Loc.bind (Loc.lift _) fun s1 => Loc.bind (ih _) fun y => Loc.ret _
theorem Loc.evRegion (hrec : ∀ f a, Loc (rec f a)) (ops : Array Oper) (draw : Bool) (s : S) : Loc (Ev.evRegion P rec nt ops draw s) :=
  Loc.bind (Loc.evOpers hrec _ _ _) fun y => Loc.ite (Loc.ret _) Loc.fail
theorem Loc.evCode (hrec : ∀ f a, Loc (rec f a)) : ∀ (fuel : Nat) (c : Code) (s : S), Loc (Ev.evCode P rec nt fuel c s) := by
  intro fuel
  induction fuel with
  | zero => intro c s; exact Loc.fail
  | succ f ih =>
    intro c s
    cases c <;> unfold Ev.evCode <;> simp only
    all_goals repeat' (first | exact Loc.ret _ | exact Loc.fail | exact ih _ _ | exact Loc.evRegion hrec _ _ _ | refine Loc.bind ?_ fun _ => ?_ | split)
end
theorem Loc.evResults (P : Program) (s : S) : ∀ l, Loc (Ev.evResults P s l) := by
  intro l
  induction l with
  | nil => exact Loc.ret _
  | cons r l ih =>
    cases r <;> unfold Ev.evResults
    · exact Loc.bind ih fun _ => Loc.ret _
    · exact Loc.bind (Loc.evLoad _ _ _) fun _ => Loc.bind ih fun _ => Loc.ret _
theorem Loc.chkG (P : Program) : ∀ l, Loc (Ev.chkG P l) := by
  intro l
  induction l with
  | nil => exact Loc.ret _
  | cons g l ih =>
    unfold Ev.chkG
    refine Loc.bind (Loc.rd _ _) fun u => ?_
    split
    · exact ih
    · exact Loc.fail
theorem Loc.evNat (f : FuncId) (k : Nat) (args : List Value) : Loc (Ev.evNat f k args) := by
  unfold Ev.evNat
  split
  · unfold Ev.evNat1
    split
    · unfold Ev.evIdx
      refine Loc.bind (Loc.rdN _ _ _) fun vs => ?_
      unfold Ev.idxIn
      split
      · exact Loc.ret _
      · exact Loc.fail
    · exact Loc.fail
  · unfold Ev.evNat2
    split
    · unfold Ev.evRep
      split
      · exact Loc.ret _
      · exact Loc.fail
    · exact Loc.fail
  · unfold Ev.evNat3
    split
    · exact Loc.lift _
    · exact Loc.fail
  · unfold Ev.evNat4
    split
    · exact Loc.lift _
    · refine Loc.bind (Loc.rdN _ _ _) fun vs => ?_
      split
      · exact Loc.lift _
      · exact Loc.fail
    · exact Loc.fail
  · exact Loc.fail
theorem Loc.evCall (P : Program) (bad : List FuncId) : ∀ (fuel : Nat) (f : FuncId) (args : Array Value), Loc (Ev.evCall P bad fuel f args) := by
  intro fuel
  induction fuel with
  | zero => intro f a; exact Loc.fail
  | succ fuel ih =>
    intro f args
    unfold Ev.evCall
    repeat' (first | exact Loc.ret _ | exact Loc.fail | exact Loc.chkG _ _ | exact Loc.evNat _ _ _ | exact Loc.evCode ih _ _ _ | exact Loc.evResults _ _ _ | refine Loc.inside ?_ | refine Loc.bind ?_ fun _ => ?_ | split)

end Go.Proofs.YtmjolmggelkjlaaGreat.Ev

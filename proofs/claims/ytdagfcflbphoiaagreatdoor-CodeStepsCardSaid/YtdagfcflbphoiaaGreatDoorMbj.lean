import Derived.Test.YtdagfcflbphoiaaGreatDoorMbi
namespace Go.Proofs.YtdagfcflbphoiaaGreatDoor
set_option linter.unusedVariables false
set_option linter.unusedSimpArgs false
open Go.RowKit Ev Cn

theorem zbqn (t : List Bool) : ∀ (r o : Nat) (bs : List Bool), pickB r o bs ≠ .short → pickB r o (bs ++ t) = pickB r o bs
  | 0, _, _, _ => by simp only [pickB]
  | _ + 1, _, [], h => absurd (by simp only [pickB]) h
  | _ + 1, o, false :: _, _ => by simp only [List.cons_append, pickB]
  | r + 1, o, true :: bs, h => by
    simp only [List.cons_append, pickB] at h ⊢
    exact zbqn t r (o + 1) bs h
theorem zceg {s : Pk} {bs : List Bool} (t : List Bool) (h : stepP s bs ≠ .short) : stepP s (bs ++ t) = stepP s bs := by
  unfold stepP at h ⊢
  by_cases h0 : s.count = 0
  · rw [if_pos h0] at h ⊢
    rw [if_pos h0]
    by_cases hl : bs.length < 18
    · rw [if_pos hl] at h; exact absurd rfl h
    · rw [if_neg hl, if_neg (by rw [List.length_append]; omega), List.take_append_of_le_length (by omega)]
  · rw [if_neg h0] at h
    rw [if_neg h0, if_neg h0, zbqn t _ _ _ fun e => h (by rw [e])]
theorem zcdo {now : Nat} {lens : List Nat} {bs : List Bool} (t : List Bool) (h : stepD now lens bs ≠ .short) : stepD now lens (bs ++ t) = stepD now lens bs := by
  unfold stepD at h ⊢
  by_cases h0 : now = 0
  · rw [if_pos h0] at h ⊢
    rw [if_pos h0]
    by_cases hl : bs.length < 5
    · rw [if_pos hl] at h; exact absurd rfl h
    · rw [if_neg hl, if_neg (by rw [List.length_append]; omega), List.take_append_of_le_length (by omega)]
  · rw [if_neg h0] at h
    rw [if_neg h0, if_neg h0]
    match bs, h with
    | [], h => exact absurd rfl h
    | false :: _, _ => rfl
    | [true], h => exact absurd rfl h
    | true :: b :: _, _ => rfl
theorem zcas {c : Cd} {bs : List Bool} (t : List Bool) (h : stepT c bs ≠ .short) : stepT c (bs ++ t) = stepT c bs := by
  unfold stepT at h ⊢
  rw [zcdo t fun e => h (by rw [e])]
theorem zceu {ln : List Nat} {bs : List Bool} (t : List Bool) {s : Nat} (h : getC ln bs = some s) : getC ln (bs ++ t) = some s := by
  obtain ⟨m1, m2, m3⟩ := zbcc h
  exact zbhy ⟨m1, by rw [List.length_append]; omega, by rw [List.take_append_of_le_length m2]; exact m3⟩
theorem zcbj {c : Cd} {bs : List Bool} (t : List Bool) (h : stepS c bs ≠ .short) : stepS c (bs ++ t) = stepS c bs := by
  unfold stepS at h ⊢
  split
  · rfl
  · next h1 =>
    rw [if_neg h1] at h
    cases e : getC (c.codes.getD (c.took.getD (c.count / 50) 0) []) bs with
    | none => rw [e] at h; exact absurd rfl h
    | some s => rw [zceu t e]
theorem zbqx {c : Cd} {bs : List Bool} (t : List Bool) (h : stepC c bs ≠ .short) : stepC c (bs ++ t) = stepC c bs := by
  unfold stepC at h ⊢
  split
  · next h1 =>
    rw [if_pos h1] at h
    rw [zceg t fun e => h (by rw [e])]
  · next h1 =>
    rw [if_neg h1] at h
    split
    · next h2 =>
      rw [if_pos h2] at h
      rw [zcas t fun e => h (by rw [e])]
    · next h2 =>
      rw [if_neg h2] at h
      rw [zcbj t fun e => h (by rw [e])]
theorem zbui {c c' : Cd} {bs : List Bool} {sym : Int} {u : Nat} (k : COk c) (h : stepC c bs = .ok (sym, c') u) :
    (c.pk.fin = false ∧ sym = -1 ∧ ∃ s, stepP c.pk bs = .ok s u ∧ c' = pkNext c s) ∨ (c.pk.fin = true ∧ sym = -1 ∧ c'.pk = c.pk ∧ c'.count = c.count ∧ c'.size = c.size ∧ c'.done = false) ∨
    (c.pk.fin = true ∧ 0 ≤ sym ∧ c'.pk = c.pk ∧ c'.codes = c.codes ∧ c'.count = c.count + 1 ∧ c'.size = c.size ∧ ¬ c.codes.length < c.pk.t) := by
  unfold stepC at h
  split at h
  · next h1 =>
    cases e : stepP c.pk bs with
    | short => rw [e] at h; cases h
    | bad x => rw [e] at h; cases h
    | ok s w =>
      rw [e] at h
      simp only [St.ok.injEq, Prod.mk.injEq] at h
      obtain ⟨⟨rfl, rfl⟩, rfl⟩ := h
      exact .inl ⟨h1, rfl, s, rfl, rfl⟩
  · next h1 =>
    have fin : c.pk.fin = true := by simpa using h1
    split at h
    · next ht =>
      cases e : stepT c bs with
      | short => rw [e] at h; cases h
      | bad x => rw [e] at h; cases h
      | ok c2 w =>
        rw [e] at h
        simp only [St.ok.injEq, Prod.mk.injEq] at h
        obtain ⟨⟨rfl, rfl⟩, rfl⟩ := h
        have k2 := (zbkx k ht fin e).1
        unfold stepT at e
        split at e
        · cases e
        · cases e
        · split at e
          · split at e
            · simp only [St.ok.injEq] at e
              obtain ⟨rfl, _⟩ := e
              exact .inr (.inl ⟨fin, rfl, rfl, rfl, rfl, k.dn⟩)
            · cases e
          · simp only [St.ok.injEq] at e
            obtain ⟨rfl, _⟩ := e
            exact .inr (.inl ⟨fin, rfl, rfl, rfl, rfl, k.dn⟩)
    · next ht =>
      cases e : stepS c bs with
      | short => rw [e] at h; cases h
      | bad x => rw [e] at h; cases h
      | ok sc w =>
        obtain ⟨s, c2⟩ := sc
        rw [e] at h
        simp only [St.ok.injEq, Prod.mk.injEq] at h
        obtain ⟨⟨rfl, rfl⟩, rfl⟩ := h
        unfold stepS at e
        split at e
        · cases e
        · split at e
          · cases e
          · simp only [St.ok.injEq, Prod.mk.injEq] at e
            obtain ⟨⟨rfl, rfl⟩, _⟩ := e
            exact .inr (.inr ⟨fin, Int.natCast_nonneg _, rfl, rfl, rfl, rfl, ht⟩)
theorem zcfz {s : Pk} (q : s.fin = true) (M : Nat) (bs : List Bool) (a : Nat) : runP (M + 1) s bs a = .ok s a := by
  unfold runP
  rw [if_pos q]
theorem zcel {s s' : Pk} (q : s.fin = false) {bs : List Bool} {u : Nat} (h : stepP s bs = .ok s' u) (M a : Nat) : runP (M + 1) s bs a = runP M s' (bs.drop u) (a + u) := by
  rw [show runP (M + 1) s bs a = if s.fin = true then .ok s a else match stepP s bs with
    | .short => .short
    | .bad e => .bad e
    | .ok s' u => runP M s' (bs.drop u) (a + u) from rfl, if_neg (by rw [q]; decide), h]
structure Jn (size : Nat) (T : List Bool) (c : Cd) (A : Nat) (out : List Int) : Prop where
  ok : c.done = false → COk c
  run : ∃ N, (T.drop A).length < N ∧ runC N c (T.drop A) (T.length : Int) out A = ref14 size T (T.length : Int)
  ol : out.length ≤ A
  al : A ≤ T.length
  cnt : c.count = out.length
  sz : c.size = size
  p0 : c.pk.fin = false → ∃ N, (T.drop A).length < N ∧ runP N c.pk (T.drop A) A = runP (T.length + 1) pk0 T 0
  p1 : c.pk.fin = true → ∃ a, runP (T.length + 1) pk0 T 0 = .ok c.pk a
  fin : c.done = true → c.pk.fin = true ∧ c.codes.length = c.pk.t ∧ c.pk.t ≤ 6
theorem Jn.new {size : Nat} (h3 : 3 ≤ size) (h258 : size ≤ 258) (T : List Bool) : Jn size T (cd0 size) 0 [] where
  ok := fun _ => zbsd h3 h258
  run := ⟨T.length + 1, Nat.lt_succ_self _, zcit h3 h258 _ T⟩
  ol := Nat.le_refl _
  al := Nat.zero_le _
  cnt := rfl
  sz := rfl
  p0 := fun _ => ⟨T.length + 1, Nat.lt_succ_self _, rfl⟩
  p1 := fun e => absurd (show false = true from e) (by decide)
  fin := fun e => absurd (show false = true from e) (by decide)
section
variable {size : Nat} {T : List Bool} {c : Cd} {A : Nat} {out : List Int} (j : Jn size T c A out)
include j
theorem Jn.done (hd : c.done = true) : ref14 size T (T.length : Int) = .ok out A ∧ heldOf size T = ((c.pk.picks.length + c.size * c.codes.length : Nat) : Int) := by
  obtain ⟨N, hN, e⟩ := j.run
  obtain ⟨N, rfl⟩ : ∃ M, N = M + 1 := ⟨N - 1, by omega⟩
  unfold runC at e
  rw [if_pos hd] at e
  obtain ⟨f1, f2, _⟩ := j.fin hd
  obtain ⟨a, e2⟩ := j.p1 f1
  refine ⟨e.symm, ?_⟩
  unfold heldOf
  rw [e2, f2, j.sz, Nat.mul_comm size]
theorem Jn.short (hd : c.done = false) (h : stepC c (T.drop A) = .short) : ref14 size T (T.length : Int) = .err 3 := by
  obtain ⟨N, hN, e⟩ := j.run
  obtain ⟨N, rfl⟩ : ∃ M, N = M + 1 := ⟨N - 1, by omega⟩
  unfold runC at e
  rw [if_neg (by rw [hd]; decide), h] at e
  exact e.symm
theorem Jn.bad (hd : c.done = false) {x : Int} (h : stepC c (T.drop A) = .bad x) : ref14 size T (T.length : Int) = .err x := by
  obtain ⟨N, hN, e⟩ := j.run
  obtain ⟨N, rfl⟩ : ∃ M, N = M + 1 := ⟨N - 1, by omega⟩
  unfold runC at e
  rw [if_neg (by rw [hd]; decide), h] at e
  exact e.symm
theorem Jn.step (hd : c.done = false) {sym : Int} {c' : Cd} {u : Nat} (h : stepC c (T.drop A) = .ok (sym, c') u) : (sym = -1 ∧ Jn size T c' (A + u) out ∨ 0 ≤ sym ∧ Jn size T c' (A + u) (out ++ [sym])) ∧ 0 < u ∧ A + u ≤ T.length := by
  have k := j.ok hd
  have hl : (T.drop A).length = T.length - A := List.length_drop
  have hol := j.ol
  have hal := j.al
  obtain ⟨k1, k2, k3, k4⟩ := zblg k h
  obtain ⟨N, hN, e⟩ := j.run
  obtain ⟨N, rfl⟩ : ∃ M, N = M + 1 := ⟨N - 1, by omega⟩
  unfold runC at e
  rw [if_neg (by rw [hd]; decide), h] at e
  have dd : (T.drop A).drop u = T.drop (A + u) := List.drop_drop
  have hl2 : (T.drop (A + u)).length = T.length - (A + u) := List.length_drop
  simp only [dd] at e
  refine ⟨?_, k3, by omega⟩
  have run : ∀ o, runC N c' (T.drop (A + u)) (T.length : Int) o (A + u) = ref14 size T (T.length : Int) → ∃ N, (T.drop (A + u)).length < N ∧ runC N c' (T.drop (A + u)) (T.length : Int) o (A + u) = ref14 size T (T.length : Int) := fun o q => ⟨N, by omega, q⟩
  rcases zbui k h with ⟨f0, rfl, s, e1, rfl⟩ | ⟨f1, rfl, q1, q2, q3, q4⟩ | ⟨f1, q0, q1, q2, q3, q4, q5⟩
  · rw [if_pos rfl] at e
    obtain ⟨M, hM, e2⟩ := j.p0 f0
    obtain ⟨M, rfl⟩ : ∃ K, M = K + 1 := ⟨M - 1, by omega⟩
    rw [zcel f0 e1, dd] at e2
    refine .inl ⟨rfl, ⟨k1, run _ e, by omega, by omega, j.cnt, j.sz, fun _ => ⟨M, by omega, e2⟩, fun q => ?_, fun q => ?_⟩⟩
    · have q : s.fin = true := q
      obtain ⟨M, rfl⟩ : ∃ K, M = K + 1 := ⟨M - 1, by omega⟩
      rw [zcfz q] at e2
      exact ⟨_, e2.symm⟩
    · have q : c.done = true := q
      rw [hd] at q
      cases q
  · rw [if_pos rfl] at e
    refine .inl ⟨rfl, ⟨k1, run _ e, by omega, by omega, q2.trans j.cnt, q3.trans j.sz, fun q => ?_, fun q => ?_, fun q => ?_⟩⟩
    · rw [q1, f1] at q; cases q
    · rw [q1]; exact j.p1 f1
    · rw [q4] at q; cases q
  · rw [if_neg (by omega), if_neg (by omega)] at e
    refine .inr ⟨q0, ⟨k1, run _ e, by rw [List.length_append]; simp only [List.length_cons, List.length_nil]; omega, by omega, by rw [q3, j.cnt, List.length_append]; rfl, q4.trans j.sz, fun q => ?_, fun q => ?_, fun _ => ⟨by rw [q1]; exact f1, ?_, by rw [q1]; exact k.six⟩⟩⟩
    · rw [q1, f1] at q; cases q
    · rw [q1]; exact j.p1 f1
    · rw [q1, q2]
      have := k.cl
      omega
end
end Go.Proofs.YtdagfcflbphoiaaGreatDoor

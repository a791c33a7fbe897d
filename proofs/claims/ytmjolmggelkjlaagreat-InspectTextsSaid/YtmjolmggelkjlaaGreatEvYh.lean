/- Arguments opened: rows of numbers, rows of rows. No program in sight. -/
import Derived.Test.YtmjolmggelkjlaaGreatEvYg
namespace Go.Proofs.YtmjolmggelkjlaaGreat.Ev
set_option linter.unusedVariables false
set_option linter.unusedSimpArgs false
open Go Go.RowKit
section
variable {P : Program} {h : H} {n f : Nat} {t e : TypeId} {v : Value}
theorem rep_cells1 (hu : P.underlying t = some (.slice e)) (hce : cellTs P 8 e = some [e]) (x : RepH1 P h n (f + 1) t v) : ∃ cs, VRow h n e v cs ∧ cs.length ≤ maxLen ∧ ∀ c ∈ cs, RepH1 P h n f e c := by
  unfold RepH1 at x
  rw [hu] at x
  rcases x with ⟨a, rfl, hne⟩ | ⟨b, len, ts, cs, rfl, ht, h0, hg, hb, hl, hm, hall⟩
  · exact ⟨[], .inl ⟨a, 0, rfl, hne, rfl⟩, Nat.zero_le _, fun c hc => by cases hc⟩
  · rw [hce] at ht
    cases ht
    have hl : cs.length = len := by simpa using hl
    refine ⟨cs, .inr ⟨b, 0, CAP + len, false, cs, by rw [hl], hg, hb, by omega, by rw [List.drop_zero, List.take_length], by omega⟩, by omega, fun c hc => ?_⟩
    obtain ⟨i, hi, rfl⟩ := List.mem_iff_getElem.1 hc
    have q := hall i (by omega)
    have e1 : (cs.drop (i * [e].length)).take [e].length = [cs[i]] := by
      simp only [List.length_cons, List.length_nil, Nat.zero_add, Nat.mul_one]
      rw [List.drop_eq_getElem_cons hi, List.take_succ_cons, List.take_zero]
    rw [e1] at q
    exact q.1
theorem VRow.row {k : IntKind} {xs : List Int} (r : VRow h n e v (intsV k xs)) : Row h n e k v xs := by
  rcases r with ⟨a, c, rfl, hne, hx⟩ | ⟨b, off, cap, o, ks, hv, hg, hb, hl, ht, hc⟩
  · exact .inl ⟨a, c, rfl, hne, by unfold intsV at hx; simpa using hx⟩
  · rw [intsV_len] at hv hl ht hc
    exact .inr ⟨b, off, cap, o, ks, hv, hg, hb, hl, ht, hc⟩
theorem list_choose {α β : Type} {R : α → β → Prop} (da : α) (d : β) : ∀ {l : List α}, (∀ a ∈ l, ∃ b, R a b) → ∃ m : List β, m.length = l.length ∧ ∀ i, i < l.length → R (l.getD i da) (m.getD i d)
  | [], _ => ⟨[], rfl, fun i hi => absurd hi (Nat.not_lt_zero i)⟩
  | a :: l, hl => by
    obtain ⟨b, hb⟩ := hl a List.mem_cons_self
    obtain ⟨m, h1, h2⟩ := list_choose da d (l := l) fun x hx => hl x (List.mem_cons_of_mem _ hx)
    refine ⟨b :: m, by simp [h1], fun i hi => ?_⟩
    cases i with
    | zero => exact hb
    | succ i => exact h2 i (by simpa using hi)
theorem rep_row {k : IntKind} (hu : P.underlying t = some (.slice e)) (hce : cellTs P 8 e = some [e]) (he : P.underlying e = some (.int k)) (x : RepH1 P h n (f + 2) t v) : ∃ xs, Row h n e k v xs ∧ xs.length ≤ maxLen ∧ ∀ y ∈ xs, (Lit.int k y).wf = true := by
  obtain ⟨cs, r, hm, hc⟩ := rep_cells1 hu hce x
  obtain ⟨xs, hl, hx⟩ := list_choose (R := fun c (y : Int) => c = .int k y ∧ (Lit.int k y).wf = true) undef 0 fun c q => rep_int he (hc c q)
  have e1 : cs = intsV k xs := by
    apply List.ext_getElem
    · rw [intsV_len, hl]
    · intro i h1 h2
      have := (hx i h1).1
      rw [List.getD_eq_getElem?_getD, List.getElem?_eq_getElem h1] at this
      have h3 := intsV_at (k := k) (xs := xs) (i := i) (by omega)
      rw [List.getElem?_eq_getElem h2] at h3
      rw [Option.some.inj h3]
      exact this
  rw [e1] at r
  refine ⟨xs, r.row, by omega, fun y hy => ?_⟩
  obtain ⟨i, hi, rfl⟩ := List.mem_iff_getElem.1 hy
  have := (hx i (by omega)).2
  rw [List.getD_eq_getElem?_getD, List.getElem?_eq_getElem hi] at this
  exact this
theorem rep_rr {t2 : TypeId} (hu2 : P.underlying t2 = some (.slice t)) (hct : cellTs P 8 t = some [t]) (hu : P.underlying t = some (.slice e)) (hce : cellTs P 8 e = some [e]) (he : P.underlying e = some (.int .i64)) (x : RepH1 P h n (f + 3) t2 v) : ∃ xss, RR h n t e v xss ∧ xss.length ≤ maxLen ∧ ∀ xs ∈ xss, xs.length ≤ maxLen ∧ ∀ y ∈ xs, (Lit.int .i64 y).wf = true := by
  obtain ⟨cs, r, hm, hc⟩ := rep_cells1 hu2 hct x
  obtain ⟨xss, hl, hx⟩ := list_choose (R := fun c (xs : List Int) => Row h n e .i64 c xs ∧ xs.length ≤ maxLen ∧ ∀ y ∈ xs, (Lit.int .i64 y).wf = true) undef [] fun c q => rep_row hu hce he (hc c q)
  refine ⟨xss, ⟨cs, r, hl.symm, fun i hi => (hx i (by omega)).1⟩, by omega, fun xs hxs => ?_⟩
  obtain ⟨i, hi, rfl⟩ := List.mem_iff_getElem.1 hxs
  have := (hx i (by omega)).2
  rw [List.getD_eq_getElem?_getD, List.getElem?_eq_getElem hi] at this
  exact this
end
section
variable {β : Type} {W : Nat → Prop} {n0 : Nat} {h : H} {n m : Nat} {Q : β → H → Nat → Prop} {P : Program}
theorem rdN_run2 {b : Nat} {B : AB} (hg : h.get b = some B) (hb : b < n) : ∀ (c k : Nat), k + c ≤ B.cells.length → ∃ L, rdN b k c h n = some ⟨(B.cells.drop k).take c, h, n, L⟩ ∧ ∀ e ∈ L, e.wr = false ∧ e.b = b
  | 0, k, _ => ⟨[], by rw [List.take_zero]; rfl, by simp⟩
  | c + 1, k, hk => by
    obtain ⟨L, e, hL⟩ := rdN_run2 hg hb c (k + 1) (by omega)
    have hk2 : k < B.cells.length := by omega
    refine ⟨[⟨false, b, some k⟩] ++ (L ++ []), ?_, ?_⟩
    · unfold rdN
      have e0 : rd b k h n = some ⟨B.cells[k], h, n, [⟨false, b, some k⟩]⟩ := by
        unfold rd
        simp only [hb, hg, if_true, List.getElem?_eq_getElem hk2]
      refine bind_run e0 (bind_run e ?_)
      rw [List.drop_eq_getElem_cons hk2, List.take_succ_cons]
      rfl
    · intro x hx
      simp only [List.append_nil, List.mem_append, List.mem_cons, List.not_mem_nil, or_false] at hx
      rcases hx with rfl | hx
      · exact ⟨rfl, rfl⟩
      · exact hL x hx
theorem timed_ldaB {T T' : Prop} (_ : T) (_ : T') {sz : Nat} (b off : Nat) (k : Value × Tk → M β) {B : AB} (hg : h.get b = some B) (hb : b < n) (hl : off + sz ≤ B.cells.length) (x : ∀ T, (∀ m, b < m → m ≤ n → RB T m) → Run W n0 (k (.agg ((B.cells.drop off).take sz).toArray, T)) h n Q) :
    Run W n0 ((timed (klg sz (.pointer (some ⟨b, off, none⟩)) M.ret)).bind k) h n Q := by
  obtain ⟨L, e1, e2⟩ := rdN_run2 (n := n) hg hb sz off hl
  have e : ((rdN3 b off sz).bind fun vs => M.ret (Value.agg ⟨vs⟩)) h n = some ⟨.agg ((B.cells.drop off).take sz).toArray, h, n, L ++ []⟩ := by
    rw [rdN3_eq]
    exact bind_run e1 rfl
  have e3 := ins_ret e
  rw [List.append_nil] at e3
  have hf : ∀ y ∈ L.filter (fun e => !(decide (n ≤ e.b) && decide (e.b < n))), y.wr = false ∧ y.b = b := fun y hy => e2 y (List.mem_filter.1 hy).1
  exact timed_step e3 (Nat.le_refl _) (fun y hy hw => by rw [(hf y hy).1] at hw; cases hw) (x _ fun m hb hm => ⟨fun y hy => (hf y hy).1, fun y hy => by rw [(hf y hy).2]; exact hb, hm⟩)
/-- a store of one cell -/
theorem run_st {T : Prop} (_ : T) (b off : Nat) (v : Value) (k : Value → M β) {e : TypeId} {cs : List Value} (hg : h.get b = some ⟨e, true, cs⟩) (hb : b < n) (ho : off < cs.length) (h1 : one v = true) (hw : n0 ≤ b ∨ W b) (x : Run W n0 (k undef) (h.set b (some ⟨e, true, cs.set off v⟩)) n Q) : Run W n0 (kst (.pointer (some ⟨b, off, none⟩)) v k) h n Q :=
  (kst_iff b off v k hb h1).2 (by rw [hg]; exact ⟨rfl, ho, hw, x⟩)
/-- a slice that is made, told -/
theorem timed_make {e : TypeId} {z : Value} (l : Nat) (k : Value × Tk → M β) {kd kd' : IntKind} (hm : l ≤ 1099511627776) (x : Run W n0 (k (.slice (some ⟨n, 0, none⟩) l l, ⟨n, n + 1, []⟩)) (h.set n (some ⟨e, true, List.replicate l z⟩)) (n + 1) Q) : Run W n0 ((timed (kmk e [z] (.int kd l) (.int kd' l) M.ret)).bind k) h n Q := by
  have e1 : kmk e [z] (.int kd l) (.int kd' l) M.ret = insB ((newB3 e (catV [z] l)).bind fun id => M.ret (Value.slice (some ⟨id, 0, none⟩) l l)) M.ret := by
    show (match Nat.ble l l with
      | true => match Nat.ble l 1099511627776 with
        | true => insB ((newB3 e (catV [z] l)).bind fun id => M.ret (Value.slice (some ⟨id, 0, none⟩) l l)) M.ret
        | false => .fail
      | false => .fail) = _
    rw [Nat.ble_eq_true_of_le (Nat.le_refl l), Nat.ble_eq_true_of_le hm]
  rw [e1, catV_one]
  exact timed_step (ins_ret (newK _ _ (fun id => Value.slice (some ⟨id, 0, none⟩) l l) _ _)) (Nat.le_succ n) (by simp) x
/-- a call that is told, and writes nothing that was there -/
theorem timed_callB' (hd : okDsts P = true) {gt : Nat → Hint} {lf d : Nat} {f : FuncId} {vs : List Value} {Q' : Value → H → Nat → Prop} (s : Run (fun _ => False) n (evCall2 P gt lf d f ⟨vs⟩) h n Q') (hn : n0 ≤ n) {k : Value × Tk → M β}
    (x : ∀ v h1 n1 T, n ≤ n1 → (∀ b, b < n → h1.get b = h.get b) → Q' v h1 n1 → Run W n0 (k (v, T)) h1 n1 Q) : Run W n0 ((timed (kcl (evCall2 P gt lf d) f vs M.ret)).bind k) h n Q :=
  timed_callB hd s hn fun v h1 n1 T a b c _ => x v h1 n1 T a b c
end
end Go.Proofs.YtmjolmggelkjlaaGreat.Ev

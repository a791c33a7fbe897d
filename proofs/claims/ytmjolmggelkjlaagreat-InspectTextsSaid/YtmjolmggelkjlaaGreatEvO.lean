/- The second form's regions yield what the first one's do. No program in sight. -/
import Derived.Test.YtmjolmggelkjlaaGreatEvN
namespace Go.Proofs.YtmjolmggelkjlaaGreat.Ev
set_option linter.unusedVariables false
set_option linter.unusedSimpArgs false
open Go

structure TkOk (o : Oper) (t : Tk) : Prop where
  le : t.n ≤ t.n1
  lt : ∀ e ∈ t.log, e.b < t.n1
  k0 : kind o.op = 0 → t.log = [] ∧ t.n1 = t.n
  k1 : kind o.op = 1 → t.n1 = t.n ∧ ∀ e ∈ t.log, e.wr = false
  k2 : kind o.op = 2 → t.log = []
inductive TksOk : Nat → List Oper → List Tk → Nat → Prop
  | nil (n : Nat) : TksOk n [] [] n
  | cons {n m : Nat} {o : Oper} {t : Tk} {r : List Oper} {ts : List Tk} (h : TkOk o t) (e : t.n = n) (x : TksOk t.n1 r ts m) : TksOk n (o :: r) (t :: ts) m
theorem TksOk.le {n m : Nat} {l : List Oper} {ts : List Tk} (x : TksOk n l ts m) : n ≤ m := by
  induction x with
  | nil n => exact Nat.le_refl _
  | cons h e x ih => have := h.le; omega
theorem any_false {α : Type} {l : List α} {p : α → Bool} (h : ∀ x ∈ l, p x = false) : l.any p = false := by
  rw [List.any_eq_false]
  intro x hx
  rw [h x hx]
  exact Bool.false_ne_true
theorem fits_clash {a b : Oper} {ta tb : Tk} (xa : TkOk a ta) (xb : TkOk b tb) (hle : ta.n1 ≤ tb.n) (hf : fits (kind a.op) (kind b.op) = true) : ta.clash tb = false := by
  have ale := xa.le
  have ble := xb.le
  unfold fits at hf
  simp only [Bool.or_eq_true, beq_iff_eq, Bool.and_eq_true] at hf
  unfold Tk.clash
  rcases hf with (((hf | hf) | hf) | hf) | hf
  · obtain ⟨h1, h2⟩ := xa.k0 hf
    rw [h1]
    simp only [List.any_nil, Bool.and_false, Bool.false_or, Bool.or_false, Bool.or_eq_false_iff]
    refine ⟨any_false fun x _ => rfl, any_false fun x hx => ?_⟩
    simp; omega
  · obtain ⟨h1, h2⟩ := xb.k0 hf
    rw [h1]
    simp only [List.any_nil, Bool.and_false, Bool.or_eq_false_iff, Bool.false_or, Bool.or_false]
    refine ⟨any_false fun x _ => rfl, any_false fun x hx => ?_⟩
    simp; omega
  · obtain ⟨h1, h2⟩ := xa.k1 hf.1
    obtain ⟨h3, h4⟩ := xb.k1 hf.2
    simp only [Bool.or_eq_false_iff]
    refine ⟨⟨⟨any_false fun x hx => by rw [h2 x hx]; rfl, any_false fun x hx => by rw [h4 x hx]; rfl⟩, any_false fun x hx => ?_⟩, any_false fun x hx => ?_⟩
    · simp; omega
    · simp; omega
  · rw [xa.k2 hf.1, xb.k2 hf.2]; rfl
  · obtain ⟨h1, h2⟩ := xa.k1 hf.1
    have h3 := xb.k2 hf.2
    rw [h3]
    simp only [List.any_nil, Bool.and_false, Bool.or_eq_false_iff, Bool.or_false]
    refine ⟨any_false fun x _ => rfl, any_false fun x hx => ?_⟩
    have := xa.lt x hx
    simp; omega
theorem evVal_wanted {P : Program} {rec : FuncId → Array Value → M Value} {ops : Array Oper} {o : Oper} {s : S} (h : Region.wanted o (yields ops s) = true) : evVal P rec ops o s = (evOp P (ev s) o).bind (contR rec) := by
  unfold evVal
  rw [if_pos h]
  rfl
theorem val_kind {P : Program} {rec : FuncId → Array Value → M Value} {ops : Array Oper} {o : Oper} {s : S} : QK (kind o.op) (evVal P rec ops o s) := by
  by_cases h : Region.wanted o (yields ops s) = true
  · rw [evVal_wanted h]; exact op_kind _ _ _ _
  · unfold evVal; rw [if_neg h]; exact QK.of0 (Q0.ret _) _
theorem filter_nil {α : Type} {L : List α} {p : α → Bool} (h : L = []) : L.filter p = [] := by rw [h]; rfl
theorem timed_inv {α : Type} {m : M α} {h h1 : H} {n n1 : Nat} {x : α × Tk} {L : List En} (hr : timed m h n = some ⟨x, h1, n1, L⟩) : m h n = some ⟨x.1, h1, n1, L⟩ ∧ x.2 = ⟨n, n1, L⟩ := by
  unfold timed at hr
  split at hr
  · rename_i a h' n' L' e
    simp only [Option.some.injEq, Out.mk.injEq] at hr
    obtain ⟨rfl, rfl, rfl, rfl⟩ := hr
    exact ⟨e, rfl⟩
  · cases hr
theorem timed_run {α : Type} {m : M α} {h h1 : H} {n n1 : Nat} {a : α} {L : List En} (e : m h n = some ⟨a, h1, n1, L⟩) : timed m h n = some ⟨(a, ⟨n, n1, L⟩), h1, n1, L⟩ := by
  unfold timed
  rw [e]
theorem opers_tks {P : Program} {rec : FuncId → Array Value → M Value} (hrl : ∀ f a, Loc (rec f a)) {nt : Nat} {ops : Array Oper} : ∀ (l : List Oper) (s : S) (h h1 : H) (n n1 : Nat) (y : S × List Tk) (L : List En), evOpers P rec nt ops l s h n = some ⟨y, h1, n1, L⟩ → TksOk n l y.2 n1 := by
  intro l
  induction l with
  | nil =>
    intro s h h1 n n1 y L hr
    obtain ⟨rfl, rfl, rfl⟩ := ret_some hr
    exact .nil _
  | cons o l ih =>
    intro s h h1 n n1 y L hr
    unfold evOpers at hr
    obtain ⟨x, h2, n2, L1, L2, e1, e2, _⟩ := bind_some hr
    obtain ⟨s2, h3, n3, L3, L4, e3, e4, _⟩ := bind_some e2
    obtain ⟨z, h5, n5, L5, L6, e5, e6, _⟩ := bind_some e4
    obtain ⟨rfl, rfl, rfl⟩ := ret_some e6
    obtain ⟨_, rfl, rfl⟩ := lift_some e3
    obtain ⟨g1, g2⟩ := timed_inv e1
    obtain ⟨L', g3, rfl⟩ := inside_inv g1
    have A := Loc.inside (Loc.evVal hrl ops o s) h n _ _ _ _ g1
    have K := val_kind (P := P) (rec := rec) (ops := ops) (o := o) (s := s)
    refine .cons ⟨?_, ?_, fun hk => ?_, fun hk => ?_, fun hk => ?_⟩ ?_ ?_
    · rw [g2]; exact A.le
    · rw [g2]; exact A.lt
    · obtain ⟨q1, q2⟩ := K.1 hk _ _ _ _ _ _ g3
      rw [g2]
      exact ⟨filter_nil q1, q2⟩
    · obtain ⟨q1, q2⟩ := K.2.1 hk _ _ _ _ _ _ g3
      rw [g2]
      exact ⟨q1, fun e he => q2 e (List.mem_filter.1 he).1⟩
    · rw [g2]
      exact filter_nil (K.2.2 hk _ _ _ _ _ _ g3)
    · rw [g2]
    · rw [g2]
      exact ih _ _ _ _ _ _ _ e5
theorem tks_at {n m : Nat} {l : List Oper} {ts : List Tk} (x : TksOk n l ts m) : ∀ (i : Nat) (ti : Tk), ts[i]? = some ti → ∃ oi : Oper, l[i]? = some oi ∧ TkOk oi ti ∧ n ≤ ti.n := by
  induction x with
  | nil n => intro i ti hi; simp at hi
  | cons h e x ih =>
    intro i ti hi
    cases i with
    | zero => simp at hi; subst hi; exact ⟨_, rfl, h, by omega⟩
    | succ i =>
      obtain ⟨oi, g1, g2, g3⟩ := ih i ti (by simpa using hi)
      exact ⟨oi, by simpa using g1, g2, by have := h.le; omega⟩
/-- one operation against all later ones, by the words that the check needs -/
theorem pairs_of {ops : Array Oper} {bef : List Nat} : ∀ (l : List Oper) (ts : List Tk) (n m j : Nat), TksOk n l ts m → (∀ i o, l[i]? = some o → ops.getD (j + i) default = o) →
    (∀ p q op oq tp tq, p < q → l[p]? = some op → l[q]? = some oq → ts[p]? = some tp → ts[q]? = some tq → (bef.getD (j + q) 0).testBit (j + p) = true ∨ ((fits (kind op.op) (kind oq.op) = true ∨ tp.clash tq = false) ∧ slotClash ops op oq = false)) → pairsOk ops bef (tagged j ts) = true := by
  intro l
  induction l with
  | nil =>
    intro ts n m j x _ _
    cases x
    rfl
  | cons o l ih =>
    intro ts n m j x hg hp
    cases x with
    | @cons _ _ _ t _ ts h e x =>
      unfold tagged pairsOk
      simp only [Bool.and_eq_true, List.all_eq_true]
      refine ⟨?_, ih ts _ m (j + 1) x (fun i o' hi => by have := hg (i + 1) o' (by simpa using hi); rw [show j + 1 + i = j + (i + 1) by omega]; exact this) (fun p q op oq tp tq hpq h1 h2 h3 h4 => by
        have := hp (p + 1) (q + 1) op oq tp tq (by omega) (by simpa using h1) (by simpa using h2) (by simpa using h3) (by simpa using h4)
        rw [show j + 1 + q = j + (q + 1) by omega, show j + 1 + p = j + (p + 1) by omega]
        exact this)⟩
      intro z hz
      obtain ⟨i, hi⟩ := List.mem_iff_getElem?.1 hz
      rw [tagged_at] at hi
      cases hti : ts[i]? with
      | none => rw [hti] at hi; cases hi
      | some ti =>
        rw [hti] at hi
        simp only [Option.map_some, Option.some.injEq] at hi
        subst hi
        obtain ⟨oi, g1, g2, g3⟩ := tks_at x i ti hti
        have e1 := hg 0 o rfl
        have e2 := hg (i + 1) oi (by simpa using g1)
        have hq := hp 0 (i + 1) o oi t ti (by omega) rfl (by simpa using g1) rfl (by simpa using hti)
        rw [Nat.add_zero] at e1 hq
        simp only [show j + 1 + i = j + (i + 1) by omega, e1, e2, Bool.or_eq_true, Bool.and_eq_true, Bool.not_eq_true']
        rcases hq with hq | ⟨hq, hs⟩
        · exact .inl hq
        · refine .inr ⟨?_, hs⟩
          rcases hq with hq | hq
          · exact fits_clash h g2 g3 hq
          · exact hq
theorem safeAll_at {ops : Array Oper} {bef : List Nat} {j : Nat} {oj : Oper} : ∀ (l : List Oper) (k : Nat), safeAll ops bef j oj k l = true → ∀ i o, l[i]? = some o → (bef.getD (k + i) 0).testBit j = true ∨ (fits (kind oj.op) (kind o.op) = true ∧ slotClash ops oj o = false) := by
  intro l
  induction l with
  | nil => intro k _ i o h; simp at h
  | cons o l ih =>
    intro k h i o' hi
    unfold safeAll at h
    simp only [Bool.and_eq_true, Bool.or_eq_true, Bool.not_eq_true'] at h
    cases i with
    | zero => simp at hi; subst hi; exact h.1
    | succ i =>
      rw [show k + (i + 1) = k + 1 + i by omega]
      exact ih (k + 1) h.2 i o' (by simpa using hi)
theorem safePairs_at {ops : Array Oper} {bef : List Nat} : ∀ (l : List Oper) (j : Nat), safePairs ops bef j l = true → ∀ p q op oq, p < q → l[p]? = some op → l[q]? = some oq → (bef.getD (j + q) 0).testBit (j + p) = true ∨ (fits (kind op.op) (kind oq.op) = true ∧ slotClash ops op oq = false) := by
  intro l
  induction l with
  | nil => intro k _ p q op oq _ h; simp at h
  | cons o l ih =>
    intro j h p q op oq hpq h1 h2
    unfold safePairs at h
    simp only [Bool.and_eq_true] at h
    cases q with
    | zero => omega
    | succ q =>
      cases p with
      | zero =>
        simp at h1; subst h1
        have := safeAll_at l (j + 1) h.1 q oq (by simpa using h2)
        rw [show j + (q + 1) = j + 1 + q by omega, Nat.add_zero]
        exact this
      | succ p =>
        have := ih (j + 1) h.2 p q op oq (by omega) (by simpa using h1) (by simpa using h2)
        rw [show j + (q + 1) = j + 1 + q by omega, show j + (p + 1) = j + 1 + p by omega]
        exact this
theorem getD_of_list (ops : Array Oper) (i : Nat) (o : Oper) (h : ops.toList[i]? = some o) : ops.getD (0 + i) default = o := by
  rw [Nat.zero_add]
  rw [Array.getElem?_toList] at h
  simp [Array.getD_eq_getD_getElem?, h]
theorem static_pairs {ops : Array Oper} {ts : List Tk} {n m : Nat} (x : TksOk n ops.toList ts m) (h : staticOk ops = true) : edgesOk ops = true ∧ pairsOk ops (befores ops.toList []) (tagged 0 ts) = true := by
  unfold staticOk at h
  simp only [Bool.and_eq_true] at h
  refine ⟨h.1, pairs_of ops.toList ts n m 0 x (getD_of_list ops) fun p q op oq tp tq hpq h1 h2 h3 h4 => ?_⟩
  rcases safePairs_at ops.toList 0 h.2 p q op oq hpq h1 h2 with g | g
  · exact .inl g
  · exact .inr ⟨.inl g.1, g.2⟩

end Go.Proofs.YtmjolmggelkjlaaGreat.Ev

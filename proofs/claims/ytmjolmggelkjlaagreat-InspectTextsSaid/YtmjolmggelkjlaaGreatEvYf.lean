/- Loops by their steps; rows of rows of numbers. No program in sight. -/
import Derived.Test.YtmjolmggelkjlaaGreatEvYe
namespace Go.Proofs.YtmjolmggelkjlaaGreat.Ev
set_option linter.unusedVariables false
set_option linter.unusedSimpArgs false
open Go Go.RowKit
theorem run_for {β σ : Type} {W : Nat → Prop} {n0 : Nat} {Q : β → H → Nat → Prop} (N : Nat) (lp : Nat → Nat → σ → M β) (I : Nat → σ → H → Nat → Prop)
    (last : ∀ fu s h n, I N s h n → Run W n0 (lp (fu + 1) N s) h n Q)
    (step : ∀ fu i s h n, i < N → I i s h n → (∀ s' h' n', I (i + 1) s' h' n' → Run W n0 (lp fu (i + 1) s') h' n' Q) → Run W n0 (lp (fu + 1) i s) h n Q) :
    ∀ (fu i : Nat) (s : σ) (h : H) (n : Nat), i ≤ N → N - i < fu → I i s h n → Run W n0 (lp fu i s) h n Q := by
  have key : ∀ (m fu i : Nat) (s : σ) (h : H) (n : Nat), N - i = m → i ≤ N → N - i < fu → I i s h n → Run W n0 (lp fu i s) h n Q := by
    intro m
    induction m with
    | zero =>
      intro fu i s h n hm hi hf x
      obtain ⟨fu, rfl⟩ : ∃ f, fu = f + 1 := ⟨fu - 1, by omega⟩
      obtain rfl : i = N := by omega
      exact last fu s h n x
    | succ m ih =>
      intro fu i s h n hm hi hf x
      obtain ⟨fu, rfl⟩ : ∃ f, fu = f + 1 := ⟨fu - 1, by omega⟩
      exact step fu i s h n (by omega) x fun s' h' n' y => ih fu (i + 1) s' h' n' (by omega) (by omega) (by omega) y
  exact fun fu i s h n => key _ fu i s h n rfl

/-! rows of values -/
def VRow (h : H) (n : Nat) (e : TypeId) (v : Value) (cs : List Value) : Prop :=
  (∃ a c, v = .slice a 0 c ∧ (∀ b o, a ≠ some ⟨b, o, none⟩) ∧ cs = []) ∨ ∃ b off cap o ks, v = .slice (some ⟨b, off, none⟩) cs.length cap ∧ h.get b = some ⟨e, o, ks⟩ ∧ b < n ∧ off + cs.length ≤ ks.length ∧ (ks.drop off).take cs.length = cs ∧ cs.length ≤ cap
section
variable {h h' : H} {n n' lo hi : Nat} {e e' es ei : TypeId} {v v' : Value} {cs cs' : List Value} {xss : List (List Int)}
theorem VRow.keep (r : VRow h n e v cs) (hn : n ≤ n') (hk : ∀ b, InBlk v b → h'.get b = h.get b) : VRow h' n' e v cs := by
  rcases r with q | ⟨b, off, cap, o, ks, hv, hg, hb, r⟩
  · exact .inl q
  · exact .inr ⟨b, off, cap, o, ks, hv, (hk b ⟨_, _, _, hv⟩).trans hg, by omega, r⟩
theorem VRow.len (r : VRow h n e v cs) : ∃ a c, v = .slice a cs.length c := by
  rcases r with ⟨a, c, rfl, _, rfl⟩ | ⟨b, off, cap, o, ks, rfl, _⟩
  · exact ⟨a, c, rfl⟩
  · exact ⟨_, cap, rfl⟩
theorem VRow.some (r : VRow h n e v cs) (h0 : 0 < cs.length) : ∃ b off cap o ks, v = .slice (some ⟨b, off, none⟩) cs.length cap ∧ h.get b = some ⟨e, o, ks⟩ ∧ b < n ∧ ∀ i, i < cs.length → ks[off + i]? = some (cs.getD i undef) := by
  rcases r with ⟨a, c, _, _, rfl⟩ | ⟨b, off, cap, o, ks, hv, hg, hb, hl, ht, hc⟩
  · simp at h0
  · refine ⟨b, off, cap, o, ks, hv, hg, hb, fun i hi => ?_⟩
    have := congrArg (fun z => z[i]?) ht
    simp only [List.getElem?_take, hi, if_true, List.getElem?_drop] at this
    rw [this, List.getD_eq_getElem?_getD, List.getElem?_eq_getElem hi]
    rfl
theorem VRow.lt (r : VRow h n e v cs) {b : Nat} (hb : InBlk v b) : b < n := by
  rcases r with ⟨a, c, rfl, hne, _⟩ | ⟨c, off, cap, o, ks, rfl, hg, hbn, _⟩
  · obtain ⟨o, l, k, q⟩ := hb
    cases q
    exact absurd rfl (hne b o)
  · rw [hb.inj]; exact hbn
theorem Own.vrow (o : Own h lo n e v cs) : VRow h n e v cs := by
  rcases o with ⟨rfl, rfl⟩ | ⟨b, rfl, hg, _, hb⟩
  · exact .inl ⟨none, 0, rfl, fun _ _ q => (nomatch q), rfl⟩
  · exact .inr ⟨b, 0, CAP + cs.length, true, _, rfl, hg, hb, by omega, by rw [List.drop_zero, List.take_length], by omega⟩
theorem Own.elem (o : Own h lo n e v cs) {b : Nat} (hb : InBlk v b) : ∃ B, h.get b = Option.some B ∧ B.elem = e := by
  rcases o with ⟨rfl, _⟩ | ⟨c, rfl, hc, _⟩
  · exact hb.not_nil.elim
  · rw [hb.inj]; exact ⟨_, hc, rfl⟩
theorem Row.elem {k : IntKind} {xs : List Int} (r : Row h n e k v xs) {b : Nat} (hb : InBlk v b) : ∃ B, h.get b = Option.some B ∧ B.elem = e := by
  rcases r with ⟨a, c, rfl, hne, _⟩ | ⟨c, off, cap, o, ks, rfl, hg, _⟩
  · obtain ⟨o, l, k, q⟩ := hb
    cases q
    exact absurd rfl (hne b o)
  · rw [hb.inj]; exact ⟨_, hg, rfl⟩
theorem Own.apart (o : Own h lo n e v cs) {lo' : Nat} (o' : Own h lo' n e' v' cs') (hne : e ≠ e') {b : Nat} (hb : InBlk v b) : ¬ InBlk v' b := fun hb' => by
  obtain ⟨B, h1, h2⟩ := o.elem hb
  obtain ⟨B', h3, h4⟩ := o'.elem hb'
  rw [h1] at h3; cases h3
  exact hne (h2.symm.trans h4)
theorem Row.apart {k : IntKind} {xs : List Int} (o : Row h n e k v xs) {lo' : Nat} (o' : Own h lo' n e' v' cs') (hne : e ≠ e') {b : Nat} (hb : InBlk v b) : ¬ InBlk v' b := fun hb' => by
  obtain ⟨B, h1, h2⟩ := o.elem hb
  obtain ⟨B', h3, h4⟩ := o'.elem hb'
  rw [h1] at h3; cases h3
  exact hne (h2.symm.trans h4)

/-! rows of rows -/
def RR (h : H) (n : Nat) (es ei : TypeId) (v : Value) (xss : List (List Int)) : Prop := ∃ cs, VRow h n es v cs ∧ cs.length = xss.length ∧ ∀ i, i < xss.length → Row h n ei .i64 (cs.getD i undef) (xss.getD i [])
theorem RR.len (r : RR h n es ei v xss) : ∃ a c, v = .slice a xss.length c := by
  obtain ⟨cs, r, hl, _⟩ := r
  rw [← hl]; exact r.len
theorem RR.keep (r : RR h n es ei v xss) (hn : n ≤ n') (hk : ∀ b, b < n → h'.get b = h.get b) : RR h' n' es ei v xss := by
  obtain ⟨cs, r, hl, hr⟩ := r
  exact ⟨cs, r.keep hn fun b hb => hk b (r.lt hb), hl, fun i hi => (hr i hi).keep hn hk⟩
theorem RR.at (r : RR h n es ei v xss) (h0 : 0 < xss.length) : ∃ b off cap o ks, v = .slice (some ⟨b, off, none⟩) xss.length cap ∧ h.get b = some ⟨es, o, ks⟩ ∧ b < n ∧ ∀ i, i < xss.length → ∃ x, ks[off + i]? = some x ∧ Row h n ei .i64 x (xss.getD i []) := by
  obtain ⟨cs, r, hl, hr⟩ := r
  obtain ⟨b, off, cap, o, ks, hv, hg, hb, ha⟩ := r.some (by omega)
  exact ⟨b, off, cap, o, ks, by rw [hv, hl], hg, hb, fun i hi => ⟨_, ha i (by omega), hr i hi⟩⟩
/-- a row of rows of one's own that grows: the rows in it lie in blocks below hi -/
def OwnRR (h : H) (lo hi n : Nat) (es ei : TypeId) (v : Value) (xss : List (List Int)) : Prop := ∃ cs, Own h lo n es v cs ∧ cs.length = xss.length ∧ ∀ i, i < xss.length → Row h n ei .i64 (cs.getD i undef) (xss.getD i []) ∧ ∀ b, InBlk (cs.getD i undef) b → b < hi
theorem OwnRR.nil (h : H) (lo hi n : Nat) (es ei : TypeId) : OwnRR h lo hi n es ei (.slice none 0 0) [] := ⟨[], Own.nil _ _ _ _, rfl, fun i hi => absurd hi (by simp)⟩
theorem OwnRR.rr (o : OwnRR h lo hi n es ei v xss) : RR h n es ei v xss := by
  obtain ⟨cs, o, hl, hr⟩ := o
  exact ⟨cs, o.vrow, hl, fun i hi => (hr i hi).1⟩
theorem OwnRR.lt (o : OwnRR h lo hi n es ei v xss) {b : Nat} (hb : InBlk v b) : lo ≤ b ∧ b < n := by
  obtain ⟨cs, o, _⟩ := o
  exact o.lt hb
theorem OwnRR.elem (o : OwnRR h lo hi n es ei v xss) {b : Nat} (hb : InBlk v b) : ∃ B, h.get b = Option.some B ∧ B.elem = es := by
  obtain ⟨cs, o, _⟩ := o
  exact o.elem hb
theorem OwnRR.keep (o : OwnRR h lo hi n es ei v xss) (hn : n ≤ n') (hk : ∀ b, b < n → (b < hi ∨ InBlk v b) → h'.get b = h.get b) : OwnRR h' lo hi n' es ei v xss := by
  obtain ⟨cs, o, hl, hr⟩ := o
  exact ⟨cs, o.keep hn fun b hb => hk b (o.lt hb).2 (.inr hb), hl, fun i hi => ⟨(hr i hi).1.keep' hn fun b hb => hk b ((hr i hi).1.lt hb) (.inl ((hr i hi).2 b hb)), (hr i hi).2⟩⟩
theorem OwnRR.up (o : OwnRR h lo hi n es ei v xss) {hi' : Nat} (hh : hi ≤ hi') : OwnRR h lo hi' n es ei v xss := by
  obtain ⟨cs, o, hl, hr⟩ := o
  exact ⟨cs, o, hl, fun i hi => ⟨(hr i hi).1, fun b hb => Nat.lt_of_lt_of_le ((hr i hi).2 b hb) hh⟩⟩
theorem getD_app1 {α : Type} (d : α) (l : List α) (x : α) (i : Nat) : (l ++ [x]).getD i d = if i < l.length then l.getD i d else if i = l.length then x else d := by
  rw [List.getD_eq_getElem?_getD, List.getD_eq_getElem?_getD]
  split
  · rename_i h; rw [List.getElem?_append_left h]
  · rename_i h
    split
    · rename_i h2; subst h2; simp
    · rw [List.getElem?_eq_none (by simp; omega)]; rfl
theorem run_pushRR {β : Type} {W : Nat → Prop} {n0 : Nat} {Q : β → H → Nat → Prop} {T : Prop} (c : T) (hne : ei ≠ es) (o : OwnRR h lo hi n es ei v xss) {x : Value} {xs : List Int} (r : Row h n ei .i64 x xs) (hh : hi ≤ n) (hm : xss.length + 1 ≤ 1099511627776) (hlo : n0 ≤ lo) (hln : lo ≤ n) (k : Value → M β)
    (y : ∀ v' h', OwnRR h' lo n (n + 2) es ei v' (xss ++ [xs]) → (∀ b, b < n → ¬ InBlk v b → h'.get b = h.get b) → (∀ b, InBlk v' b → n ≤ b) → Run W n0 (k v') h' (n + 2) Q) : Run W n0 (kb1 es 1 x fun w => kap es 1 v w k) h n Q := by
  obtain ⟨cs, o, hl, hr⟩ := o
  have hx : one x = true := by obtain ⟨a, c, rfl⟩ := r.len; rfl
  refine run_pushO c hx o (by omega) hlo k fun h' hg hk => ?_
  have kin : ∀ {u : Value} {us : List Int}, Row h n ei .i64 u us → Row h' (n + 2) ei .i64 u us := fun q => q.keep' (by omega) fun b hb => hk b (q.lt hb) (q.apart o hne hb)
  refine y _ h' ⟨cs ++ [x], .inr ⟨n + 1, by simp, hg, by omega, by omega⟩, by simp [hl], fun i hi => ?_⟩ hk fun b hb => by rw [hb.inj]; omega
  rw [getD_app1, getD_app1]
  by_cases c1 : i < xss.length
  · rw [if_pos (by omega), if_pos c1]
    exact ⟨kin (hr i c1).1, fun b hb => by have := (hr i c1).2 b hb; omega⟩
  · have : i = xss.length := by simp at hi; omega
    subst this
    rw [if_neg (by omega), if_pos (by omega), if_neg (by omega), if_pos rfl]
    exact ⟨kin r, fun b hb => r.lt hb⟩
end
end Go.Proofs.YtmjolmggelkjlaaGreat.Ev

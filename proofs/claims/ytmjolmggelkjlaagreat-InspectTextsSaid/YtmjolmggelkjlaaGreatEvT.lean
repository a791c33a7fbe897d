/- Rows of one's own that grow; rows of numbers that are read. No program in sight. -/
import Derived.Test.YtmjolmggelkjlaaGreatEvS
namespace Go.Proofs.YtmjolmggelkjlaaGreat.Ev
set_option linter.unusedVariables false
set_option linter.unusedSimpArgs false
open Go
section
variable {β : Type} {W : Nat → Prop} {n0 : Nat} {h h1 : H} {n n1 : Nat} {Q : β → H → Nat → Prop}

/-! rows of one's own that grow -/
def InBlk (v : Value) (b : Nat) : Prop := ∃ o l c, v = .slice (some ⟨b, o, none⟩) l c
def Own (h : H) (lo n : Nat) (e : TypeId) (v : Value) (cs : List Value) : Prop := (v = .slice none 0 0 ∧ cs = []) ∨ ∃ b, v = .slice (some ⟨b, 0, none⟩) cs.length (CAP + cs.length) ∧ h.get b = some ⟨e, true, cs⟩ ∧ lo ≤ b ∧ b < n
theorem Own.nil (h : H) (lo n : Nat) (e : TypeId) : Own h lo n e (.slice none 0 0) [] := .inl ⟨rfl, rfl⟩
theorem InBlk.inj {b c o l k : Nat} (h : InBlk (.slice (some ⟨b, o, none⟩) l k) c) : c = b := by
  obtain ⟨_, _, _, h⟩ := h
  cases h
  rfl
theorem InBlk.not_nil {l k c : Nat} (h : InBlk (.slice none l k) c) : False := by
  obtain ⟨_, _, _, h⟩ := h
  cases h
theorem Own.lt {lo : Nat} {e : TypeId} {v : Value} {cs : List Value} (o : Own h lo n e v cs) {b : Nat} (hb : InBlk v b) : lo ≤ b ∧ b < n := by
  rcases o with ⟨rfl, _⟩ | ⟨c, rfl, _, h1, h2⟩
  · exact hb.not_nil.elim
  · rw [hb.inj]; exact ⟨h1, h2⟩
theorem Own.keep {lo : Nat} {e : TypeId} {v : Value} {cs : List Value} {h' : H} {n' : Nat} (o : Own h lo n e v cs) (hn : n ≤ n') (hk : ∀ b, InBlk v b → h'.get b = h.get b) : Own h' lo n' e v cs := by
  rcases o with q | ⟨c, rfl, hc, h1, h2⟩
  · exact .inl q
  · exact .inr ⟨c, rfl, (hk c ⟨_, _, _, rfl⟩).trans hc, h1, by omega⟩
theorem Own.low {lo lo' : Nat} {e : TypeId} {v : Value} {cs : List Value} (o : Own h lo n e v cs) (hl : lo' ≤ lo) : Own h lo' n e v cs := by
  rcases o with q | ⟨c, hv, hc, h1, h2⟩
  · exact .inl q
  · exact .inr ⟨c, hv, hc, by omega, h2⟩
theorem run_pushO {T : Prop} (c : T) {e : TypeId} {x : Value} (hx : one x = true) {lo : Nat} {v : Value} {cs : List Value} (o : Own h lo n e v cs) (hm : cs.length + 1 ≤ 1099511627776) (hlo : n0 ≤ lo) (k : Value → M β)
    (y : ∀ h', h'.get (n + 1) = some ⟨e, true, cs ++ [x]⟩ → (∀ b, b < n → ¬ InBlk v b → h'.get b = h.get b) → Run W n0 (k (.slice (some ⟨n + 1, 0, none⟩) (cs.length + 1) (CAP + (cs.length + 1)))) h' (n + 2) Q) : Run W n0 (kb1 e 1 x fun w => kap e 1 v w k) h n Q := by
  rcases o with ⟨rfl, rfl⟩ | ⟨b, rfl, hb, h1, h2⟩
  · exact run_push0 c hx k (y _ (get_eq _ _ _) fun b hb _ => by rw [get_ne _ _ (by omega), get_ne _ _ (by omega)])
  · refine run_push c hx hb h2 rfl hm (by omega) (.inl (by omega)) k (y _ (get_eq _ _ _) fun c hc hn => ?_)
    have : c ≠ b := fun e => hn ⟨0, _, _, by rw [e]⟩
    rw [get_ne _ _ (by omega), get_ne _ _ this, get_ne _ _ (by omega)]
theorem Own.mk' {lo b : Nat} {e : TypeId} {cs : List Value} (hg : h.get b = some ⟨e, true, cs⟩) (h1 : lo ≤ b) (h2 : b < n) {l : Nat} (hl : l = cs.length) : Own h lo n e (.slice (some ⟨b, 0, none⟩) l (CAP + l)) cs := .inr ⟨b, by rw [hl], hg, h1, h2⟩

/-! slices of numbers that are read -/
def intsV (k : IntKind) (xs : List Int) : List Value := xs.map (Value.int k)
theorem intsV_len (k : IntKind) (xs : List Int) : (intsV k xs).length = xs.length := by unfold intsV; simp
theorem intsV_at {k : IntKind} {xs : List Int} {i : Nat} (h : i < xs.length) : (intsV k xs)[i]? = some (.int k (xs.getD i 0)) := by
  unfold intsV; simp [h]
theorem intsV_one (k : IntKind) (xs : List Int) : (intsV k xs).all one = true := by
  unfold intsV; simp [one]
/-- a slice value that reads as numbers: empty and nowhere, or somewhere in a block -/
def Row (h : H) (n : Nat) (e : TypeId) (k : IntKind) (v : Value) (xs : List Int) : Prop :=
  (∃ a c, v = .slice a 0 c ∧ (∀ b o, a ≠ some ⟨b, o, none⟩) ∧ xs = []) ∨ ∃ b off cap o cs, v = .slice (some ⟨b, off, none⟩) xs.length cap ∧ h.get b = some ⟨e, o, cs⟩ ∧ b < n ∧ off + xs.length ≤ cs.length ∧ (cs.drop off).take xs.length = intsV k xs ∧ xs.length ≤ cap
theorem Row.keep {e : TypeId} {k : IntKind} {v : Value} {xs : List Int} {h' : H} {n' : Nat} (r : Row h n e k v xs) (hn : n ≤ n') (hk : ∀ b, b < n → h'.get b = h.get b) : Row h' n' e k v xs := by
  rcases r with q | ⟨b, off, cap, o, cs, hv, hg, hb, r⟩
  · exact .inl q
  · exact .inr ⟨b, off, cap, o, cs, hv, (hk b hb).trans hg, by omega, r⟩
theorem Row.keep' {e : TypeId} {k : IntKind} {v : Value} {xs : List Int} {h' : H} {n' : Nat} (r : Row h n e k v xs) (hn : n ≤ n') (hk : ∀ b, InBlk v b → h'.get b = h.get b) : Row h' n' e k v xs := by
  rcases r with q | ⟨b, off, cap, o, cs, hv, hg, hb, r⟩
  · exact .inl q
  · exact .inr ⟨b, off, cap, o, cs, hv, (hk b ⟨_, _, _, hv⟩).trans hg, by omega, r⟩
theorem Row.lt {e : TypeId} {k : IntKind} {v : Value} {xs : List Int} (r : Row h n e k v xs) {b : Nat} (hb : InBlk v b) : b < n := by
  rcases r with ⟨a, c, rfl, hne, _⟩ | ⟨c, off, cap, o, cs, rfl, hg, hbn, _⟩
  · obtain ⟨o, l, k, q⟩ := hb
    cases q
    exact absurd rfl (hne b o)
  · rw [hb.inj]; exact hbn
/-- of a row that is not empty: where it lies, and its cells -/
theorem Row.some {e : TypeId} {k : IntKind} {v : Value} {xs : List Int} (r : Row h n e k v xs) (h0 : 0 < xs.length) : ∃ b off cap o cs, v = .slice (some ⟨b, off, none⟩) xs.length cap ∧ h.get b = some ⟨e, o, cs⟩ ∧ b < n ∧ off + xs.length ≤ cs.length ∧ (cs.drop off).take xs.length = intsV k xs ∧ xs.length ≤ cap ∧ ∀ i, i < xs.length → cs[off + i]? = some (.int k (xs.getD i 0)) := by
  rcases r with ⟨a, c, _, _, rfl⟩ | ⟨b, off, cap, o, cs, hv, hg, hb, hl, ht, hc⟩
  · simp at h0
  · refine ⟨b, off, cap, o, cs, hv, hg, hb, hl, ht, hc, fun i hi => ?_⟩
    have := congrArg (fun z => z[i]?) ht
    simp only [List.getElem?_take, hi, if_true, List.getElem?_drop] at this
    rw [this, intsV_at hi]
theorem Row.len {e : TypeId} {k : IntKind} {v : Value} {xs : List Int} (r : Row h n e k v xs) : ∃ a c, v = .slice a xs.length c := by
  rcases r with ⟨a, c, rfl, _, rfl⟩ | ⟨b, off, cap, o, cs, rfl, _⟩
  · exact ⟨a, c, rfl⟩
  · exact ⟨_, cap, rfl⟩
theorem Own.row {lo : Nat} {e : TypeId} {k : IntKind} {v : Value} {xs : List Int} (o : Own h lo n e v (intsV k xs)) : Row h n e k v xs := by
  rcases o with ⟨rfl, q⟩ | ⟨b, rfl, hg, _, hb⟩
  · exact .inl ⟨none, 0, rfl, fun _ _ q => (nomatch q), by unfold intsV at q; simpa using q⟩
  · rw [intsV_len]
    exact .inr ⟨b, 0, CAP + xs.length, true, _, rfl, hg, hb, by rw [intsV_len]; omega, by rw [List.drop_zero, List.take_of_length_le (by rw [intsV_len]; omega)], by omega⟩
theorem Row.src {e : TypeId} {k : IntKind} {v : Value} {xs : List Int} (r : Row h n e k v xs) (h0 : 0 < xs.length) : Src h n v (intsV k xs) := by
  obtain ⟨b, off, cap, o, cs, hv, hg, hb, hl, ht, hc, _⟩ := r.some h0
  exact ⟨b, off, cap, ⟨e, o, cs⟩, by rw [hv, intsV_len], hg, hb, by rw [intsV_len]; exact hl, by rw [intsV_len]; exact ht⟩
/-- 'xs = append(xs, ys...)' -/
theorem run_appO {T : Prop} (c : T) {e : TypeId} {lo : Nat} {v w : Value} {cs : List Value} {k : IntKind} {ys : List Int} {e' : TypeId} (o : Own h lo n e v cs) (r : Row h n e' k w ys) (hm : cs.length + ys.length ≤ 1099511627776) (hlo : n0 ≤ lo) (hln : lo ≤ n) (kk : Value → M β)
    (y : ∀ v' h' n', n ≤ n' → Own h' lo n' e v' (cs ++ intsV k ys) → (∀ b, InBlk v' b → InBlk v b ∨ n ≤ b) → (∀ b, b < n → ¬ InBlk v b → h'.get b = h.get b) → Run W n0 (kk v') h' n' Q) : Run W n0 (kap e 1 v w kk) h n Q := by
  by_cases h0 : ys.length = 0
  · have hy : ys = [] := List.length_eq_zero_iff.1 h0
    subst hy
    obtain ⟨a, cp, hw⟩ := r.len
    have hl : lenOf? w = some 0 := by rw [hw]; rfl
    obtain ⟨a', l', c', hv⟩ : ∃ a l c, v = .slice a l c := by
      rcases o with ⟨rfl, _⟩ | ⟨b, rfl, _⟩
      · exact ⟨_, _, _, rfl⟩
      · exact ⟨_, _, _, rfl⟩
    subst hv
    refine app_none (news := []) c hl a' l' c' kk ?_
    exact y _ h n (Nat.le_refl n) (by simpa [intsV] using o) (fun b hb => .inl hb) (fun b _ _ => rfl)
  · have s := r.src (by omega)
    have hl := intsV_len k ys
    rcases o with ⟨rfl, rfl⟩ | ⟨b, rfl, hg, h1, h2⟩
    · refine app_nil c s (by omega) (by rw [hl]; simp at hm; omega) (intsV_one k ys) kk ?_
      refine y _ _ (n + 1) (Nat.le_succ n) (.inr ⟨n, rfl, by rw [get_eq]; simp, hln, Nat.lt_succ_self n⟩) (fun b hb => .inr (by rw [hb.inj]; exact Nat.le_refl n)) (fun b hb _ => get_ne _ _ (by omega))
    · refine app_own c s (by omega) (intsV_one k ys) hg h2 0 cs.length (by omega) (by rw [List.drop_zero, List.take_length]) (by rw [hl]; exact hm) (by omega) (.inl (by omega)) kk ?_
      refine y _ _ (n + 1) (Nat.le_succ n) (.inr ⟨n, by simp, get_eq _ _ _, hln, Nat.lt_succ_self n⟩) (fun c hc => .inr (by rw [hc.inj]; exact Nat.le_refl n)) (fun c hc hn => ?_)
      have : c ≠ b := fun e => hn ⟨0, _, _, by rw [e]⟩
      rw [get_ne _ _ (by omega), get_ne _ _ this]
end

end Go.Proofs.YtmjolmggelkjlaaGreat.Ev

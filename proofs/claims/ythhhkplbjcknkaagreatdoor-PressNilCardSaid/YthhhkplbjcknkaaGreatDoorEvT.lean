/- Rows of one's own that grow; rows of numbers that are read. No program in sight. -/
import Derived.Test.YthhhkplbjcknkaaGreatDoorEvS
namespace Go.Proofs.YthhhkplbjcknkaaGreatDoor.Ev
set_option linter.unusedVariables false
set_option linter.unusedSimpArgs false
open Go
section
variable {β : Type} {W : Nat → Prop} {n0 : Nat} {h h1 : H} {n n1 : Nat} {Q : β → H → Nat → Prop}

def InBlk (v : Value) (b : Nat) : Prop := ∃ o l c, v = .slice (some ⟨b, o, none⟩) l c
def Own (h : H) (lo n : Nat) (e : TypeId) (v : Value) (cs : List Value) : Prop := (v = .slice none 0 0 ∧ cs = []) ∨ ∃ b, v = .slice (some ⟨b, 0, none⟩) cs.length (CAP + cs.length) ∧ h.get b = some ⟨e, true, cs⟩ ∧ lo ≤ b ∧ b < n
theorem Own.nil (h : H) (lo n : Nat) (e : TypeId) : Own h lo n e (.slice none 0 0) [] := .inl ⟨rfl, rfl⟩
theorem InBlk.inj {b c o l k : Nat} (h : InBlk (.slice (some ⟨b, o, none⟩) l k) c) : c = b := by
  obtain ⟨_, _, _, h⟩ := h
  cases h
  rfl
theorem InBlk.not_nil {l k c : Nat} (h : InBlk (.slice none l k) c) : False := by
  obtain ⟨_, _, _, h⟩ := h
  cases h
theorem Own.lt {lo : Nat} {e : TypeId} {v : Value} {cs : List Value} (o : Own h lo n e v cs) {b : Nat} (hb : InBlk v b) : lo ≤ b ∧ b < n := by
  rcases o with ⟨rfl, _⟩ | ⟨c, rfl, _, h1, h2⟩
  · exact hb.not_nil.elim
  · rw [hb.inj]; exact ⟨h1, h2⟩
theorem Own.keep {lo : Nat} {e : TypeId} {v : Value} {cs : List Value} {h' : H} {n' : Nat} (o : Own h lo n e v cs) (hn : n ≤ n') (hk : ∀ b, InBlk v b → h'.get b = h.get b) : Own h' lo n' e v cs := by
  rcases o with q | ⟨c, rfl, hc, h1, h2⟩
  · exact .inl q
  · exact .inr ⟨c, rfl, (hk c ⟨_, _, _, rfl⟩).trans hc, h1, by omega⟩
def intsV (k : IntKind) (xs : List Int) : List Value := xs.map (Value.int k)
theorem intsV_len (k : IntKind) (xs : List Int) : (intsV k xs).length = xs.length := by unfold intsV; simp
theorem intsV_at {k : IntKind} {xs : List Int} {i : Nat} (h : i < xs.length) : (intsV k xs)[i]? = some (.int k (xs.getD i 0)) := by
  unfold intsV; simp [h]
/-- a slice value that reads as numbers: empty and nowhere, or somewhere in a block -/
def Row (h : H) (n : Nat) (e : TypeId) (k : IntKind) (v : Value) (xs : List Int) : Prop :=
  (∃ a c, v = .slice a 0 c ∧ (∀ b o, a ≠ some ⟨b, o, none⟩) ∧ xs = []) ∨ ∃ b off cap o cs, v = .slice (some ⟨b, off, none⟩) xs.length cap ∧ h.get b = some ⟨e, o, cs⟩ ∧ b < n ∧ off + xs.length ≤ cs.length ∧ (cs.drop off).take xs.length = intsV k xs ∧ xs.length ≤ cap
theorem Row.keep {e : TypeId} {k : IntKind} {v : Value} {xs : List Int} {h' : H} {n' : Nat} (r : Row h n e k v xs) (hn : n ≤ n') (hk : ∀ b, b < n → h'.get b = h.get b) : Row h' n' e k v xs := by
  rcases r with q | ⟨b, off, cap, o, cs, hv, hg, hb, r⟩
  · exact .inl q
  · exact .inr ⟨b, off, cap, o, cs, hv, (hk b hb).trans hg, by omega, r⟩
theorem Row.lt {e : TypeId} {k : IntKind} {v : Value} {xs : List Int} (r : Row h n e k v xs) {b : Nat} (hb : InBlk v b) : b < n := by
  rcases r with ⟨a, c, rfl, hne, _⟩ | ⟨c, off, cap, o, cs, rfl, hg, hbn, _⟩
  · obtain ⟨o, l, k, q⟩ := hb
    cases q
    exact absurd rfl (hne b o)
  · rw [hb.inj]; exact hbn
/-- of a row that is not empty: where it lies, and its cells -/
theorem Row.some {e : TypeId} {k : IntKind} {v : Value} {xs : List Int} (r : Row h n e k v xs) (h0 : 0 < xs.length) : ∃ b off cap o cs, v = .slice (some ⟨b, off, none⟩) xs.length cap ∧ h.get b = some ⟨e, o, cs⟩ ∧ b < n ∧ off + xs.length ≤ cs.length ∧ (cs.drop off).take xs.length = intsV k xs ∧ xs.length ≤ cap ∧ ∀ i, i < xs.length → cs[off + i]? = some (.int k (xs.getD i 0)) := by
  rcases r with ⟨a, c, _, _, rfl⟩ | ⟨b, off, cap, o, cs, hv, hg, hb, hl, ht, hc⟩
  · simp at h0
  · refine ⟨b, off, cap, o, cs, hv, hg, hb, hl, ht, hc, fun i hi => ?_⟩
    have := congrArg (fun z => z[i]?) ht
    simp only [List.getElem?_take, hi, if_true, List.getElem?_drop] at this
    rw [this, intsV_at hi]
theorem Row.len {e : TypeId} {k : IntKind} {v : Value} {xs : List Int} (r : Row h n e k v xs) : ∃ a c, v = .slice a xs.length c := by
  rcases r with ⟨a, c, rfl, _, rfl⟩ | ⟨b, off, cap, o, cs, rfl, _⟩
  · exact ⟨a, c, rfl⟩
  · exact ⟨_, cap, rfl⟩
theorem Own.row {lo : Nat} {e : TypeId} {k : IntKind} {v : Value} {xs : List Int} (o : Own h lo n e v (intsV k xs)) : Row h n e k v xs := by
  rcases o with ⟨rfl, q⟩ | ⟨b, rfl, hg, _, hb⟩
  · exact .inl ⟨none, 0, rfl, fun _ _ q => (nomatch q), by unfold intsV at q; simpa using q⟩
  · rw [intsV_len]
    exact .inr ⟨b, 0, CAP + xs.length, true, _, rfl, hg, hb, by rw [intsV_len]; omega, by rw [List.drop_zero, List.take_of_length_le (by rw [intsV_len]; omega)], by omega⟩
theorem Row.src {e : TypeId} {k : IntKind} {v : Value} {xs : List Int} (r : Row h n e k v xs) (h0 : 0 < xs.length) : Src h n v (intsV k xs) := by
  obtain ⟨b, off, cap, o, cs, hv, hg, hb, hl, ht, hc, _⟩ := r.some h0
  exact ⟨b, off, cap, ⟨e, o, cs⟩, by rw [hv, intsV_len], hg, hb, by rw [intsV_len]; exact hl, by rw [intsV_len]; exact ht⟩
end

end Go.Proofs.YthhhkplbjcknkaaGreatDoor.Ev

/- Layer 47: the functions that are known by what they yield. -/
import Derived.Test.YtmjolmggelkjlaaGreatID
namespace Go.Proofs.YtmjolmggelkjlaaGreat
set_option linter.unusedVariables false
set_option linter.unusedSimpArgs false
open Go.RowKit Ev Ip

theorem ptsOf_spec : ∀ (l : List Pt) (cs : List Value), ptsOf cs = some l → cs = l.flatMap Pt.cells ∧ ∀ p ∈ l, p.ok = true := by
  intro l
  induction l with
  | nil =>
    intro cs h
    unfold ptsOf at h
    split at h
    · exact ⟨rfl, fun p hp => by cases hp⟩
    · split at h
      · split at h <;> cases h
      · cases h
    · cases h
  | cons q l ih =>
    intro cs h
    unfold ptsOf at h
    split at h
    · cases h
    · split at h
      · rename_i l' hl
        split at h
        · rename_i ho
          cases h
          obtain ⟨e, k⟩ := ih _ hl
          refine ⟨by rw [e]; rfl, fun p hp => ?_⟩
          rcases List.mem_cons.1 hp with rfl | hp
          · exact ho
          · exact k p hp
        · cases h
      · cases h
    · cases h
theorem ptsF_len (l : List Pt) : (l.flatMap Pt.cells).length = l.length * 8 := by
  induction l with
  | nil => rfl
  | cons q l ih =>
    rw [List.flatMap_cons, List.length_append, ih]
    show 8 + l.length * 8 = (l.length + 1) * 8
    omega
theorem ptsF_at : ∀ (l : List Pt) (i j : Nat) (p : Pt) (v : Value), l[i]? = some p → p.cells[j]? = some v → (l.flatMap Pt.cells)[i * 8 + j]? = some v
  | [], _, _, _, _, h, _ => by cases h
  | q :: l, 0, j, p, v, h, hv => by
    cases h
    have hj : j < q.cells.length := (List.getElem?_eq_some_iff.1 hv).1
    rw [List.flatMap_cons, Nat.zero_mul, Nat.zero_add, List.getElem?_append_left hj]
    exact hv
  | q :: l, i + 1, j, p, v, h, hv => by
    have := ptsF_at l i j p v h hv
    have e : (i + 1) * 8 + j = q.cells.length + (i * 8 + j) := by show _ = 8 + _; omega
    rw [List.flatMap_cons, e, List.getElem?_append_right (Nat.le_add_right _ _), Nat.add_sub_cancel_left]
    exact this
theorem vr_ansB (o : Option (List Nat)) (m : Mp) : VR m (ansB o) (ansB o) := by
  cases o
  · exact .tuple (flat_vrs rfl)
  · exact .tuple (flat_vrs rfl)
theorem nat_text (a : Option Addr) (n c : Nat) (cs : List Value) (v : Value) (w : World) (hl : cs.length = n * 8) (ha : ∀ i v, cs[i]? = some v → ∃ b o, a = some ⟨b, o, none⟩ ∧ w.cell? ⟨b, o + i, none⟩ = some v) (h : textN n cs = some v) :
    (∀ m, VR m v v) ∧ Calls Tryz.prog 18 #[.slice a n c] w fun e w' => e = .returned v ∧ Below w.heap.size w w' := by
  unfold textN at h
  split at h
  · rename_i hn
    cases hp : ptsOf cs with
    | none => rw [hp] at h; cases h
    | some l =>
      rw [hp] at h
      cases h
      obtain ⟨e, ok⟩ := ptsOf_spec _ _ hp
      have h8 := ptsF_len l
      rw [← e, hl] at h8
      refine ⟨vr_ansB _, h_Text a n c l w (by omega) hn ok fun i p hi => ?_⟩
      have k0 := ptsF_at l i 0 p _ hi rfl
      rw [← e] at k0
      obtain ⟨b, o, rfl, _⟩ := ha _ _ k0
      refine ⟨b, o, rfl, fun j v hv => ?_⟩
      have kj := ptsF_at l i j p _ hi hv
      rw [← e] at kj
      obtain ⟨b', o', e2, hc⟩ := ha _ _ kj
      cases e2
      rw [Nat.add_assoc]
      exact hc
  · cases h
theorem nat_all {kn : List FuncId} (hk : ∀ f k, kn.contains f = true → natOf f = some k → (f = 68 ∧ k = 3) ∨ (f = 18 ∧ k = 4)) : Ev.NatKnown Tryz.prog kn := by
  intro f k hb hf
  rcases hk f k hb hf with ⟨rfl, rfl⟩ | ⟨rfl, rfl⟩
  · exact ⟨fun e => (by cases e), fun e => (by cases e), fun _ args v w _ h => nat_hexed args v w h, fun e => (by cases e)⟩
  · refine ⟨fun e => (by cases e), fun e => (by cases e), fun e => (by cases e), fun _ => ⟨fun v w h => nat_text none 0 0 [] v w rfl (fun i v h => by cases h) h, fun b o n c cs v w hl _ hc _ h => nat_text _ n c cs v w hl (fun i v hi => ⟨b, o, rfl, hc i v hi⟩) h⟩⟩
end Go.Proofs.YtmjolmggelkjlaaGreat

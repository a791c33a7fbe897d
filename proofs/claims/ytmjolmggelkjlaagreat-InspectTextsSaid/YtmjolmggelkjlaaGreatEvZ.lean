/- A part of the second form that the kernel itself runs; statements whose arguments hold no slices. No program in sight. -/
import Derived.Test.YtmjolmggelkjlaaGreatEvY
namespace Go.Proofs.YtmjolmggelkjlaaGreat.Ev
set_option linter.unusedVariables false
set_option linter.unusedSimpArgs false
open Go Go.RowKit

/-- it ended, with 'true', and wrote only own blocks -/
def okRun (n0 n : Nat) : Option (Out Value) → Bool
  | some ⟨.bool true, _, n1, L⟩ => Nat.ble n n1 && L.all fun e => !e.wr || Nat.ble n0 e.b
  | _ => false
theorem run_ker {W : Nat → Prop} {n0 : Nat} {m : M Value} {h : H} {n : Nat} (e : okRun n0 n (m h n) = true) : Run W n0 m h n fun v _ _ => v = .bool true := by
  unfold okRun at e
  split at e
  · rename_i h1 n1 L hm
    simp only [Bool.and_eq_true, List.all_eq_true, Nat.ble_eq] at e
    refine ⟨.bool true, h1, n1, L, hm, e.1, fun x hx hw => .inl ?_, rfl⟩
    have := e.2 x hx
    rw [hw] at this
    simpa [Nat.ble_eq] using this
  · cases e
theorem run_lda {β : Type} {W : Nat → Prop} {n0 : Nat} {h : H} {n : Nat} {Q : β → H → Nat → Prop} {T T' : Prop} (_ : T) (_ : T') {sz : Nat} (b off : Nat) (k : Value → M β) {B : AB} (hg : h.get b = some B) (hb : b < n) (hl : off + sz ≤ B.cells.length) (x : Run W n0 (k (.agg ((B.cells.drop off).take sz).toArray)) h n Q) : Run W n0 (klg sz (.pointer (some ⟨b, off, none⟩)) k) h n Q := run_klg b off k hg hb hl x
/-- a value that is what it seems -/
def flat : Value → Bool
  | .agg cs => cs.toList.all scalar
  | v => scalar v
theorem flat_vr {m : Mp} {v : Value} (h : flat v = true) : VR m v v := by
  cases v with
  | agg cs =>
    have hs : ∀ l : List Value, l.all scalar = true → VRs m l l := by
      intro l
      induction l with
      | nil => intro _; exact .nil
      | cons a l ih =>
        intro h
        simp only [List.all_cons, Bool.and_eq_true] at h
        exact .cons (VR.self h.1) (ih h.2)
    exact .agg (hs cs.toList h)
  | _ => exact VR.self h
theorem flat_vrs {m : Mp} : ∀ {l : List Value}, l.all flat = true → VRs m l l
  | [], _ => .nil
  | a :: l, h => by
    simp only [List.all_cons, Bool.and_eq_true] at h
    exact .cons (flat_vr h.1) (flat_vrs h.2)
theorem law_flat {P : Program} (hnm : okNames P = true) (hok : okProg P KN = true) (hmix : P.follows .mixedOrders = true) (hkn : Known P KN) (hd : okDsts P = true) {w : World} {gt : Nat → Hint} {lf d : Nat} {f : FuncId} {vs : List Value} (ha : vs.all flat = true) {m0 : Mp} {h0 : H} (x0 : Laid P w m0 h0 P.globals.size)
    (r : Run (fun _ => False) P.globals.size (evCall2 P gt lf d f vs.toArray) h0 P.globals.size fun v _ _ => v = .bool true) : Calls P f vs.toArray w fun e w' => e = .returned (.bool true) ∧ Below w.heap.size w w' :=
  laid_call hnm hok hmix hkn hd x0 (flat_vrs ha) r
section
variable {P : Program} {w : World} {f : Nat} {t : TypeId} {v : Value}
theorem repR_int {k : IntKind} (hu : P.underlying t = some (.int k)) (x : Rep1 P w (f + 1) t v) : ∃ i, v = .int k i ∧ (Lit.int k i).wf = true := by
  unfold Rep1 at x
  rw [hu] at x
  exact x
theorem argR_agg {ts : List TypeId} (hc : cellTs P 8 t = some ts) (hg : isAggT P t = true) (x : ArgR P w t v) : ∃ cs : List Value, v = .agg cs.toArray ∧ All2 (Rep1 P w 8) ts cs := by
  obtain ⟨ts', hts, q, ha, _⟩ := x
  rw [hc] at hts
  cases hts
  obtain ⟨cs, rfl⟩ := ha hg
  exact ⟨cs.toList, rfl, q⟩
theorem argR_cell (hc : cellTs P 8 t = some [t]) (hg : isAggT P t = false) (x : ArgR P w t v) : Rep1 P w 8 t v := by
  obtain ⟨ts', hts, q, _, ha⟩ := x
  rw [hc] at hts
  cases hts
  rw [ha hg] at q
  exact q.1
end

end Go.Proofs.YtmjolmggelkjlaaGreat.Ev

/- Single operations, append and the rest: what the evaluator finds holds of every run. No program in sight. -/
import Derived.Test.YtmjolmggelkjlaaGreatEvG
namespace Go.Proofs.YtmjolmggelkjlaaGreat.Ev
set_option linter.unusedVariables false
set_option linter.unusedSimpArgs false
open Go Go.RowKit

section
variable {P : Program} {base : Nat} {m : Mp} {w : World} {h h1 : H} {n n1 : Nat} {r : Value} {L : List En}
theorem part_at {t : TypeId} {cs cs' : Array Value} (hc : VRs m cs.toList cs'.toList) {off : Nat} (hr : partOf P t cs off = some r) (w : World) : ∃ v', (part t cs' off).run P w = .ok v' w ∧ VR m r v' := by
  unfold partOf at hr
  cases hg : agg? P t with
  | none => rw [hg] at hr; cases hr
  | some g =>
    rw [hg] at hr
    cases g with
    | true =>
      cases hs : size? P t with
      | none => rw [hs] at hr; cases hr
      | some k =>
        rw [hs] at hr
        simp only [Option.some.injEq] at hr
        subst hr
        refine ⟨.agg (cs'.extract off (off + k)), ?_, .agg ?_⟩
        · unfold part
          simp only [Sem.run_bind, agg_isAgg hg w, Result.andThen, if_true, run_sizeOf hs]
          rfl
        · have hl : cs.size = cs'.size := by simpa using hc.length
          refine VRs.of_get (by simp [hl]) fun j v hj => ?_
          simp only [Array.toList_extract, List.extract_eq_take_drop, List.getElem?_take, List.getElem?_drop] at hj ⊢
          split at hj
          · rename_i hlt
            rw [if_pos hlt]
            exact hc.get _ v hj
          · cases hj
    | false =>
      simp only at hr
      obtain ⟨v', hv', hr'⟩ := hc.get off r (by simpa using hr)
      refine ⟨v', ?_, hr'⟩
      unfold part
      have : cs'[off]? = some v' := by simpa using hv'
      simp only [Sem.run_bind, agg_isAgg hg w, Result.andThen, Bool.false_eq_true, if_false, this]
      rfl
theorem field_at {t : TypeId} {v v' : Value} {f : Nat} (hv : VR m v v') (hr : evField P t v f = some r) (w : World) : ∃ u, (Instr.field t v' f).run P w = .ok u w ∧ VR m r u := by
  unfold evField at hr
  cases hu : P.underlying t with
  | none => rw [hu] at hr; cases hr
  | some d =>
    rw [hu] at hr
    cases d <;> try (cases hr; done)
    rename_i fs
    cases hv <;> try (cases hr; done)
    rename_i cs cs' hc
    simp only at hr
    cases hf : fs[f]? with
    | none => rw [hf] at hr; cases hr
    | some fd =>
      rw [hf] at hr
      obtain ⟨u, hu2, hru⟩ := part_at hc hr w
      refine ⟨u, ?_, hru⟩
      unfold Instr.field
      simp only [Sem.run_bind, run_underlying hu, Result.andThen, hf, asAgg, Sem.run_pure]
      exact hu2
theorem fieldAddr_at {t : TypeId} {v v' : Value} {f : Nat} (hv : VR m v v') (hr : evFieldAddr P t v f = some r) (w : World) : ∃ u, (Instr.fieldAt t v' f).run P w = .ok u w ∧ VR m r u := by
  unfold evFieldAddr at hr
  cases hu : P.underlying t with
  | none => rw [hu] at hr; cases hr
  | some d =>
    rw [hu] at hr
    cases d <;> try (cases hr; done)
    rename_i fs
    cases hv <;> try (cases hr; done)
    rename_i b off d hd
    simp only at hr
    cases hf : fs[f]? with
    | none => rw [hf] at hr; cases hr
    | some fd =>
      rw [hf] at hr
      simp only at hr
      cases hs : size? P fd.type with
      | none => rw [hs] at hr; cases hr
      | some k =>
        rw [hs] at hr
        simp only at hr
        split at hr
        · cases hr
        · rename_i hk
          cases hr
          refine ⟨.pointer (some ⟨d.blk, d.sh + (off + fd.offset), none⟩), ?_, VR.ptr hd⟩
          unfold Instr.fieldAt
          simp only [Sem.run_bind, run_underlying hu, Result.andThen, hf, Instr.sureAddr, Sem.run_pure, fieldPlace, run_sizeOf hs, if_neg hk, add0]
          rw [Nat.add_assoc]
theorem indexAddr_at {t : TypeId} {v v' i i' : Value} (hv : VR m v v') (hi : VR m i i') (hr : evIndexAddr P t v i = some r) (w : World) : ∃ u, (Instr.indexAt t v' i').run P w = .ok u w ∧ VR m r u := by
  unfold evIndexAddr at hr
  cases hu : P.underlying t with
  | none => rw [hu] at hr; cases hr
  | some d =>
    rw [hu] at hr
    cases d <;> try (cases hr; done)
    case slice e =>
      cases hv <;> try (cases hr; done)
      rename_i b off len cap cap' o' d hd ho c1 c2 c3 c4
      cases hi <;> try (cases hr; done)
      rename_i k j
      simp only at hr
      cases hs : size? P e with
      | none => rw [hs] at hr; cases hr
      | some sz =>
        rw [hs] at hr
        simp only at hr
        split at hr
        · rename_i hj
          cases hr
          refine ⟨.pointer (some ⟨d.blk, d.sh + (off + j.toNat * sz), none⟩), ?_, VR.ptr hd⟩
          unfold Instr.indexAt
          simp only [asIntOf, pure_bind, Sem.run_bind, run_underlying hu, Result.andThen, Sem.run_pure, if_pos hj, run_sizeOf hs, add0, ho (.inl (by omega))]
          rw [Nat.add_assoc]
        · cases hr
    case array len e =>
      cases hv <;> try (cases hr; done)
      rename_i b off d hd
      cases hi <;> try (cases hr; done)
      rename_i k j
      simp only at hr
      cases hs : size? P e with
      | none => rw [hs] at hr; cases hr
      | some sz =>
        rw [hs] at hr
        simp only at hr
        split at hr
        · rename_i hj
          cases hr
          refine ⟨.pointer (some ⟨d.blk, d.sh + (off + j.toNat * sz), none⟩), ?_, VR.ptr hd⟩
          unfold Instr.indexAt
          simp only [asIntOf, pure_bind, Sem.run_bind, run_underlying hu, Result.andThen, Sem.run_pure, Instr.sureAddr, if_pos hj, run_sizeOf hs, add0]
          rw [Nat.add_assoc]
        · cases hr
theorem index_at {t : TypeId} {v v' i i' : Value} (hv : VR m v v') (hi : VR m i i') (hr : evIndex P t v i = some r) (w : World) : ∃ u, (Instr.index t v' i').run P w = .ok u w ∧ VR m r u := by
  unfold evIndex at hr
  cases hu : P.underlying t with
  | none => rw [hu] at hr; cases hr
  | some d =>
    rw [hu] at hr
    cases d <;> try (cases hr; done)
    rename_i len e
    cases hv <;> try (cases hr; done)
    rename_i cs cs' hc
    cases hi <;> try (cases hr; done)
    rename_i k j
    simp only at hr
    cases hs : size? P e with
    | none => rw [hs] at hr; cases hr
    | some sz =>
      rw [hs] at hr
      simp only at hr
      split at hr
      · rename_i hj
        obtain ⟨u, hu2, hru⟩ := part_at hc hr w
        refine ⟨u, ?_, hru⟩
        unfold Instr.index
        simp only [asIntOf, pure_bind, Sem.run_bind, run_underlying hu, Result.andThen, if_pos hj, run_sizeOf hs]
        exact hu2
      · cases hr
theorem extract_at {v v' : Value} {i : Nat} (hv : VR m v v') (hr : evExtract v i = some r) (w : World) : ∃ u, (Instr.extract v' i).run P w = .ok u w ∧ VR m r u := by
  unfold evExtract at hr
  cases hv <;> try (cases hr; done)
  rename_i cs cs' hc
  simp only at hr
  obtain ⟨u, hu, hru⟩ := hc.get i r (by simpa using hr)
  have : cs'[i]? = some u := by simpa using hu
  exact ⟨u, by simp [Instr.extract, this], hru⟩
/-- an optional bound -/
def OptR (m : Mp) (a b : Option Value) : Prop := match a, b with
  | none, none => True
  | some x, some y => VR m x y
  | _, _ => False
theorem bound_some {a b : Option Value} {d k : Nat} (ha : OptR m a b) (hr : boundOf a d = some k) : (a = none ∧ b = none ∧ k = d) ∨ ∃ kd i, a = some (.int kd i) ∧ b = some (.int kd i) ∧ 0 ≤ i ∧ k = i.toNat := by
  unfold boundOf at hr
  cases a with
  | none =>
    cases b with
    | none => left; exact ⟨rfl, rfl, by simpa using hr.symm⟩
    | some y => cases ha
  | some x =>
    cases b with
    | none => cases ha
    | some y =>
      have ha : VR m x y := ha
      cases ha <;> simp at hr
      rename_i kd i
      exact .inr ⟨kd, i, rfl, rfl, hr.1, hr.2.symm⟩
theorem run_bound {k : IntKind} {i : Int} {y : Nat} {code : BoundsCode} (h0 : 0 ≤ i) (h1 : i.toNat ≤ y) (w : World) : (Instr.sliceBound (.int k i) y code).run P w = .ok i.toNat w := by
  have : 0 ≤ i ∧ i ≤ (y : Int) := ⟨h0, by omega⟩
  simp [Instr.sliceBound, asIntOf, this]
theorem slice_at {t : TypeId} {v v' : Value} (hsz : ∀ b off l c e, v = .slice (some ⟨b, off, none⟩) l c → P.underlying t = some (.slice e) → ∃ d, m b = some d ∧ size? P e = some d.esz) {lo hi mx lo' hi' mx' : Option Value} (hv : VR m v v') (hl : OptR m lo lo') (hh : OptR m hi hi') (hm : OptR m mx mx') (hr : evSlice P t v lo hi mx = some r) (w : World) :
    ∃ u, (Instr.sliceAt t v' lo' hi' mx').run P w = .ok u w ∧ VR m r u := by
  unfold evSlice at hr
  cases hu : P.underlying t with
  | none => rw [hu] at hr; cases hr
  | some dd =>
    rw [hu] at hr
    cases dd <;> try (cases hr; done)
    rename_i e
    -- the concrete bounds
    have core : ∀ (a : Option Addr) (len cap cap' : Nat), (∀ sz mm hh' ll, size? P e = some sz → boundOf mx cap = some mm → boundOf hi len = some hh' → boundOf lo 0 = some ll → (mx.isSome && !hi.isSome) = false →
        (ll ≤ hh' ∧ hh' ≤ mm ∧ mm ≤ cap ∧ (cap < CAP ∨ (mx = none ∧ hh' ≤ len))) → (cap < CAP → cap' = cap) → len ≤ cap' →
        (Instr.sliceAt t (.slice a len cap') lo' hi' mx').run P w = .ok (.slice (if (if mx = none then cap' else mm) = ll then a else a.map (·.add (ll * sz))) (hh' - ll) ((if mx = none then cap' else mm) - ll)) w) := by
      intro a len cap cap' sz mm hh' ll hs hbm hbh hbl hmx hc hcap hlen
      obtain ⟨c1, c2, c3, c4⟩ := hc
      have hcap2 : hh' ≤ cap' := by
        rcases c4 with q | ⟨_, q⟩
        · rw [hcap q]; omega
        · omega
      have hbounds : (Instr.sliceBounds true len cap' lo' hi' mx').run P w = .ok (ll, hh', if mx = none then cap' else mm) w := by
        unfold Instr.sliceBounds
        rcases bound_some hm hbm with ⟨rfl, rfl, rfl⟩ | ⟨km, im, rfl, rfl, pm, rfl⟩
        · rcases bound_some hh hbh with ⟨rfl, rfl, rfl⟩ | ⟨kh, ih, rfl, rfl, ph, rfl⟩
          · rcases bound_some hl hbl with ⟨rfl, rfl, rfl⟩ | ⟨kl, il, rfl, rfl, pl, rfl⟩
            · simp
            · simp [run_bound pl c1 w]
          · rcases bound_some hl hbl with ⟨rfl, rfl, rfl⟩ | ⟨kl, il, rfl, rfl, pl, rfl⟩
            · simp [run_bound ph hcap2 w]
            · simp [run_bound ph hcap2 w, run_bound pl c1 w]
        · rcases bound_some hh hbh with ⟨rfl, rfl, rfl⟩ | ⟨kh, ih, rfl, rfl, ph, rfl⟩
          · simp at hmx
          · have q : cap < CAP := by
              rcases c4 with q | ⟨q, _⟩
              · exact q
              · cases q
            have e : im.toNat ≤ cap' := by rw [hcap q]; exact c3
            rcases bound_some hl hbl with ⟨rfl, rfl, rfl⟩ | ⟨kl, il, rfl, rfl, pl, rfl⟩
            · simp [run_bound pm e w, run_bound ph c2 w]
            · simp [run_bound pm e w, run_bound ph c2 w, run_bound pl c1 w]
      unfold Instr.sliceAt
      simp only [Sem.run_bind, run_underlying hu, Result.andThen]
      unfold Instr.slice
      simp only [Sem.run_bind, run_underlying hu, Result.andThen, hbounds, run_sizeOf hs, Sem.run_pure]
    cases hv <;> try (cases hr; done)
    case snil len cap hcap =>
      simp only at hr
      cases hs : size? P e with
      | none => rw [hs] at hr; cases hr
      | some sz =>
        cases hbm : boundOf mx cap with
        | none => rw [hs, hbm] at hr; cases hr
        | some mm =>
          cases hbh : boundOf hi len with
          | none => rw [hs, hbm, hbh] at hr; cases hr
          | some hh' =>
            cases hbl : boundOf lo 0 with
            | none => rw [hs, hbm, hbh, hbl] at hr; cases hr
            | some ll =>
              rw [hs, hbm, hbh, hbl] at hr
              simp only at hr
              split at hr
              · cases hr
              · rename_i hmx
                split at hr
                · rename_i hc
                  cases hr
                  simp only [Bool.and_eq_true, Bool.or_eq_true, decide_eq_true_eq, Option.isNone_iff_eq_none] at hc
                  have hmm : (if mx = none then cap else mm) = mm := by
                    split
                    · rename_i q; subst q; simpa [boundOf] using hbm
                    · rfl
                  refine ⟨_, core none len cap cap sz mm hh' ll hs hbm hbh hbl (Bool.eq_false_iff.2 hmx) ⟨hc.1.1.1, hc.1.1.2, hc.1.2, hc.2⟩ (fun _ => rfl) hcap.1, ?_⟩
                  rw [hmm]
                  have : (if mm = ll then (none : Option Addr) else Option.map (fun (q : Addr) => q.add (ll * sz)) none) = none := by split <;> rfl
                  rw [this]
                  exact .snil _ _ (by omega)
                · cases hr
    case semp b off s a' =>
      exfalso
      simp only at hr
      repeat' (first | (cases hr; done) | split at hr)
    case slc b off len cap cap' o' d hd ho c1 c2 c3 c4 =>
      simp only at hr
      cases hs : size? P e with
      | none => rw [hs] at hr; cases hr
      | some sz =>
        cases hbm : boundOf mx cap with
        | none => rw [hs, hbm] at hr; cases hr
        | some mm =>
          cases hbh : boundOf hi len with
          | none => rw [hs, hbm, hbh] at hr; cases hr
          | some hh' =>
            cases hbl : boundOf lo 0 with
            | none => rw [hs, hbm, hbh, hbl] at hr; cases hr
            | some ll =>
              rw [hs, hbm, hbh, hbl] at hr
              simp only at hr
              split at hr
              · cases hr
              · rename_i hmx
                split at hr
                · rename_i hc
                  cases hr
                  simp only [Bool.and_eq_true, Bool.or_eq_true, decide_eq_true_eq, Option.isNone_iff_eq_none] at hc
                  refine ⟨_, core _ len cap cap' sz mm hh' ll hs hbm hbh hbl (Bool.eq_false_iff.2 hmx) ⟨hc.1.1.1, hc.1.1.2, hc.1.2, hc.2⟩ c1 c3, ?_⟩
                  obtain ⟨d2, hd2, hes⟩ := hsz b off len cap e rfl hu
                  rw [hd] at hd2; cases hd2
                  rw [hs] at hes
                  have hes : sz = d.esz := by simpa using hes
                  subst hes
                  obtain ⟨⟨⟨k1, k2⟩, k3⟩, k4⟩ := hc
                  by_cases hcap : cap < CAP
                  · have hcc := c1 hcap
                    subst hcc
                    have hoo := ho (.inr hcap)
                    subst hoo
                    have hmm : (if mx = none then cap' else mm) = mm := by
                      split
                      · rename_i q; subst q; simpa [boundOf] using hbm
                      · rfl
                    rw [hmm]
                    have hmul : ll * d.esz + (mm - ll) * d.esz = mm * d.esz := by rw [← Nat.add_mul]; congr 1; omega
                    have hle : mm * d.esz ≤ cap' * d.esz := Nat.mul_le_mul_right _ k3
                    by_cases hml : mm = ll
                    · rw [if_pos hml, if_pos hml]
                      exact VR.slc hd (fun _ => rfl) (fun _ => rfl) (fun q => by omega) (by omega) (by omega)
                    · rw [if_neg hml, if_neg hml]
                      simp only [Option.map_some, add0]
                      exact VR.slc hd (fun _ => by omega) (fun _ => rfl) (fun q => by omega) (by omega) (by omega)
                  · have hcap2 : CAP ≤ cap := by omega
                    obtain ⟨q1, q2⟩ := c2 hcap2
                    rcases k4 with k4 | ⟨k4, k5⟩
                    · omega
                    · subst k4
                      have hmm : mm = cap := by simpa [boundOf] using hbm.symm
                      subst hmm
                      simp only [if_true]
                      have hcp : ll ≤ cap' := by omega
                      have hmul : ll * d.esz + (cap' - ll) * d.esz = cap' * d.esz := by rw [← Nat.add_mul]; congr 1; omega
                      have hml : ¬ mm = ll := by unfold CAP at *; omega
                      rw [if_neg hml]
                      by_cases hcl : cap' = ll
                      · rw [if_pos hcl]
                        exact VR.slc hd (fun q => by omega) (fun q => by omega) (fun q => by omega) (by omega) (by omega)
                      · rw [if_neg hcl]
                        simp only [Option.map_some, add0]
                        exact VR.slc hd (fun q => by have := ho (.inl (by omega)); omega) (fun q => by omega) (fun q => by omega) (by omega) (by omega)
                · cases hr
end
end Go.Proofs.YtmjolmggelkjlaaGreat.Ev

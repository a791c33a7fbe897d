/- Append, all operations, calls: what the evaluator finds of a closed call holds of every run. No program in sight. -/
import Derived.Test.YtmjolmggelkjlaaGreatEvH
namespace Go.Proofs.YtmjolmggelkjlaaGreat.Ev
set_option linter.unusedVariables false
set_option linter.unusedSimpArgs false
open Go Go.RowKit

section
variable {P : Program} {base : Nat} {m : Mp} {w : World} {h h1 : H} {n n1 : Nat} {r : Value} {L : List En}
theorem run_lenOf {x x' : Value} {k : Nat} (hx : VR m x x') (hl : lenOf? x = some k) (w : World) : (Builtin.lenOf x').run P w = .ok k w := by
  cases hx <;> simp [lenOf?] at hl <;> subst hl <;> rfl
theorem elems_at {sz k j0 : Nat} {x x' : Value} {vs : List Value} (hx : VR m x x') (hl : lenOf? x = some k) (h0 : 0 < k) (wr : WR P m base h w.heap) (hr : elemsOf sz j0 x h n = some ⟨vs, h1, n1, L⟩) :
    h1 = h ∧ n1 = n ∧ ∃ vs', VRs m vs vs' ∧ ∀ w2 : World, w2.heap = w.heap → (Builtin.firstCells sz j0 x').run P w2 = .ok vs'.toArray w2 := by
  unfold elemsOf at hr
  split at hr
  · rename_i b off l c
    simp [lenOf?] at hl
    subst hl
    cases hx with
    | @slc _ _ _ _ cap' o' d hd ho c1 c2 c3 c4 =>
      obtain ⟨rfl, rfl, hlen, vs', hvs, hcs⟩ := rdN_at wr hd hr
      refine ⟨rfl, rfl, vs', hvs, fun w2 hw2 => ?_⟩
      have hl2 : vs'.length = j0 * sz := by rw [← hvs.length, hlen]
      have := run_loadCells_of (P := P) (w := w2) (c := d.blk) (o := d.sh + off) (vs := vs') (fun j v hj => by
        have := hcs j v hj
        unfold World.cell? at this ⊢
        rw [hw2]; exact this)
      rw [hl2] at this
      simp only [Builtin.firstCells, ho (.inl h0)]
      exact this
  · rename_i s
    simp [lenOf?] at hl
    subst hl
    cases hx
    obtain ⟨rfl, rfl, rfl⟩ := ret_some hr
    refine ⟨rfl, rfl, _, VRs.of_get rfl (fun j v hj => ⟨v, hj, ?_⟩), fun w2 _ => by
      simp [Builtin.firstCells]
      apply Array.ext'
      simp⟩
    have hm := List.mem_of_getElem? hj
    simp only [ByteArray.data_extract, Array.map_extract, Array.toList_extract, List.extract_eq_take_drop, List.drop_zero, Array.toList_map] at hm
    have hm := List.mem_of_mem_take hm
    simp at hm
    obtain ⟨b, _, rfl⟩ := hm
    exact .int _ _
  · cases hr
theorem run_store_raw {c o : Nat} {e : TypeId} {lo hi : Nat} : ∀ (vs : List Value) (i : Nat) (w : World) (cs : Array Value), w.heap[c]? = some (.cells cs e (lo, hi)) → (∀ j, j < vs.length → o + i + j < cs.size ∧ ¬ (lo ≤ o + i + j ∧ o + i + j < hi)) → (∀ v ∈ vs, Ev.one v = true) → base ≤ c →
    ∃ w' cs', (storeCells ⟨c, o, none⟩ vs i).run P w = .ok () w' ∧ w'.heap[c]? = some (.cells cs' e (lo, hi)) ∧ cs'.size = cs.size ∧ (∀ j, cs'[j]? = if o + i ≤ j ∧ j < o + i + vs.length then vs[j - (o + i)]? else cs[j]?) ∧ (∀ b, b ≠ c → w'.heap[b]? = w.heap[b]?) ∧ Below base w w' := by
  intro vs
  induction vs with
  | nil => intro i w cs hg _ _ _; exact ⟨w, cs, rfl, hg, rfl, fun j => by rw [if_neg (by simp)], fun _ _ => rfl, Below.refl _ _⟩
  | cons v vs ih =>
    intro i w cs hg hin h1 hb
    obtain ⟨hlt, hfr⟩ := hin 0 (by simp)
    have hset : (w.setCell ⟨c, o + i, none⟩ v).heap[c]? = some (.cells (cs.setIfInBounds (o + i) v) e (lo, hi)) := by
      simp only [World.setCell, Array.getElem?_modify, if_true, hg]
      simp
    obtain ⟨w', cs', a1, a2, a3, a4, a5, a6⟩ := ih (i + 1) (w.setCell ⟨c, o + i, none⟩ v) _ hset (fun j hj => by
      have := hin (j + 1) (by simpa using hj)
      rw [show o + (i + 1) + j = o + i + (j + 1) by omega]
      simpa using this) (fun u hu => h1 u (by simp [hu])) hb
    refine ⟨w', cs', ?_, a2, by rw [a3]; simp, fun j => ?_, fun b hbc => ?_, ((Below.refl base w).setCell (p := ⟨c, o + i, none⟩) hb _).trans a6⟩
    · unfold storeCells
      rw [add0]
      show (Sem.bind (store _ _) _).run P w = _
      unfold store
      simp only [Sem.bind]
      rw [run_store_one (by rw [cell_eq w _ _ hg]; simpa using hlt) (by
        unfold World.frozen?
        simp only [hg, Bool.and_eq_false_iff, decide_eq_false_iff_not]
        omega) (h1 v (by simp))]
      exact a1
    · rw [a4 j]
      simp only [List.length_cons]
      by_cases hj : o + (i + 1) ≤ j ∧ j < o + (i + 1) + vs.length
      · rw [if_pos hj, if_pos (by omega)]
        rw [show j - (o + i) = (j - (o + (i + 1))) + 1 by omega]
        simp
      · rw [if_neg hj]
        by_cases e2 : j = o + i
        · subst e2
          rw [if_pos (by omega)]
          simp at hlt
          simp [hlt]
        · rw [if_neg (by omega), Array.getElem?_setIfInBounds_ne (by omega)]
    · rw [a5 b hbc, Below.heap_setCell w _ _ _ hbc]
theorem run_append_in {ats : Array TypeId} {t u ty e : TypeId} {i : TypeInfo} {x : Value} {k : Nat} {news : List Value} {b off l cap : Nat} {w' : World} (ht0 : ats[0]? = some t) (ht1 : ats[1]? = some u) (ht : P.underlying t = some (.slice e)) (hu : (∃ e', P.underlying u = some (.slice e')) ∨ P.underlying u = some .string) (hi : P.info? e = some i)
    (hl : (Builtin.lenOf x).run P w = .ok k w) (hroom : l + k ≤ cap) (hx : (Builtin.firstCells i.size k x).run P w = .ok news.toArray w) (hst : (storeCells ⟨b, off + l * i.size, none⟩ news).run P w = .ok () w') :
    (Builtin.append_ ats ty #[.slice (some ⟨b, off, none⟩) l cap, x]).run P w = .ok (.slice (some ⟨b, off, none⟩) (l + k) cap) w' := by
  rcases hu with ⟨e', hk⟩ | hk <;> simp [Builtin.append_, ht0, ht1, run_underlying ht, run_underlying hk, sizeOf, typeInfo, hi, hl, hroom, hx, add0, hst]
theorem run_append_out {ats : Array TypeId} {t u ty e : TypeId} {i : TypeInfo} {z : Value} {x : Value} {k : Nat} {olds news : List Value} {bo : Option Addr} {l cap : Nat} (ht0 : ats[0]? = some t) (ht1 : ats[1]? = some u) (ht : P.underlying t = some (.slice e)) (hu : (∃ e', P.underlying u = some (.slice e')) ∨ P.underlying u = some .string) (hi : P.info? e = some i) (hz : i.zero = some z)
    (hl : (Builtin.lenOf x).run P w = .ok k w) (hroom : cap < l + k) (hsm : l + k ≤ 1099511627776) (hby : i.bytes ≤ 64) (hx : (Builtin.firstCells i.size k x).run P w.drew = .ok news.toArray w.drew) (ho : (Builtin.firstCells i.size l (.slice bo l cap)).run P w.drew = .ok olds.toArray w.drew) :
    (Builtin.append_ ats ty #[.slice bo l cap, x]).run P w = .ok (.slice (some ⟨w.heap.size, 0, none⟩) (l + k) (grownCap w (l + k) cap e))
      (w.drew.alloc (.cells ((olds ++ news).toArray ++ Builtin.zeroCells z.cells (grownCap w (l + k) cap e - (l + k))) e)) := by
  have hn : ¬ (l + k ≤ cap) := by omega
  have h63' : ¬ (9223372036854775807 < ((l : Int) + (k : Int))) := by omega
  have hfit := growslice_fits (need := l + k) (old := cap) (bytes := i.bytes) hroom (by
    have := Nat.mul_le_mul hsm hby
    omega)
  have h48' : ¬ (281474976710656 < Builtin.nextslicecap (l + k) cap * i.bytes) := by omega
  rcases hu with ⟨e', hk⟩ | hk <;>
    (simp [Builtin.append_, ht0, ht1, run_underlying ht, run_underlying hk, sizeOf, typeInfo, zeroValue, hi, hz, hl, hn, h63', h48', Question.forced, hx, ho, newRow, grownCap]
     congr 2
     apply Array.ext'
     simp [List.append_assoc])
theorem size_zeroCells (z : Array Value) (k : Nat) : (Builtin.zeroCells z k).size = k * z.size := by simp [Builtin.zeroCells]
theorem le_grownCap (w : World) (need old : Nat) (e : TypeId) : need ≤ grownCap w need old e := by unfold grownCap Question.cut; exact Nat.le_add_right _ _
/-- the new row of an append that found no room -/
theorem sound_new {e : TypeId} {i : TypeInfo} {z : Value} {l k cap : Nat} {old new old' new' : List Value} (x : WR P m base h w.heap) (hb : base ≤ w.heap.size) (hf : Fresh m n n1) (hi : P.info? e = some i) (hzs : z.cells.size = i.size) (ho : VRs m old old') (hn : VRs m new new') (hol : old.length = l * i.size) (hnl : new.length = k * i.size)
    (hr : evNew e l k old new h n = some ⟨r, h1, n1, L⟩) : ∃ m', Post P m base n n1 w h1 m' (w.drew.alloc (.cells ((old' ++ new').toArray ++ Builtin.zeroCells z.cells (grownCap w (l + k) cap e - (l + k))) e)) ∧
      VR m' r (.slice (some ⟨w.heap.size, 0, none⟩) (l + k) (grownCap w (l + k) cap e)) := by
  unfold evNew at hr
  obtain ⟨id, h2, n2, L1, L2, e1, e2, _⟩ := bind_some hr
  obtain ⟨rfl, rfl, rfl⟩ := ret_some e2
  have hc := le_grownCap w (l + k) cap e
  have hon := ho.append hn
  have hlen := hon.length
  obtain ⟨rfl, rfl, m', hm', hp⟩ := newB_at (w := w.drew) (P := P) (m := m) (base := base) x e1 hf hb (cs' := (old' ++ new').toArray ++ Builtin.zeroCells z.cells (grownCap w (l + k) cap e - (l + k))) (by simp at hlen ⊢; omega) (fun j v hj => by
    obtain ⟨v', hv', hr'⟩ := hon.get j v hj
    refine ⟨v', ?_, hr'⟩
    have : j < (old' ++ new').length := by
      rcases Nat.lt_or_ge j (old' ++ new').length with q | q
      · exact q
      · rw [List.getElem?_eq_none q] at hv'; cases hv'
    rw [Array.getElem?_append_left (by simpa using this)]
    simpa using hv') (esz := i.size) (by simp [size?, hi])
  refine ⟨m', ⟨hp.le, hp.out, hp.wr, (Below.drew (Below.refl base w)).trans hp.below⟩, VR.slc hm' (fun _ => rfl) (fun q => by unfold CAP at q; omega) (fun _ => ⟨Nat.le_refl _, by omega⟩) hc ?_⟩
  simp only [Array.size_append, size_zeroCells, hzs, List.size_toArray, ← hlen, List.length_append, hol, hnl]
  rw [← Nat.add_mul, ← Nat.add_mul, Nat.zero_add]
  exact Nat.le_of_eq (by congr 1; omega)
theorem sound_append {ats : Array TypeId} {t u ty : TypeId} {s s' x x' : Value} (ht0 : ats[0]? = some t) (ht1 : ats[1]? = some u) (hu : (∃ e', P.underlying u = some (.slice e')) ∨ P.underlying u = some .string) (hs : VR m s s') (hx : VR m x x') (wr : WR P m base h w.heap) (hb : base ≤ w.heap.size) (hf : Fresh m n n1)
    (hr : evAppend P t s x h n = some ⟨r, h1, n1, L⟩) : Sound P base m w h n (Builtin.append_ ats ty #[s', x']) r h1 n1 := by
  unfold evAppend at hr
  cases ht : P.underlying t with
  | none => rw [ht] at hr; cases hr
  | some dt =>
    rw [ht] at hr
    cases dt <;> try (cases hr; done)
    rename_i e
    simp only at hr
    cases hi : P.info? e with
    | none => rw [hi] at hr; cases hr
    | some ie =>
      cases hz : zero? P e with
      | none => rw [hi, hz] at hr; cases hr
      | some z =>
        cases hl : lenOf? x with
        | none => rw [hi, hz, hl] at hr; cases hr
        | some k =>
          rw [hi, hz, hl] at hr
          simp only at hr
          obtain ⟨i2, hi2, hz2⟩ := zero_info hz
          rw [hi] at hi2; cases hi2
          split at hr
          · rename_i hcond
            simp only [Bool.and_eq_true, decide_eq_true_eq] at hcond
            obtain ⟨⟨hzs, hsz1⟩, hby⟩ := hcond
            by_cases hk : k = 0
            · rw [if_pos hk] at hr
              subst hk
              cases hs <;> try (cases hr; done)
              case snil l cap hcap =>
                obtain ⟨rfl, rfl, rfl⟩ := ret_some hr
                refine ⟨m, w, .slice none l cap, ?_, Post.refl wr, .snil _ _ hcap⟩
                have hx0 : (Builtin.firstCells ie.size 0 x').run P w = .ok #[] w := by
                  cases hx <;> simp [lenOf?] at hl <;> simp [Builtin.firstCells, loadCells, loadCellsFrom]
                have := run_lenOf (P := P) hx hl w
                rcases hu with ⟨e', hk⟩ | hk <;> simp [Builtin.append_, ht0, ht1, run_underlying ht, run_underlying hk, sizeOf, typeInfo, hi, this, hcap.1, hx0]
              case semp b off s a' =>
                obtain ⟨rfl, rfl, rfl⟩ := ret_some hr
                refine ⟨m, w, .slice (some a') 0 0, ?_, Post.refl wr, .semp _ _ _ _⟩
                have hx0 : (Builtin.firstCells ie.size 0 x').run P w = .ok #[] w := by
                  cases hx <;> simp [lenOf?] at hl <;> simp [Builtin.firstCells, loadCells, loadCellsFrom]
                have := run_lenOf (P := P) hx hl w
                rcases hu with ⟨e', hk⟩ | hk <;> simp [Builtin.append_, ht0, ht1, run_underlying ht, run_underlying hk, sizeOf, typeInfo, hi, this, hx0, storeCells]
              case slc b off l cap cap' o' d hd ho c1 c2 c3 c4 =>
                obtain ⟨rfl, rfl, rfl⟩ := ret_some hr
                refine ⟨m, w, _, ?_, Post.refl wr, .slc hd ho c1 c2 c3 c4⟩
                have hx0 : (Builtin.firstCells ie.size 0 x').run P w = .ok ([] : List Value).toArray w := by
                  cases hx <;> simp [lenOf?] at hl <;> simp [Builtin.firstCells, loadCells, loadCellsFrom]
                have := run_append_in (P := P) (ty := ty) ht0 ht1 ht hu hi (run_lenOf (P := P) hx hl w) (b := d.blk) (off := o') (l := l) (cap := cap') (by omega) hx0 (w' := w) rfl
                simpa using this
            · rw [if_neg hk] at hr
              have hk0 : 0 < k := by omega
              cases hs <;> try (cases hr; done)
              case snil l cap hcap =>
                cases l <;> try (cases hr; done)
                cases cap <;> try (cases hr; done)
                simp only at hr
                split at hr
                · rename_i hk64
                  obtain ⟨new, h2, n2, L1, L2, e1, e2, _⟩ := bind_some hr
                  obtain ⟨rfl, rfl, new', hn, hfc⟩ := elems_at hx hl hk0 wr e1
                  split at e2
                  · rename_i hc
                    simp only [Bool.and_eq_true, decide_eq_true_eq] at hc
                    obtain ⟨m', hp, hv⟩ := sound_new (cap := 0) (old := []) (old' := []) (l := 0) wr hb hf hi hzs .nil hn (by simp) hc.1 e2
                    refine ⟨m', _, _, ?_, hp, hv⟩
                    exact run_append_out (P := P) ht0 ht1 ht hu hi hz2 (run_lenOf (P := P) hx hl w) (by omega) (by omega) hby (hfc _ rfl) (by simp [Builtin.firstCells])
                  · cases e2
                · cases hr
              case slc b off l cap cap' o' d hd ho c1 c2 c3 c4 =>
                simp only at hr
                split at hr
                · rename_i hk64
                  obtain ⟨e', h2, n2, L1, L2, e1, e2, _⟩ := bind_some hr
                  obtain ⟨rfl, rfl, d2, hd2, hes, B0, hB0, hBe⟩ := hdr_at wr e1
                  rw [hd] at hd2; cases hd2
                  split at e2
                  · rename_i he
                    subst he
                    have hes2 : ie.size = d.esz := by simpa [size?, hi] using hes
                    obtain ⟨new, h3, n3, L3, L4, e3, e4, _⟩ := bind_some e2
                    obtain ⟨rfl, rfl, new', hn, hfc⟩ := elems_at hx hl hk0 wr e3
                    split at e4
                    · rename_i hc
                      simp only [Bool.and_eq_true, decide_eq_true_eq] at hc
                      obtain ⟨hnl, hnone⟩ := hc
                      have hnl' : new'.length = k * ie.size := by rw [← hn.length]; exact hnl
                      have hone' : ∀ v ∈ new', Ev.one v = true := by
                        intro v hv
                        obtain ⟨j, hj⟩ := List.mem_iff_getElem?.1 hv
                        have hjl : j < new.length := by
                          rw [hn.length]
                          exact (List.getElem?_eq_some_iff.1 hj).1
                        obtain ⟨v2, hv2, hr2⟩ := hn.get j new[j] (by simp [hjl])
                        rw [hj] at hv2; cases hv2
                        rw [hr2.one]
                        exact List.all_eq_true.1 hnone _ (List.getElem_mem hjl)
                      unfold evAppendTo at e4
                      by_cases hcap : cap < CAP
                      · rw [if_pos hcap] at e4
                        have hcc := c1 hcap
                        subst hcc
                        have hoo := ho (.inr hcap)
                        subst hoo
                        by_cases hroom : l + k ≤ cap'
                        · rw [if_pos hroom] at e4
                          obtain ⟨uu, h5, n5, L5, L6, e5, e6, _⟩ := bind_some e4
                          obtain ⟨rfl, rfl, rfl⟩ := ret_some e6
                          cases uu
                          obtain ⟨rfl, w', hst, x2, hbl⟩ := wrN_at hd hn (i := 0) (d.sh + off + l * ie.size) (by omega) wr e5
                          refine ⟨m, w', _, ?_, ⟨Le.refl _, fun _ _ => rfl, x2, hbl⟩, .slc hd (fun _ => rfl) (fun _ => rfl) (fun q => by omega) (by omega) c4⟩
                          exact run_append_in (P := P) ht0 ht1 ht hu hi (run_lenOf (P := P) hx hl w) hroom (hfc w rfl) hst
                        · rw [if_neg hroom] at e4
                          obtain ⟨old, h5, n5, L5, L6, e5, e6, _⟩ := bind_some e4
                          obtain ⟨rfl, rfl, hol, old', hov, hoc⟩ := rdN_at wr hd e5
                          obtain ⟨m', hp, hv⟩ := sound_new (cap := cap') wr hb hf hi hzs hov hn hol hnl e6
                          refine ⟨m', _, _, ?_, hp, hv⟩
                          refine run_append_out (P := P) ht0 ht1 ht hu hi hz2 (run_lenOf (P := P) hx hl w) (by omega) hk64 hby (hfc _ rfl) ?_
                          have := run_loadCells_of (P := P) (w := w.drew) (c := d.blk) (o := d.sh + off) (vs := old') hoc
                          rw [← hov.length, hol] at this
                          simpa [Builtin.firstCells] using this
                      · rw [if_neg hcap] at e4
                        obtain ⟨old, h5, n5, L5, L6, e5, e6, _⟩ := bind_some e4
                        obtain ⟨rfl, rfl, hol, old', hov, hoc⟩ := rdN_at wr hd e5
                        obtain ⟨uu, h7, n7, L7, L8, e7, e8, _⟩ := bind_some e6
                        unfold kill at e7
                        split at e7
                        · split at e7
                          · rename_i hbn _ B hB
                            split at e7
                            · rename_i hown
                              simp only [Option.some.injEq, Out.mk.injEq] at e7
                              obtain ⟨_, rfl, rfl, _⟩ := e7
                              have xk := wr.kill hB
                              -- what the old row reads as
                              have hoc' : ∀ (w2 : World), w2.heap = w.heap → (Builtin.firstCells ie.size l (.slice (some ⟨d.blk, o', none⟩) l cap')).run P w2 = .ok old'.toArray w2 := by
                                intro w2 hw2
                                have hq : ∀ j v, old'[j]? = some v → w2.cell? ⟨d.blk, o' + j, none⟩ = some v := by
                                  intro j v hj
                                  have hjl : j < old'.length := (List.getElem?_eq_some_iff.1 hj).1
                                  have hl0 : 0 < l := by
                                    rcases Nat.eq_zero_or_pos l with q | q
                                    · rw [← hov.length, hol, q] at hjl; simp at hjl
                                    · exact q
                                  rw [ho (.inl hl0)]
                                  have := hoc j v hj
                                  unfold World.cell? at this ⊢
                                  rw [hw2]; exact this
                                have := run_loadCells_of (P := P) hq
                                rw [← hov.length, hol] at this
                                simpa [Builtin.firstCells] using this
                              by_cases hroom : l + k ≤ cap'
                              · -- there is room: the same block goes on
                                obtain ⟨dB, cs, lo, hi2, b1, b2, b3, b4, b5, b6, b7⟩ := wr.live b B hB
                                rw [hd] at b1; cases b1
                                obtain ⟨hel, hbase, hfr⟩ := b6 hown
                                have hmul : l * d.esz + k * d.esz ≤ cap' * d.esz := by rw [← Nat.add_mul]; exact Nat.mul_le_mul_right _ hroom
                                obtain ⟨w', cs', s1, s2, s3, s4, s5, s6⟩ := run_store_raw (P := P) (base := base) (o := o' + l * ie.size) new' 0 w cs b2 (fun j hj => by
                                  rw [hnl', hes2] at hj
                                  rw [hes2]
                                  exact ⟨by omega, hfr _ (by omega)⟩) hone' hbase
                                unfold evNew at e8
                                obtain ⟨id, h9, n9, L9, L10, e9, e10, _⟩ := bind_some e8
                                obtain ⟨rfl, rfl, rfl⟩ := ret_some e10
                                unfold newB at e9
                                split at e9
                                · rename_i hn65
                                  simp only [Option.some.injEq, Out.mk.injEq] at e9
                                  obtain ⟨rfl, rfl, rfl, _⟩ := e9
                                  have hBB : B.elem = e' := by rw [hB] at hB0; cases hB0; exact hBe
                                  rw [hel, hBB] at s2
                                  have hn0 : m n5 = none := hf n5 (Nat.le_refl _) (by omega)
                                  obtain ⟨m', hm'⟩ : ∃ m' : Mp, m' = fun q => if q = n5 then some ⟨d.blk, o', d.tot, d.esz, e'⟩ else m q := ⟨_, rfl⟩
                                  have hmn : m' n5 = some ⟨d.blk, o', d.tot, d.esz, e'⟩ := by rw [hm']; simp
                                  have hmo : ∀ q, q ≠ n5 → m' q = m q := fun q hq => by rw [hm']; simp [hq]
                                  have hle : Le m m' := fun q dd hq => by
                                    by_cases e : q = n5
                                    · subst e; rw [hn0] at hq; cases hq
                                    · rw [hmo q e]; exact hq
                                  refine ⟨m', w', .slice (some ⟨d.blk, o', none⟩) (l + k) cap', ?_, ⟨hle, fun q hq => hmo q (by omega), ⟨?_, ?_⟩, s6⟩, VR.slc (d := ⟨d.blk, o', d.tot, d.esz, e'⟩) hmn (fun _ => rfl) (fun q => by unfold CAP at *; omega) (fun _ => ⟨Nat.le_refl _, by omega⟩) hroom c4⟩
                                  · exact run_append_in (P := P) ht0 ht1 ht hu hi (run_lenOf (P := P) hx hl w) hroom (hfc w rfl) s1
                                  · intro q B2 hq
                                    rw [H.get_set _ _] at hq
                                    by_cases e : q = n5
                                    · subst e
                                      rw [if_pos rfl] at hq
                                      cases hq
                                      refine ⟨_, cs', lo, hi2, hmn, s2, by rw [s3, b3], ?_, hes, fun _ => ⟨rfl, hbase, hfr⟩, fun j v hj => ?_⟩
                                      · simp only [List.length_append, hol, hnl, hes2]; omega
                                      · obtain ⟨v', hv', hr'⟩ := (hov.append hn).get j v hj
                                        refine ⟨v', ?_, hr'.mono hle⟩
                                        show cs'[o' + j]? = _
                                        rw [s4]
                                        have hol' : old'.length = l * ie.size := by rw [← hov.length, hol]
                                        by_cases hjl : j < old'.length
                                        · rw [if_neg (by rw [hol'] at hjl; omega)]
                                          rw [List.getElem?_append_left hjl] at hv'
                                          have hl0 : 0 < l := by
                                            rcases Nat.eq_zero_or_pos l with q | q
                                            · rw [hol', q] at hjl; simp at hjl
                                            · exact q
                                          have := hoc j v' hv'
                                          rw [cell_eq w _ _ b2] at this
                                          rw [ho (.inl hl0)]
                                          exact this
                                        · have hjl2 : j < (old' ++ new').length := (List.getElem?_eq_some_iff.1 hv').1
                                          rw [List.getElem?_append_right (by omega)] at hv'
                                          simp only [List.length_append] at hjl2
                                          rw [if_pos (by omega)]
                                          rw [← hv', hol']
                                          congr 1
                                          omega
                                    · rw [if_neg e] at hq
                                      obtain ⟨d3, cs3, lo3, hi3, g1, g2, g3, g4, g5, g6, g7⟩ := xk.live q B2 hq
                                      have hqb : q ≠ b ∧ h5.get q = some B2 := by
                                        rw [H.get_set _ _] at hq
                                        by_cases e3 : q = b
                                        · rw [if_pos e3] at hq; cases hq
                                        · rw [if_neg e3] at hq; exact ⟨e3, hq⟩
                                      have hne : d3.blk ≠ d.blk := fun e3 => hqb.1 (wr.inj q b B2 B d3 d hqb.2 hB (.inr hown) g1 hd e3)
                                      refine ⟨d3, cs3, lo3, hi3, hle _ _ g1, by rw [s5 _ hne]; exact g2, g3, g4, g5, g6, fun j v hj => ?_⟩
                                      obtain ⟨v', hv', hr'⟩ := g7 j v hj
                                      exact ⟨v', hv', hr'.mono hle⟩
                                  · intro q q' B2 B3 d2 d3 hq hq' hoo hm2 hm3 hbe
                                    rw [H.get_set _ _] at hq hq'
                                    have key : ∀ q B2 d2, q ≠ n5 → (h5.set b none).get q = some B2 → m' q = some d2 → d2.blk ≠ d.blk := by
                                      intro q B2 d2 hqn hq hm2 hbe
                                      rw [H.get_set _ _] at hq
                                      by_cases e3 : q = b
                                      · rw [if_pos e3] at hq; cases hq
                                      · rw [if_neg e3] at hq
                                        rw [hmo q hqn] at hm2
                                        exact e3 (wr.inj q b B2 B d2 d hq hB (.inr hown) hm2 hd hbe)
                                    by_cases e1 : q = n5
                                    · by_cases e2 : q' = n5
                                      · rw [e1, e2]
                                      · rw [if_neg e2] at hq'
                                        subst e1
                                        rw [hmn] at hm2; cases hm2
                                        exact absurd hbe.symm (key q' B3 d3 e2 hq' hm3)
                                    · rw [if_neg e1] at hq
                                      by_cases e2 : q' = n5
                                      · subst e2
                                        rw [hmn] at hm3; cases hm3
                                        exact absurd hbe (key q B2 d2 e1 hq hm2)
                                      · rw [if_neg e2] at hq'
                                        rw [hmo q e1] at hm2
                                        rw [hmo q' e2] at hm3
                                        exact xk.inj q q' B2 B3 d2 d3 hq hq' hoo hm2 hm3 hbe
                                · cases e9
                              · -- there is none: a new row
                                obtain ⟨m', hp, hv⟩ := sound_new (cap := cap') xk hb hf hi hzs hov hn hol hnl e8
                                refine ⟨m', _, _, ?_, hp, hv⟩
                                exact run_append_out (P := P) ht0 ht1 ht hu hi hz2 (run_lenOf (P := P) hx hl w) (by omega) hk64 hby (hfc _ rfl) (hoc' _ rfl)
                            · cases e7
                          · cases e7
                        · cases e7
                    · cases e4
                  · cases e2
                · cases hr
          · cases hr
/-- copying -/
theorem sound_copy {ats : Array TypeId} {t ty : TypeId} {d d' s s' : Value} (ht0 : ats[0]? = some t) (hd : VR m d d') (hs : VR m s s') (wr : WR P m base h w.heap) (hr : evCopy P t d s h n = some ⟨r, h1, n1, L⟩) :
    Sound P base m w h n (Builtin.copy_ ats ty #[d', s']) r h1 n1 := by
  unfold evCopy at hr
  cases hue : P.underlying t with
  | none => rw [hue] at hr; cases hr
  | some du =>
    rw [hue] at hr
    cases du <;> try (cases hr; done)
    rename_i e
    simp only at hr
    cases hsz : size? P e with
    | none => rw [hsz] at hr; cases hr
    | some sz =>
      cases hsl : lenOf? s with
      | none => rw [hsz, hsl] at hr; cases hd <;> cases hr
      | some sl =>
        rw [hsz, hsl] at hr
        have hlen := run_lenOf (P := P) hs hsl w
        have zero : ∀ dl, ¬ 0 < Nat.min sl dl → Nat.min sl dl = 0 ∧ (Builtin.firstCells sz (Nat.min sl dl) s').run P w = .ok #[] w := by
          intro dl h0
          have h0' : Nat.min sl dl = 0 := by omega
          refine ⟨h0', ?_⟩
          rw [h0']
          cases hs <;> simp [lenOf?] at hsl <;> simp [Builtin.firstCells, loadCells, loadCellsFrom]
        cases hd with
        | snil dl cap hc =>
          simp only at hr
          by_cases h0 : 0 < Nat.min sl dl
          · rw [if_pos h0] at hr; cases hr
          · rw [if_neg h0] at hr
            obtain ⟨rfl, rfl, rfl⟩ := ret_some hr
            obtain ⟨z1, z2⟩ := zero dl h0
            refine ⟨m, w, _, ?_, Post.refl wr, .int _ _⟩
            rw [z1] at z2
            simp [Builtin.copy_, ht0, run_underlying hue, run_sizeOf hsz, hlen, z1, z2, goInt]
        | semp b off sp a' =>
          simp only at hr
          by_cases h0 : 0 < Nat.min sl 0
          · rw [if_pos h0] at hr; cases hr
          · rw [if_neg h0] at hr
            obtain ⟨rfl, rfl, rfl⟩ := ret_some hr
            obtain ⟨z1, z2⟩ := zero 0 h0
            refine ⟨m, w, _, ?_, Post.refl wr, .int _ _⟩
            rw [z1] at z2
            simp [Builtin.copy_, ht0, run_underlying hue, run_sizeOf hsz, hlen, z1, z2, goInt, storeCells]
        | @slc b off dl cap cap' o' dd hdd ho c1 c2 c3 c4 =>
          simp only at hr
          by_cases h0 : 0 < Nat.min sl dl
          · rw [if_pos h0] at hr
            obtain ⟨vs, h2, n2, L1, L2, e1, e2, _⟩ := bind_some hr
            have hsl0 : 0 < sl := Nat.lt_of_lt_of_le h0 (Nat.min_le_left _ _)
            have hdl0 : 0 < dl := Nat.lt_of_lt_of_le h0 (Nat.min_le_right _ _)
            obtain ⟨rfl, rfl, vs', hvs, hfc⟩ := elems_at hs hsl hsl0 wr e1
            obtain ⟨u, h3, n3, L3, L4, e3, e4, _⟩ := bind_some e2
            obtain ⟨rfl, rfl, rfl⟩ := ret_some e4
            cases u
            obtain ⟨rfl, w', hst, x2, hbl⟩ := wrN_at hdd hvs (i := 0) (dd.sh + off) (by omega) wr e3
            refine ⟨m, w', _, ?_, ⟨Le.refl _, fun _ _ => rfl, x2, hbl⟩, .int _ _⟩
            have hf := hfc w rfl
            rw [← ho (.inl hdl0)] at hst
            simp [Builtin.copy_, ht0, run_underlying hue, run_sizeOf hsz, hlen, hf, hst, goInt]
          · rw [if_neg h0] at hr
            obtain ⟨rfl, rfl, rfl⟩ := ret_some hr
            obtain ⟨z1, z2⟩ := zero dl h0
            refine ⟨m, w, _, ?_, Post.refl wr, .int _ _⟩
            rw [z1] at z2
            simp [Builtin.copy_, ht0, run_underlying hue, run_sizeOf hsz, hlen, z1, z2, goInt, storeCells]
        | _ => cases hr
end
end Go.Proofs.YtmjolmggelkjlaaGreat.Ev

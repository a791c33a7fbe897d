/- Append, all operations, calls: what the evaluator finds of a closed call holds of every run. No program in sight. -/
import Derived.Test.YtmjolmggelkjlaaGreatMab
import Derived.Laws.StructEq
import Derived.Test.YtmjolmggelkjlaaGreatMaa
namespace Go.Proofs.YtmjolmggelkjlaaGreat.Ev
set_option linter.unusedVariables false
set_option linter.unusedSimpArgs false
open Go Go.RowKit

section
variable {P : Program} {base : Nat} {m : Mp} {w : World} {h h1 : H} {n n1 : Nat} {r : Value} {L : List En}
theorem run_lenOf {x x' : Value} {k : Nat} (hx : VR m x x') (hl : lenOf? x = some k) (w : World) : (Builtin.lenOf x').run P w = .ok k w := by
  cases hx <;> simp [lenOf?] at hl <;> subst hl <;> rfl
theorem elems_at {sz k j0 : Nat} {x x' : Value} {vs : List Value} (hx : VR m x x') (hl : lenOf? x = some k) (h0 : 0 < k) (wr : WR P m base h w.heap) (hr : elemsOf sz j0 x h n = some ⟨vs, h1, n1, L⟩) :
    h1 = h ∧ n1 = n ∧ ∃ vs', VRs m vs vs' ∧ ∀ w2 : World, w2.heap = w.heap → (Builtin.firstCells sz j0 x').run P w2 = .ok vs'.toArray w2 := by
  unfold elemsOf at hr
  split at hr
  · rename_i b off l c
    simp [lenOf?] at hl
    subst hl
    cases hx with
    | @slc _ _ _ _ cap' o' d hd ho c1 c2 c3 c4 =>
      obtain ⟨rfl, rfl, hlen, vs', hvs, hcs⟩ := rdN_at wr hd hr
      refine ⟨rfl, rfl, vs', hvs, fun w2 hw2 => ?_⟩
      have hl2 : vs'.length = j0 * sz := by rw [← hvs.length, hlen]
      have := run_loadCells_of (P := P) (w := w2) (c := d.blk) (o := d.sh + off) (vs := vs') (fun j v hj => by
        have := hcs j v hj
        unfold World.cell? at this ⊢
        rw [hw2]; exact this)
      rw [hl2] at this
      simp only [Builtin.firstCells, ho (.inl h0)]
      exact this
  · rename_i s
    simp [lenOf?] at hl
    subst hl
    cases hx
    obtain ⟨rfl, rfl, rfl⟩ := ret_some hr
    refine ⟨rfl, rfl, _, VRs.of_get rfl (fun j v hj => ⟨v, hj, ?_⟩), fun w2 _ => by
      simp [Builtin.firstCells]
      apply Array.ext'
      simp⟩
    have hm := List.mem_of_getElem? hj
    simp only [ByteArray.data_extract, Array.map_extract, Array.toList_extract, List.extract_eq_take_drop, List.drop_zero, Array.toList_map] at hm
    have hm := List.mem_of_mem_take hm
    simp at hm
    obtain ⟨b, _, rfl⟩ := hm
    exact .int _ _
  · cases hr
theorem run_store_raw {c o : Nat} {e : TypeId} {lo hi : Nat} : ∀ (vs : List Value) (i : Nat) (w : World) (cs : Array Value), w.heap[c]? = some (.cells cs e (lo, hi)) → (∀ j, j < vs.length → o + i + j < cs.size ∧ ¬ (lo ≤ o + i + j ∧ o + i + j < hi)) → (∀ v ∈ vs, Ev.one v = true) → base ≤ c →
    ∃ w' cs', (storeCells ⟨c, o, none⟩ vs i).run P w = .ok () w' ∧ w'.heap[c]? = some (.cells cs' e (lo, hi)) ∧ cs'.size = cs.size ∧ (∀ j, cs'[j]? = if o + i ≤ j ∧ j < o + i + vs.length then vs[j - (o + i)]? else cs[j]?) ∧ (∀ b, b ≠ c → w'.heap[b]? = w.heap[b]?) ∧ Below base w w' := by
  intro vs
  induction vs with
  | nil => intro i w cs hg _ _ _; exact ⟨w, cs, rfl, hg, rfl, fun j => by rw [if_neg (by simp)], fun _ _ => rfl, Below.refl _ _⟩
  | cons v vs ih =>
    intro i w cs hg hin h1 hb
    obtain ⟨hlt, hfr⟩ := hin 0 (by simp)
    have hset : (w.setCell ⟨c, o + i, none⟩ v).heap[c]? = some (.cells (cs.setIfInBounds (o + i) v) e (lo, hi)) := by
      simp only [World.setCell, Array.getElem?_modify, if_true, hg]
      simp
    obtain ⟨w', cs', a1, a2, a3, a4, a5, a6⟩ := ih (i + 1) (w.setCell ⟨c, o + i, none⟩ v) _ hset (fun j hj => by
      have := hin (j + 1) (by simpa using hj)
      rw [show o + (i + 1) + j = o + i + (j + 1) by omega]
      simpa using this) (fun u hu => h1 u (by simp [hu])) hb
    refine ⟨w', cs', ?_, a2, by rw [a3]; simp, fun j => ?_, fun b hbc => ?_, ((Below.refl base w).setCell (p := ⟨c, o + i, none⟩) hb _).trans a6⟩
    · unfold storeCells
      rw [add0]
      show (Sem.bind (store _ _) _).run P w = _
      unfold store
      simp only [Sem.bind]
      rw [run_store_one (by rw [cell_eq w _ _ hg]; simpa using hlt) (by
        unfold World.frozen?
        simp only [hg, Bool.and_eq_false_iff, decide_eq_false_iff_not]
        omega) (h1 v (by simp))]
      exact a1
    · rw [a4 j]
      simp only [List.length_cons]
      by_cases hj : o + (i + 1) ≤ j ∧ j < o + (i + 1) + vs.length
      · rw [if_pos hj, if_pos (by omega)]
        rw [show j - (o + i) = (j - (o + (i + 1))) + 1 by omega]
        simp
      · rw [if_neg hj]
        by_cases e2 : j = o + i
        · subst e2
          rw [if_pos (by omega)]
          simp at hlt
          simp [hlt]
        · rw [if_neg (by omega), Array.getElem?_setIfInBounds_ne (by omega)]
    · rw [a5 b hbc, Below.heap_setCell w _ _ _ hbc]
theorem run_append_in {ats : Array TypeId} {t u ty e : TypeId} {i : TypeInfo} {x : Value} {k : Nat} {news : List Value} {b off l cap : Nat} {w' : World} (ht0 : ats[0]? = some t) (ht1 : ats[1]? = some u) (ht : P.underlying t = some (.slice e)) (hu : (∃ e', P.underlying u = some (.slice e')) ∨ P.underlying u = some .string) (hi : P.info? e = some i)
    (hl : (Builtin.lenOf x).run P w = .ok k w) (hroom : l + k ≤ cap) (hx : (Builtin.firstCells i.size k x).run P w = .ok news.toArray w) (hst : (storeCells ⟨b, off + l * i.size, none⟩ news).run P w = .ok () w') :
    (Builtin.append_ ats ty #[.slice (some ⟨b, off, none⟩) l cap, x]).run P w = .ok (.slice (some ⟨b, off, none⟩) (l + k) cap) w' := by
  rcases hu with ⟨e', hk⟩ | hk <;> simp [Builtin.append_, ht0, ht1, run_underlying ht, run_underlying hk, sizeOf, typeInfo, hi, hl, hroom, hx, add0, hst]
theorem run_append_out {ats : Array TypeId} {t u ty e : TypeId} {i : TypeInfo} {z : Value} {x : Value} {k : Nat} {olds news : List Value} {bo : Option Addr} {l cap : Nat} (ht0 : ats[0]? = some t) (ht1 : ats[1]? = some u) (ht : P.underlying t = some (.slice e)) (hu : (∃ e', P.underlying u = some (.slice e')) ∨ P.underlying u = some .string) (hi : P.info? e = some i) (hz : i.zero = some z)
    (hl : (Builtin.lenOf x).run P w = .ok k w) (hroom : cap < l + k) (hsm : l + k ≤ 1099511627776) (hby : i.bytes ≤ 64) (hx : (Builtin.firstCells i.size k x).run P w.drew = .ok news.toArray w.drew) (ho : (Builtin.firstCells i.size l (.slice bo l cap)).run P w.drew = .ok olds.toArray w.drew) :
    (Builtin.append_ ats ty #[.slice bo l cap, x]).run P w = .ok (.slice (some ⟨w.heap.size, 0, none⟩) (l + k) (grownCap w (l + k) cap e))
      (w.drew.alloc (.cells ((olds ++ news).toArray ++ Builtin.zeroCells z.cells (grownCap w (l + k) cap e - (l + k))) e)) := by
  have hn : ¬ (l + k ≤ cap) := by omega
  have h63' : ¬ (9223372036854775807 < ((l : Int) + (k : Int))) := by omega
  have hfit := growslice_fits (need := l + k) (old := cap) (bytes := i.bytes) hroom (by
    have := Nat.mul_le_mul hsm hby
    omega)
  have h48' : ¬ (281474976710656 < Builtin.nextslicecap (l + k) cap * i.bytes) := by omega
  rcases hu with ⟨e', hk⟩ | hk <;>
    (simp [Builtin.append_, ht0, ht1, run_underlying ht, run_underlying hk, sizeOf, typeInfo, zeroValue, hi, hz, hl, hn, h63', h48', Question.forced, hx, ho, newRow, grownCap]
     congr 2
     apply Array.ext'
     simp [List.append_assoc])
theorem size_zeroCells (z : Array Value) (k : Nat) : (Builtin.zeroCells z k).size = k * z.size := by simp [Builtin.zeroCells]
theorem le_grownCap (w : World) (need old : Nat) (e : TypeId) : need ≤ grownCap w need old e := by unfold grownCap Question.cut; exact Nat.le_add_right _ _
/-- the new row of an append that found no room -/
theorem sound_new {e : TypeId} {i : TypeInfo} {z : Value} {l k cap : Nat} {old new old' new' : List Value} (x : WR P m base h w.heap) (hb : base ≤ w.heap.size) (hf : Fresh m n n1) (hi : P.info? e = some i) (hzs : z.cells.size = i.size) (ho : VRs m old old') (hn : VRs m new new') (hol : old.length = l * i.size) (hnl : new.length = k * i.size)
    (hr : evNew e l k old new h n = some ⟨r, h1, n1, L⟩) : ∃ m', Post P m base n n1 w h1 m' (w.drew.alloc (.cells ((old' ++ new').toArray ++ Builtin.zeroCells z.cells (grownCap w (l + k) cap e - (l + k))) e)) ∧
      VR m' r (.slice (some ⟨w.heap.size, 0, none⟩) (l + k) (grownCap w (l + k) cap e)) := by
  unfold evNew at hr
  obtain ⟨id, h2, n2, L1, L2, e1, e2, _⟩ := bind_some hr
  obtain ⟨rfl, rfl, rfl⟩ := ret_some e2
  have hc := le_grownCap w (l + k) cap e
  have hon := ho.append hn
  have hlen := hon.length
  obtain ⟨rfl, rfl, m', hm', hp⟩ := newB_at (w := w.drew) (P := P) (m := m) (base := base) x e1 hf hb (cs' := (old' ++ new').toArray ++ Builtin.zeroCells z.cells (grownCap w (l + k) cap e - (l + k))) (by simp at hlen ⊢; omega) (fun j v hj => by
    obtain ⟨v', hv', hr'⟩ := hon.get j v hj
    refine ⟨v', ?_, hr'⟩
    have : j < (old' ++ new').length := by
      rcases Nat.lt_or_ge j (old' ++ new').length with q | q
      · exact q
      · rw [List.getElem?_eq_none q] at hv'; cases hv'
    rw [Array.getElem?_append_left (by simpa using this)]
    simpa using hv') (esz := i.size) (by simp [size?, hi])
  refine ⟨m', ⟨hp.le, hp.out, hp.wr, (Below.drew (Below.refl base w)).trans hp.below⟩, VR.slc hm' (fun _ => rfl) (fun q => by unfold CAP at q; omega) (fun _ => ⟨Nat.le_refl _, by omega⟩) hc ?_⟩
  simp only [Array.size_append, size_zeroCells, hzs, List.size_toArray, ← hlen, List.length_append, hol, hnl]
  rw [← Nat.add_mul, ← Nat.add_mul, Nat.zero_add]
  exact Nat.le_of_eq (by congr 1; omega)
theorem sound_append {ats : Array TypeId} {t u ty : TypeId} {s s' x x' : Value} (ht0 : ats[0]? = some t) (ht1 : ats[1]? = some u) (hu : (∃ e', P.underlying u = some (.slice e')) ∨ P.underlying u = some .string) (hs : VR m s s') (hx : VR m x x') (wr : WR P m base h w.heap) (hb : base ≤ w.heap.size) (hf : Fresh m n n1)
    (hr : evAppend P t s x h n = some ⟨r, h1, n1, L⟩) : Sound P base m w h n (Builtin.append_ ats ty #[s', x']) r h1 n1 := by
  unfold evAppend at hr
  cases ht : P.underlying t with
  | none => rw [ht] at hr; cases hr
  | some dt =>
    rw [ht] at hr
    cases dt <;> try (cases hr; done)
    rename_i e
    simp only at hr
    cases hi : P.info? e with
    | none => rw [hi] at hr; cases hr
    | some ie =>
      cases hz : zero? P e with
      | none => rw [hi, hz] at hr; cases hr
      | some z =>
        cases hl : lenOf? x with
        | none => rw [hi, hz, hl] at hr; cases hr
        | some k =>
          rw [hi, hz, hl] at hr
          simp only at hr
          obtain ⟨i2, hi2, hz2⟩ := zero_info hz
          rw [hi] at hi2; cases hi2
          split at hr
          · rename_i hcond
            simp only [Bool.and_eq_true, decide_eq_true_eq] at hcond
            obtain ⟨⟨hzs, hsz1⟩, hby⟩ := hcond
            by_cases hk : k = 0
            · rw [if_pos hk] at hr
              subst hk
              cases hs <;> try (cases hr; done)
              case snil l cap hcap =>
                obtain ⟨rfl, rfl, rfl⟩ := ret_some hr
                refine ⟨m, w, .slice none l cap, ?_, Post.refl wr, .snil _ _ hcap⟩
                have hx0 : (Builtin.firstCells ie.size 0 x').run P w = .ok #[] w := by
                  cases hx <;> simp [lenOf?] at hl <;> simp [Builtin.firstCells, loadCells, loadCellsFrom]
                have := run_lenOf (P := P) hx hl w
                rcases hu with ⟨e', hk⟩ | hk <;> simp [Builtin.append_, ht0, ht1, run_underlying ht, run_underlying hk, sizeOf, typeInfo, hi, this, hcap.1, hx0]
              case semp b off s a' =>
                obtain ⟨rfl, rfl, rfl⟩ := ret_some hr
                refine ⟨m, w, .slice (some a') 0 0, ?_, Post.refl wr, .semp _ _ _ _⟩
                have hx0 : (Builtin.firstCells ie.size 0 x').run P w = .ok #[] w := by
                  cases hx <;> simp [lenOf?] at hl <;> simp [Builtin.firstCells, loadCells, loadCellsFrom]
                have := run_lenOf (P := P) hx hl w
                rcases hu with ⟨e', hk⟩ | hk <;> simp [Builtin.append_, ht0, ht1, run_underlying ht, run_underlying hk, sizeOf, typeInfo, hi, this, hx0, storeCells]
              case slc b off l cap cap' o' d hd ho c1 c2 c3 c4 =>
                obtain ⟨rfl, rfl, rfl⟩ := ret_some hr
                refine ⟨m, w, _, ?_, Post.refl wr, .slc hd ho c1 c2 c3 c4⟩
                have hx0 : (Builtin.firstCells ie.size 0 x').run P w = .ok ([] : List Value).toArray w := by
                  cases hx <;> simp [lenOf?] at hl <;> simp [Builtin.firstCells, loadCells, loadCellsFrom]
                have := run_append_in (P := P) (ty := ty) ht0 ht1 ht hu hi (run_lenOf (P := P) hx hl w) (b := d.blk) (off := o') (l := l) (cap := cap') (by omega) hx0 (w' := w) rfl
                simpa using this
            · rw [if_neg hk] at hr
              have hk0 : 0 < k := by omega
              cases hs <;> try (cases hr; done)
              case snil l cap hcap =>
                cases l <;> try (cases hr; done)
                cases cap <;> try (cases hr; done)
                simp only at hr
                split at hr
                · rename_i hk64
                  obtain ⟨new, h2, n2, L1, L2, e1, e2, _⟩ := bind_some hr
                  obtain ⟨rfl, rfl, new', hn, hfc⟩ := elems_at hx hl hk0 wr e1
                  split at e2
                  · rename_i hc
                    simp only [Bool.and_eq_true, decide_eq_true_eq] at hc
                    obtain ⟨m', hp, hv⟩ := sound_new (cap := 0) (old := []) (old' := []) (l := 0) wr hb hf hi hzs .nil hn (by simp) hc.1 e2
                    refine ⟨m', _, _, ?_, hp, hv⟩
                    exact run_append_out (P := P) ht0 ht1 ht hu hi hz2 (run_lenOf (P := P) hx hl w) (by omega) (by omega) hby (hfc _ rfl) (by simp [Builtin.firstCells])
                  · cases e2
                · cases hr
              case slc b off l cap cap' o' d hd ho c1 c2 c3 c4 =>
                simp only at hr
                split at hr
                · rename_i hk64
                  obtain ⟨e', h2, n2, L1, L2, e1, e2, _⟩ := bind_some hr
                  obtain ⟨rfl, rfl, d2, hd2, hes, B0, hB0, hBe⟩ := hdr_at wr e1
                  rw [hd] at hd2; cases hd2
                  split at e2
                  · rename_i he
                    subst he
                    have hes2 : ie.size = d.esz := by simpa [size?, hi] using hes
                    obtain ⟨new, h3, n3, L3, L4, e3, e4, _⟩ := bind_some e2
                    obtain ⟨rfl, rfl, new', hn, hfc⟩ := elems_at hx hl hk0 wr e3
                    split at e4
                    · rename_i hc
                      simp only [Bool.and_eq_true, decide_eq_true_eq] at hc
                      obtain ⟨hnl, hnone⟩ := hc
                      have hnl' : new'.length = k * ie.size := by rw [← hn.length]; exact hnl
                      have hone' : ∀ v ∈ new', Ev.one v = true := by
                        intro v hv
                        obtain ⟨j, hj⟩ := List.mem_iff_getElem?.1 hv
                        have hjl : j < new.length := by
                          rw [hn.length]
                          exact (List.getElem?_eq_some_iff.1 hj).1
                        obtain ⟨v2, hv2, hr2⟩ := hn.get j new[j] (by simp [hjl])
                        rw [hj] at hv2; cases hv2
                        rw [hr2.one]
                        exact List.all_eq_true.1 hnone _ (List.getElem_mem hjl)
                      unfold evAppendTo at e4
                      by_cases hcap : cap < CAP
                      · rw [if_pos hcap] at e4
                        have hcc := c1 hcap
                        subst hcc
                        have hoo := ho (.inr hcap)
                        subst hoo
                        by_cases hroom : l + k ≤ cap'
                        · rw [if_pos hroom] at e4
                          obtain ⟨uu, h5, n5, L5, L6, e5, e6, _⟩ := bind_some e4
                          obtain ⟨rfl, rfl, rfl⟩ := ret_some e6
                          cases uu
                          obtain ⟨rfl, w', hst, x2, hbl⟩ := wrN_at hd hn (i := 0) (d.sh + off + l * ie.size) (by omega) wr e5
                          refine ⟨m, w', _, ?_, ⟨Le.refl _, fun _ _ => rfl, x2, hbl⟩, .slc hd (fun _ => rfl) (fun _ => rfl) (fun q => by omega) (by omega) c4⟩
                          exact run_append_in (P := P) ht0 ht1 ht hu hi (run_lenOf (P := P) hx hl w) hroom (hfc w rfl) hst
                        · rw [if_neg hroom] at e4
                          obtain ⟨old, h5, n5, L5, L6, e5, e6, _⟩ := bind_some e4
                          obtain ⟨rfl, rfl, hol, old', hov, hoc⟩ := rdN_at wr hd e5
                          obtain ⟨m', hp, hv⟩ := sound_new (cap := cap') wr hb hf hi hzs hov hn hol hnl e6
                          refine ⟨m', _, _, ?_, hp, hv⟩
                          refine run_append_out (P := P) ht0 ht1 ht hu hi hz2 (run_lenOf (P := P) hx hl w) (by omega) hk64 hby (hfc _ rfl) ?_
                          have := run_loadCells_of (P := P) (w := w.drew) (c := d.blk) (o := d.sh + off) (vs := old') hoc
                          rw [← hov.length, hol] at this
                          simpa [Builtin.firstCells] using this
                      · rw [if_neg hcap] at e4
                        obtain ⟨old, h5, n5, L5, L6, e5, e6, _⟩ := bind_some e4
                        obtain ⟨rfl, rfl, hol, old', hov, hoc⟩ := rdN_at wr hd e5
                        obtain ⟨uu, h7, n7, L7, L8, e7, e8, _⟩ := bind_some e6
                        unfold kill at e7
                        split at e7
                        · split at e7
                          · rename_i hbn _ B hB
                            split at e7
                            · rename_i hown
                              simp only [Option.some.injEq, Out.mk.injEq] at e7
                              obtain ⟨_, rfl, rfl, _⟩ := e7
                              have xk := wr.kill hB
                              -- what the old row reads as
                              have hoc' : ∀ (w2 : World), w2.heap = w.heap → (Builtin.firstCells ie.size l (.slice (some ⟨d.blk, o', none⟩) l cap')).run P w2 = .ok old'.toArray w2 := by
                                intro w2 hw2
                                have hq : ∀ j v, old'[j]? = some v → w2.cell? ⟨d.blk, o' + j, none⟩ = some v := by
                                  intro j v hj
                                  have hjl : j < old'.length := (List.getElem?_eq_some_iff.1 hj).1
                                  have hl0 : 0 < l := by
                                    rcases Nat.eq_zero_or_pos l with q | q
                                    · rw [← hov.length, hol, q] at hjl; simp at hjl
                                    · exact q
                                  rw [ho (.inl hl0)]
                                  have := hoc j v hj
                                  unfold World.cell? at this ⊢
                                  rw [hw2]; exact this
                                have := run_loadCells_of (P := P) hq
                                rw [← hov.length, hol] at this
                                simpa [Builtin.firstCells] using this
                              by_cases hroom : l + k ≤ cap'
                              · -- there is room: the same block goes on
                                obtain ⟨dB, cs, lo, hi2, b1, b2, b3, b4, b5, b6, b7⟩ := wr.live b B hB
                                rw [hd] at b1; cases b1
                                obtain ⟨hel, hbase, hfr⟩ := b6 hown
                                have hmul : l * d.esz + k * d.esz ≤ cap' * d.esz := by rw [← Nat.add_mul]; exact Nat.mul_le_mul_right _ hroom
                                obtain ⟨w', cs', s1, s2, s3, s4, s5, s6⟩ := run_store_raw (P := P) (base := base) (o := o' + l * ie.size) new' 0 w cs b2 (fun j hj => by
                                  rw [hnl', hes2] at hj
                                  rw [hes2]
                                  exact ⟨by omega, hfr _ (by omega)⟩) hone' hbase
                                unfold evNew at e8
                                obtain ⟨id, h9, n9, L9, L10, e9, e10, _⟩ := bind_some e8
                                obtain ⟨rfl, rfl, rfl⟩ := ret_some e10
                                unfold newB at e9
                                split at e9
                                · rename_i hn65
                                  simp only [Option.some.injEq, Out.mk.injEq] at e9
                                  obtain ⟨rfl, rfl, rfl, _⟩ := e9
                                  have hBB : B.elem = e' := by rw [hB] at hB0; cases hB0; exact hBe
                                  rw [hel, hBB] at s2
                                  have hn0 : m n5 = none := hf n5 (Nat.le_refl _) (by omega)
                                  obtain ⟨m', hm'⟩ : ∃ m' : Mp, m' = fun q => if q = n5 then some ⟨d.blk, o', d.tot, d.esz, e'⟩ else m q := ⟨_, rfl⟩
                                  have hmn : m' n5 = some ⟨d.blk, o', d.tot, d.esz, e'⟩ := by rw [hm']; simp
                                  have hmo : ∀ q, q ≠ n5 → m' q = m q := fun q hq => by rw [hm']; simp [hq]
                                  have hle : Le m m' := fun q dd hq => by
                                    by_cases e : q = n5
                                    · subst e; rw [hn0] at hq; cases hq
                                    · rw [hmo q e]; exact hq
                                  refine ⟨m', w', .slice (some ⟨d.blk, o', none⟩) (l + k) cap', ?_, ⟨hle, fun q hq => hmo q (by omega), ⟨?_, ?_⟩, s6⟩, VR.slc (d := ⟨d.blk, o', d.tot, d.esz, e'⟩) hmn (fun _ => rfl) (fun q => by unfold CAP at *; omega) (fun _ => ⟨Nat.le_refl _, by omega⟩) hroom c4⟩
                                  · exact run_append_in (P := P) ht0 ht1 ht hu hi (run_lenOf (P := P) hx hl w) hroom (hfc w rfl) s1
                                  · intro q B2 hq
                                    rw [H.get_set _ _] at hq
                                    by_cases e : q = n5
                                    · subst e
                                      rw [if_pos rfl] at hq
                                      cases hq
                                      refine ⟨_, cs', lo, hi2, hmn, s2, by rw [s3, b3], ?_, hes, fun _ => ⟨rfl, hbase, hfr⟩, fun j v hj => ?_⟩
                                      · simp only [List.length_append, hol, hnl, hes2]; omega
                                      · obtain ⟨v', hv', hr'⟩ := (hov.append hn).get j v hj
                                        refine ⟨v', ?_, hr'.mono hle⟩
                                        show cs'[o' + j]? = _
                                        rw [s4]
                                        have hol' : old'.length = l * ie.size := by rw [← hov.length, hol]
                                        by_cases hjl : j < old'.length
                                        · rw [if_neg (by rw [hol'] at hjl; omega)]
                                          rw [List.getElem?_append_left hjl] at hv'
                                          have hl0 : 0 < l := by
                                            rcases Nat.eq_zero_or_pos l with q | q
                                            · rw [hol', q] at hjl; simp at hjl
                                            · exact q
                                          have := hoc j v' hv'
                                          rw [cell_eq w _ _ b2] at this
                                          rw [ho (.inl hl0)]
                                          exact this
                                        · have hjl2 : j < (old' ++ new').length := (List.getElem?_eq_some_iff.1 hv').1
                                          rw [List.getElem?_append_right (by omega)] at hv'
                                          simp only [List.length_append] at hjl2
                                          rw [if_pos (by omega)]
                                          rw [← hv', hol']
                                          congr 1
                                          omega
                                    · rw [if_neg e] at hq
                                      obtain ⟨d3, cs3, lo3, hi3, g1, g2, g3, g4, g5, g6, g7⟩ := xk.live q B2 hq
                                      have hqb : q ≠ b ∧ h5.get q = some B2 := by
                                        rw [H.get_set _ _] at hq
                                        by_cases e3 : q = b
                                        · rw [if_pos e3] at hq; cases hq
                                        · rw [if_neg e3] at hq; exact ⟨e3, hq⟩
                                      have hne : d3.blk ≠ d.blk := fun e3 => hqb.1 (wr.inj q b B2 B d3 d hqb.2 hB (.inr hown) g1 hd e3)
                                      refine ⟨d3, cs3, lo3, hi3, hle _ _ g1, by rw [s5 _ hne]; exact g2, g3, g4, g5, g6, fun j v hj => ?_⟩
                                      obtain ⟨v', hv', hr'⟩ := g7 j v hj
                                      exact ⟨v', hv', hr'.mono hle⟩
                                  · intro q q' B2 B3 d2 d3 hq hq' hoo hm2 hm3 hbe
                                    rw [H.get_set _ _] at hq hq'
                                    have key : ∀ q B2 d2, q ≠ n5 → (h5.set b none).get q = some B2 → m' q = some d2 → d2.blk ≠ d.blk := by
                                      intro q B2 d2 hqn hq hm2 hbe
                                      rw [H.get_set _ _] at hq
                                      by_cases e3 : q = b
                                      · rw [if_pos e3] at hq; cases hq
                                      · rw [if_neg e3] at hq
                                        rw [hmo q hqn] at hm2
                                        exact e3 (wr.inj q b B2 B d2 d hq hB (.inr hown) hm2 hd hbe)
                                    by_cases e1 : q = n5
                                    · by_cases e2 : q' = n5
                                      · rw [e1, e2]
                                      · rw [if_neg e2] at hq'
                                        subst e1
                                        rw [hmn] at hm2; cases hm2
                                        exact absurd hbe.symm (key q' B3 d3 e2 hq' hm3)
                                    · rw [if_neg e1] at hq
                                      by_cases e2 : q' = n5
                                      · subst e2
                                        rw [hmn] at hm3; cases hm3
                                        exact absurd hbe (key q B2 d2 e1 hq hm2)
                                      · rw [if_neg e2] at hq'
                                        rw [hmo q e1] at hm2
                                        rw [hmo q' e2] at hm3
                                        exact xk.inj q q' B2 B3 d2 d3 hq hq' hoo hm2 hm3 hbe
                                · cases e9
                              · -- there is none: a new row
                                obtain ⟨m', hp, hv⟩ := sound_new (cap := cap') xk hb hf hi hzs hov hn hol hnl e8
                                refine ⟨m', _, _, ?_, hp, hv⟩
                                exact run_append_out (P := P) ht0 ht1 ht hu hi hz2 (run_lenOf (P := P) hx hl w) (by omega) hk64 hby (hfc _ rfl) (hoc' _ rfl)
                            · cases e7
                          · cases e7
                        · cases e7
                    · cases e4
                  · cases e2
                · cases hr
          · cases hr
/-- copying -/
theorem sound_copy {ats : Array TypeId} {t ty : TypeId} {d d' s s' : Value} (ht0 : ats[0]? = some t) (hd : VR m d d') (hs : VR m s s') (wr : WR P m base h w.heap) (hr : evCopy P t d s h n = some ⟨r, h1, n1, L⟩) :
    Sound P base m w h n (Builtin.copy_ ats ty #[d', s']) r h1 n1 := by
  unfold evCopy at hr
  cases hue : P.underlying t with
  | none => rw [hue] at hr; cases hr
  | some du =>
    rw [hue] at hr
    cases du <;> try (cases hr; done)
    rename_i e
    simp only at hr
    cases hsz : size? P e with
    | none => rw [hsz] at hr; cases hr
    | some sz =>
      cases hsl : lenOf? s with
      | none => rw [hsz, hsl] at hr; cases hd <;> cases hr
      | some sl =>
        rw [hsz, hsl] at hr
        have hlen := run_lenOf (P := P) hs hsl w
        have zero : ∀ dl, ¬ 0 < Nat.min sl dl → Nat.min sl dl = 0 ∧ (Builtin.firstCells sz (Nat.min sl dl) s').run P w = .ok #[] w := by
          intro dl h0
          have h0' : Nat.min sl dl = 0 := by omega
          refine ⟨h0', ?_⟩
          rw [h0']
          cases hs <;> simp [lenOf?] at hsl <;> simp [Builtin.firstCells, loadCells, loadCellsFrom]
        cases hd with
        | snil dl cap hc =>
          simp only at hr
          by_cases h0 : 0 < Nat.min sl dl
          · rw [if_pos h0] at hr; cases hr
          · rw [if_neg h0] at hr
            obtain ⟨rfl, rfl, rfl⟩ := ret_some hr
            obtain ⟨z1, z2⟩ := zero dl h0
            refine ⟨m, w, _, ?_, Post.refl wr, .int _ _⟩
            rw [z1] at z2
            simp [Builtin.copy_, ht0, run_underlying hue, run_sizeOf hsz, hlen, z1, z2, goInt]
        | semp b off sp a' =>
          simp only at hr
          by_cases h0 : 0 < Nat.min sl 0
          · rw [if_pos h0] at hr; cases hr
          · rw [if_neg h0] at hr
            obtain ⟨rfl, rfl, rfl⟩ := ret_some hr
            obtain ⟨z1, z2⟩ := zero 0 h0
            refine ⟨m, w, _, ?_, Post.refl wr, .int _ _⟩
            rw [z1] at z2
            simp [Builtin.copy_, ht0, run_underlying hue, run_sizeOf hsz, hlen, z1, z2, goInt, storeCells]
        | @slc b off dl cap cap' o' dd hdd ho c1 c2 c3 c4 =>
          simp only at hr
          by_cases h0 : 0 < Nat.min sl dl
          · rw [if_pos h0] at hr
            obtain ⟨vs, h2, n2, L1, L2, e1, e2, _⟩ := bind_some hr
            have hsl0 : 0 < sl := Nat.lt_of_lt_of_le h0 (Nat.min_le_left _ _)
            have hdl0 : 0 < dl := Nat.lt_of_lt_of_le h0 (Nat.min_le_right _ _)
            obtain ⟨rfl, rfl, vs', hvs, hfc⟩ := elems_at hs hsl hsl0 wr e1
            obtain ⟨u, h3, n3, L3, L4, e3, e4, _⟩ := bind_some e2
            obtain ⟨rfl, rfl, rfl⟩ := ret_some e4
            cases u
            obtain ⟨rfl, w', hst, x2, hbl⟩ := wrN_at hdd hvs (i := 0) (dd.sh + off) (by omega) wr e3
            refine ⟨m, w', _, ?_, ⟨Le.refl _, fun _ _ => rfl, x2, hbl⟩, .int _ _⟩
            have hf := hfc w rfl
            rw [← ho (.inl hdl0)] at hst
            simp [Builtin.copy_, ht0, run_underlying hue, run_sizeOf hsz, hlen, hf, hst, goInt]
          · rw [if_neg h0] at hr
            obtain ⟨rfl, rfl, rfl⟩ := ret_some hr
            obtain ⟨z1, z2⟩ := zero dl h0
            refine ⟨m, w, _, ?_, Post.refl wr, .int _ _⟩
            rw [z1] at z2
            simp [Builtin.copy_, ht0, run_underlying hue, run_sizeOf hsz, hlen, z1, z2, goInt, storeCells]
        | _ => cases hr
end
end Go.Proofs.YtmjolmggelkjlaaGreat.Ev
/- All operations, calls: what the evaluator finds of a closed call holds of every run. No program in sight. -/
namespace Go.Proofs.YtmjolmggelkjlaaGreat.Ev
set_option linter.unusedVariables false
set_option linter.unusedSimpArgs false
open Go Go.RowKit

theorem VRs.maps {m : Mp} {ρ ρ' : Operand → Value} : ∀ (l : List Operand), (∀ y ∈ l, VR m (ρ y) (ρ' y)) → VRs m (l.map ρ) (l.map ρ')
  | [], _ => .nil
  | x :: l, h => .cons (h x (by simp)) (VRs.maps l fun y hy => h y (by simp [hy]))
theorem run_pureNext {P : Program} {w : World} {s : Sem Value} {v : Value} {w' : World} (h : s.run P w = .ok v w') : ((do pure (.value (← s)) : Sem Next)).run P w = .ok (.value v) w' := by
  simp only [Sem.run_bind, h, Result.andThen, Sem.run_pure]
section
variable {P : Program} {base : Nat}
def Goal (P : Program) (base : Nat) (m : Mp) (w : World) (n n1 : Nat) (h1 : H) (r : Nx) (s : Sem Next) : Prop := ∃ m' w' R, s.run P w = .ok R w' ∧ Post P m base n n1 w h1 m' w' ∧ NR m' r R
theorem Goal.of {m : Mp} {w : World} {h h1 : H} {n n1 : Nat} {v : Value} {s : Sem Value} (x : Sound P base m w h n s v h1 n1) : Goal P base m w n n1 h1 (.val v) (do pure (.value (← s))) := by
  obtain ⟨m', w', v', hr, hp, hv⟩ := x
  exact ⟨m', w', .value v', run_pureNext hr, hp, .val hv⟩
theorem bind_val {m : M Value} {h h2 : H} {n n2 : Nat} {r : Nx} {L : List En} (hr : (m.bind fun v => M.ret (Nx.val v)) h n = some ⟨r, h2, n2, L⟩) : ∃ v L', r = .val v ∧ m h n = some ⟨v, h2, n2, L'⟩ := by
  obtain ⟨v, h1, n1, L1, L2, e1, e2, _⟩ := bind_some hr
  obtain ⟨rfl, rfl, rfl⟩ := ret_some e2
  exact ⟨v, L1, rfl, e1⟩
theorem plain_sim {ρ ρ' : Operand → Value} {o : Oper} {m : Mp} {w : World} {h h1 : H} {n n1 : Nat} {r : Nx} {L : List En} (hs : ∀ cs b, o.op ≠ .select cs b) (hρ : ∀ y ∈ o.op.operands, VR m (ρ y) (ρ' y)) (x : WR P m base h w.heap) (hr : evPlain P ρ o h n = some ⟨r, h1, n1, L⟩) :
    Goal P base m w n n1 h1 r (execOp ρ' o) := by
  unfold evPlain at hr
  split at hr
  · rename_i hall
    obtain ⟨v, h2, n2, L1, L2, e1, e2, _⟩ := bind_some hr
    obtain ⟨hp, rfl, rfl⟩ := lift_some e1
    split at e2
    · rename_i hsc
      obtain ⟨rfl, rfl, rfl⟩ := ret_some e2
      have : execOp ρ' o = execOp ρ o := execOp_congr o hs fun y hy => (hρ y hy).scalar ((Array.all_eq_true_iff_forall_mem.1 hall) y hy)
      rw [this]
      exact ⟨m, w, .value v, pureRun_run _ _ hp w, Post.refl x, .val (VR.self hsc)⟩
    · cases e2
  · cases hr
theorem pure_sim {m : Mp} {w : World} {h : H} {n : Nat} {v v' : Value} {s : Sem Value} (x : WR P m base h w.heap) (hr : s.run P w = .ok v' w) (hv : VR m v v') : Goal P base m w n n h (.val v) (do pure (.value (← s))) :=
  ⟨m, w, .value v', run_pureNext hr, Post.refl x, .val hv⟩
theorem opt_rel {m : Mp} {ρ ρ' : Operand → Value} {o : Option Operand} (h : ∀ y ∈ o, VR m (ρ y) (ρ' y)) : OptR m (o.map ρ) (o.map ρ') := by
  cases o with
  | none => trivial
  | some y => exact h y rfl
theorem nilEq_run {m : Mp} {t : TypeId} {v v' u u' : Value} {b : Bool} (hv : VR m v v') (hu : VR m u u') (h : nilEq (P.underlying t) v u = some b) (w : World) :
    (Op.equal t v' u').run P w = .ok b w ∧ (∀ op x y, (eqGuard op t x y v' u').run P w = .ok () w) ∧ (∀ op : BinOp, op = .eql ∨ op = .neq → binOp op t v' u' = (if op = .eql then do pure (.bool (← Op.equal t v' u')) else do pure (.bool (!(← Op.equal t v' u'))))) := by
  cases hd : P.underlying t with
  | none => rw [hd] at h; simp [nilEq] at h
  | some d =>
    rw [hd] at h
    have hmax : Op.maxDepth = 9999 + 1 := rfl
    unfold Op.equal
    rw [hmax]
    cases d <;> try (simp [nilEq] at h; done)
    all_goals (cases hv <;> try (simp [nilEq] at h; done))
    all_goals (cases hu <;> try (simp [nilEq] at h; done))
    all_goals (
      simp [nilEq] at h
      subst h
      refine ⟨?_, fun op x y => ?_, fun op hop => ?_⟩
      · rw [Op.equalIn]
        simp only [Sem.run_bind, run_underlying hd, Result.andThen]
        rfl
      · unfold eqGuard
        split <;> rfl
      · rcases hop with rfl | rfl <;> rfl)
theorem kindEq_some {m : Mp} {d : Nat} {x y x' y' : Value} {b : Bool} (h : kindEq d x y = some b) (hx : VR m x x') (hy : VR m y y') : x' = x ∧ y' = y := by
  unfold kindEq at h
  split at h
  · cases hx; cases hy; exact ⟨rfl, rfl⟩
  · cases hx; cases hy; exact ⟨rfl, rfl⟩
  · cases hx; cases hy; exact ⟨rfl, rfl⟩
  · cases h
theorem kindsEq_some {m : Mp} : ∀ {ds : List Nat} {l k l' k' : List Value} {b : Bool}, kindsEq ds l k = some b → VRs m l l' → VRs m k k' → l' = l ∧ k' = k ∧ l.length = ds.length ∧ k.length = ds.length
  | [], [], [], _, _, _, _, .nil, .nil => ⟨rfl, rfl, rfl, rfl⟩
  | d :: ds, x :: l, y :: k, _, _, b, h, .cons hx hl, .cons hy hk => by
    unfold kindsEq at h
    split at h
    · rename_i a b h1 h2
      obtain ⟨rfl, rfl⟩ := kindEq_some h1 hx hy
      obtain ⟨rfl, rfl, e1, e2⟩ := kindsEq_some h2 hl hk
      exact ⟨rfl, rfl, by simp [e1], by simp [e2]⟩
    · cases h
  | [], [], _ :: _, _, _, _, h, _, _ => by simp [kindsEq] at h
  | [], _ :: _, _, _, _, _, h, _, _ => by simp [kindsEq] at h
  | _ :: _, [], _, _, _, _, h, _, _ => by simp [kindsEq] at h
  | _ :: _, _ :: _, [], _, _, _, h, _, _ => by simp [kindsEq] at h
theorem run_part1 {t : TypeId} {cs : Array Value} {i : Nat} {v : Value} (ha : agg? P t = some false) (hc : cs[i]? = some v) (w : World) : (part t cs i).run P w = .ok v w := by
  unfold part
  simp only [Sem.run_bind, agg_isAgg ha, Result.andThen, Bool.false_eq_true, if_false, hc]
  rfl
theorem fields_run {xs ys : Array Value} (D : Nat) : ∀ (fs : List Field) (i : Nat) (ds : List Nat) (b : Bool), fldKinds P i fs = some ds → kindsEq ds (xs.toList.drop i) (ys.toList.drop i) = some b → ∀ w, (Op.eqFields (D + 1) xs ys fs).run P w = .ok b w
  | [], i, ds, b, h, hk, w => by
    simp only [fldKinds, Option.some.injEq] at h
    subst h
    unfold kindsEq at hk
    split at hk <;> first | (cases hk; done) | skip
    · cases hk; rfl
    · rename_i q _ _; cases q
  | f :: fs, i, ds, b, h, hk, w => by
    unfold fldKinds at h
    split at h
    · rename_i d l h1 h2 h3
      split at h
      · rename_i hc
        cases h
        simp only [Bool.and_eq_true, bne_iff_ne, ne_eq, beq_iff_eq] at hc
        obtain ⟨hnm, hoff⟩ := hc
        unfold kindsEq at hk
        split at hk <;> first | (cases hk; done) | skip
        · rename_i q _ _; cases q
        · rename_i d' ds' x lx y ly e0 e1 e2
          cases e0
          split at hk
          · rename_i a b' k1 k2
            cases hk
            have cx : xs[i]? = some x := by
              rw [← Array.getElem?_toList]
              have := congrArg (·[0]?) e1
              simpa using this
            have cy : ys[i]? = some y := by
              rw [← Array.getElem?_toList]
              have := congrArg (·[0]?) e2
              simpa using this
            have dx : xs.toList.drop (i + 1) = lx := by
              have := congrArg List.tail e1
              simpa [List.tail_drop] using this
            have dy : ys.toList.drop (i + 1) = ly := by
              have := congrArg List.tail e2
              simpa [List.tail_drop] using this
            have ag : agg? P f.type = some false ∧ ∀ w, (Op.equalIn (D + 1) f.type x y).run P w = .ok a w := by
              unfold kindOf? at h1
              unfold agg?
              cases hu : P.underlying f.type with
              | none => rw [hu] at h1; cases h1
              | some u =>
                rw [hu] at h1
                unfold kindEq at k1
                cases u <;> first | (cases h1; done) | skip
                · cases h1
                  refine ⟨rfl, fun w => ?_⟩
                  split at k1 <;> first | (cases k1; done) | skip
                  · rename_i q; cases q
                  · rename_i q; cases q
                  · cases k1
                    simp [Op.equalIn, run_underlying hu]
                · cases h1
                  refine ⟨rfl, fun w => ?_⟩
                  split at k1 <;> first | (cases k1; done) | skip
                  · split at k1
                    · rename_i hkk
                      cases k1
                      simp [Op.equalIn, run_underlying hu, hkk]
                    · cases k1
                  · rename_i q; cases q
                  · rename_i q; cases q
                · cases h1
                  refine ⟨rfl, fun w => ?_⟩
                  split at k1 <;> first | (cases k1; done) | skip
                  · rename_i q; cases q
                  · cases k1
                    simp [Op.equalIn, run_underlying hu]
                  · rename_i q; cases q
            have ih := fields_run (xs := xs) (ys := ys) D fs (i + 1) l b' h3 (by rw [dx, dy]; exact k2)
            unfold Op.eqFields
            rw [if_pos hnm]
            simp only [Sem.run_bind, hoff, run_part1 ag.1 cx, run_part1 ag.1 cy, Result.andThen, ag.2]
            cases a
            · simp
            · simpa using ih w
          · cases hk
      · cases h
    · cases h
theorem anyEq_run {m : Mp} {t : TypeId} {v v' u u' : Value} {b : Bool} (hv : VR m v v') (hu : VR m u u') (h : anyEq P t v u = some b) (w : World) :
    (Op.equal t v' u').run P w = .ok b w ∧ (∀ op x y, (eqGuard op t x y v' u').run P w = .ok () w) ∧ (∀ op : BinOp, op = .eql ∨ op = .neq → binOp op t v' u' = (if op = .eql then do pure (.bool (← Op.equal t v' u')) else do pure (.bool (!(← Op.equal t v' u'))))) := by
  unfold anyEq at h
  split at h
  · rename_i b' hn
    cases h
    exact nilEq_run hv hu hn w
  · unfold stEq at h
    split at h
    · rename_i ds xs ys hd hnil
      cases hv with
      | agg hxs =>
      cases hu with
      | agg hys =>
      rename_i xs' ys'
      obtain ⟨e1, e2, _, _⟩ := kindsEq_some h hxs hys
      have e1 : xs' = xs := by cases xs'; cases xs; simp at e1; rw [e1]
      have e2 : ys' = ys := by cases ys'; cases ys; simp at e2; rw [e2]
      subst e1; subst e2
      unfold stKinds at hd
      split at hd
      · rename_i fs hfs
        split at hd
        · cases hd
        · rename_i hg
          simp only [Bool.or_eq_true, not_or, Bool.not_eq_true] at hg
          have hff : P.fieldsOf t = fs := by unfold Program.fieldsOf; rw [hfs]
          refine ⟨?_, fun op x y => run_eqGuard_agg w op t x y _ _ hg.2, fun op hop => ?_⟩
          · show (Op.equalIn (9998 + 1 + 1) t _ _).run P w = _
            rw [run_equalIn_struct w (9998 + 1) t _ _ (by rw [hff]; exact hfs) hg.1, hff]
            exact fields_run 9998 fs.toList 0 ds b hd h w
          · rcases hop with rfl | rfl <;> rfl
      · cases hd
    · cases h
theorem toStr_some {a b : Option TypeDesc} {e : TypeId} (h : toStr? a b = some e) : a = some (.slice e) ∧ b = some .string := by
  unfold toStr? at h
  split at h
  · cases h; exact ⟨rfl, rfl⟩
  · cases h
theorem toBy_some {a b : Option TypeDesc} {v : Value} {e : TypeId} {s : ByteArray} (h : toBy? a b v = some (e, s)) : a = some .string ∧ b = some (.slice e) ∧ v = .string s := by
  unfold toBy? at h
  split at h
  · cases h; exact ⟨rfl, rfl, rfl⟩
  · cases h
theorem u8_some {e : TypeId} (h : u8? P e = true) : P.underlying e = some (.int .u8) := by
  unfold u8? at h
  split at h
  · assumption
  · cases h
theorem cpy_some {ats : Array TypeId} {args : List Value} {t : TypeId} {d y : Value} (h : cpy? ats args = some (t, d, y)) : ats[0]? = some t ∧ args = [d, y] := by
  unfold cpy? at h
  split at h
  · rename_i t' d' y' h0
    cases h
    exact ⟨h0, rfl⟩
  · cases h
theorem app_some {ats : Array TypeId} {args : List Value} {t : TypeId} {s y : Value} (h : app? P ats args = some (t, s, y)) : ∃ u, ats[0]? = some t ∧ ats[1]? = some u ∧ args = [s, y] ∧ ((∃ e', P.underlying u = some (.slice e')) ∨ P.underlying u = some .string) := by
  unfold app? at h
  split at h
  · rename_i t' u s' y' h0 h1
    split at h
    · rename_i hk
      cases h
      refine ⟨u, h0, h1, rfl, ?_⟩
      unfold sliceOrStr at hk
      split at hk
      · rename_i e hh; exact .inl ⟨e, hh⟩
      · rename_i hh; exact .inr hh
      · cases hk
    · cases h
  · cases h
theorem sliceLen_some {ats : Array TypeId} {args : List Value} {k : Nat} (h : sliceLen? P ats args = some k) : ∃ t e a cp rest, ats[0]? = some t ∧ P.underlying t = some (.slice e) ∧ args = .slice a k cp :: rest := by
  unfold sliceLen? at h
  split at h
  · rename_i t a n cp rest h0
    split at h
    · rename_i e hh
      cases h
      exact ⟨t, e, a, cp, rest, h0, hh, rfl⟩
    · cases h
  · cases h
theorem op_sim (hnm : okNames P = true) : OpSim P base := by
  intro ρ ρ' o h n r h1 n1 L m w hr hρ x hb hf
  show Goal P base m w n n1 h1 r (execOp ρ' o)
  have plain : (∀ cs b, o.op ≠ .select cs b) → evPlain P ρ o h n = some ⟨r, h1, n1, L⟩ → Goal P base m w n n1 h1 r (execOp ρ' o) := fun hs hr => plain_sim hs hρ x hr
  unfold evOp at hr
  cases hop : o.op with
  | move y =>
    rw [hop] at hr hρ
    unfold execOp
    rw [hop]
    obtain ⟨rfl, rfl, rfl⟩ := ret_some hr
    exact ⟨m, w, .value (ρ' y), rfl, Post.refl x, .val (hρ y (by simp [Op.operands]))⟩
  | assign y =>
    rw [hop] at hr hρ
    unfold execOp
    rw [hop]
    obtain ⟨rfl, rfl, rfl⟩ := ret_some hr
    exact ⟨m, w, .value (ρ' y), rfl, Post.refl x, .val (hρ y (by simp [Op.operands]))⟩
  | pick c a b =>
    rw [hop] at hr hρ
    unfold execOp
    rw [hop]
    simp only at hr
    dsimp only
    have hc := hρ c (by simp [Op.operands])
    have ha := hρ a (by simp [Op.operands])
    have hb' := hρ b (by simp [Op.operands])
    generalize ρ c = vc at hr hc
    generalize ρ' c = vc' at hc ⊢
    cases hc <;> try (cases hr; done)
    rename_i t
    obtain ⟨rfl, rfl, rfl⟩ := ret_some hr
    refine ⟨m, w, .value (if t then ρ' a else ρ' b), by cases t <;> rfl, Post.refl x, .val ?_⟩
    cases t
    · exact hb'
    · exact ha
  | alloc e =>
    rw [hop] at hr hρ
    unfold execOp
    rw [hop]
    obtain ⟨v, L', rfl, e1⟩ := bind_val hr
    exact Goal.of (sound_alloc x hb hf e1)
  | box e y =>
    rw [hop] at hr hρ
    unfold execOp
    rw [hop]
    obtain ⟨v, L', rfl, e1⟩ := bind_val hr
    exact Goal.of (sound_box (hρ y (by simp [Op.operands])) x hb hf e1)
  | build t ps =>
    rw [hop] at hr hρ
    unfold execOp
    rw [hop]
    obtain ⟨v, L', rfl, e1⟩ := bind_val hr
    have h1p : (ps.toList.map fun (i, x) => (i, ρ x)).map (·.1) = (ps.toList.map fun (i, x) => (i, ρ' x)).map (·.1) := by simp [Function.comp_def]
    have h2p : VRs m ((ps.toList.map fun (i, x) => (i, ρ x)).map (·.2)) ((ps.toList.map fun (i, x) => (i, ρ' x)).map (·.2)) := by
      have := VRs.maps (m := m) (ρ := ρ) (ρ' := ρ') (ps.toList.map (·.2)) fun y hy => hρ y (by simp only [Op.operands]; simpa using hy)
      simpa [List.map_map, Function.comp_def] using this
    have hpp : (ps.map fun (i, x) => (i, ρ' x)) = (ps.toList.map fun (i, x) => (i, ρ' x)).toArray := by
      apply Array.ext'
      simp
    dsimp only
    rw [hpp]
    exact Goal.of (sound_build h1p h2p x e1)
  | buildSlice t len ps =>
    rw [hop] at hr hρ
    unfold execOp
    rw [hop]
    obtain ⟨v, L', rfl, e1⟩ := bind_val hr
    have h1p : (ps.toList.map fun (i, x) => (i, ρ x)).map (·.1) = (ps.toList.map fun (i, x) => (i, ρ' x)).map (·.1) := by simp [Function.comp_def]
    have h2p : VRs m ((ps.toList.map fun (i, x) => (i, ρ x)).map (·.2)) ((ps.toList.map fun (i, x) => (i, ρ' x)).map (·.2)) := by
      have := VRs.maps (m := m) (ρ := ρ) (ρ' := ρ') (ps.toList.map (·.2)) fun y hy => hρ y (by simp only [Op.operands]; simpa using hy)
      simpa [List.map_map, Function.comp_def] using this
    have hpp : (ps.map fun (i, x) => (i, ρ' x)) = (ps.toList.map fun (i, x) => (i, ρ' x)).toArray := by
      apply Array.ext'
      simp
    dsimp only
    rw [hpp]
    exact Goal.of (sound_buildSlice h1p h2p x hb hf e1)
  | load t a =>
    rw [hop] at hr hρ
    unfold execOp
    rw [hop]
    obtain ⟨v, L', rfl, e1⟩ := bind_val hr
    exact Goal.of (sound_load (hρ a (by simp [Op.operands])) x e1)
  | store t a y =>
    rw [hop] at hr hρ
    unfold execOp
    rw [hop]
    obtain ⟨v, L', rfl, e1⟩ := bind_val hr
    obtain ⟨rfl, w', hst, hp⟩ := sound_store (hρ a (by simp [Op.operands])) (hρ y (by simp [Op.operands])) x e1
    refine ⟨m, w', .skip, ?_, hp, .skip⟩
    simp only [Sem.run_bind, hst, Result.andThen, Sem.run_pure]
  | nilCheck y =>
    rw [hop] at hr hρ
    unfold execOp
    rw [hop]
    obtain ⟨v, L', rfl, e1⟩ := bind_val hr
    obtain ⟨rfl, rfl, hv, hor⟩ := sound_nilCheck (hρ y (by simp [Op.operands])) x e1
    dsimp only
    rcases hor with ⟨a, ha⟩ | ⟨f, a, b, ha⟩ <;> rw [ha] at hv ⊢ <;> exact ⟨m, w, _, rfl, Post.refl x, .val hv⟩
  | binOp op t y z yt =>
    rw [hop] at hr
    simp only at hr
    have hρ2 := hρ
    rw [hop] at hρ2
    have hy := hρ2 y (by simp [Op.operands])
    have hz := hρ2 z (by simp [Op.operands])
    cases hq : anyEq P t (ρ y) (ρ z) with
    | none =>
      rw [hq] at hr
      exact plain (fun cs b hh => by rw [hop] at hh; cases hh) hr
    | some b =>
      rw [hq] at hr
      unfold execOp
      rw [hop]
      obtain ⟨q1, q2, q3⟩ := anyEq_run hy hz hq w
      cases op <;> try (cases hr; done)
      case eql =>
        obtain ⟨rfl, rfl, rfl⟩ := ret_some hr
        refine pure_sim x ?_ (.bool b)
        rw [Sem.run_bind, q2]
        simp only [Result.andThen]
        rw [q3 .eql (.inl rfl), if_pos rfl, Sem.run_bind, q1]
        rfl
      case neq =>
        obtain ⟨rfl, rfl, rfl⟩ := ret_some hr
        refine pure_sim x ?_ (.bool !b)
        rw [Sem.run_bind, q2]
        simp only [Result.andThen]
        rw [q3 .neq (.inr rfl), if_neg (by decide), Sem.run_bind, q1]
        rfl
  | unOp op t y =>
    rw [hop] at hr
    exact plain (fun cs b hh => by rw [hop] at hh; cases hh) hr
  | convert src dst y =>
    rw [hop] at hr
    simp only at hr
    have hρ2 := hρ
    rw [hop] at hρ2
    have hy := hρ2 y (by simp [Op.operands])
    have hns : ∀ cs b, o.op ≠ .select cs b := fun cs b hh => by rw [hop] at hh; cases hh
    cases hts : toStr? (P.underlying src) (P.underlying dst) with
    | some e =>
      rw [hts] at hr
      obtain ⟨hs, hd⟩ := toStr_some hts
      simp only at hr
      split at hr
      · rename_i hu8
        obtain ⟨v, L', rfl, e1⟩ := bind_val hr
        obtain ⟨a, l, c, hsl, hsnd⟩ := sound_toStr hy x e1
        unfold execOp
        rw [hop]
        simp only [hsl] at hsnd ⊢
        obtain ⟨m', w', v', hrun, hp, hv⟩ := hsnd
        exact ⟨m', w', .value v', run_pureNext (by rw [run_convert_bytes_string w src dst e a l c hs (u8_some hu8) hd]; exact hrun), hp, .val hv⟩
      · cases hr
    | none =>
      rw [hts] at hr
      simp only at hr
      cases htb : toBy? (P.underlying src) (P.underlying dst) (ρ y) with
      | none => rw [htb] at hr; exact plain hns hr
      | some es =>
        obtain ⟨e, s⟩ := es
        rw [htb] at hr
        simp only at hr
        obtain ⟨hs, hd, hys⟩ := toBy_some htb
        split at hr
        · rename_i hu8
          simp only [Bool.and_eq_true, beq_iff_eq] at hu8
          obtain ⟨v, L', rfl, e1⟩ := bind_val hr
          rw [hys] at hy
          have hy2 : ρ' y = .string s := by generalize ρ' y = q at hy; cases hy; rfl
          obtain ⟨m', w', v', hrun, hp, hv⟩ := sound_toBytes hu8.2 x hb hf e1
          unfold execOp
          rw [hop]
          simp only [hy2]
          refine ⟨m', w', .value v', run_pureNext ?_, hp, .val hv⟩
          rw [← hrun]
          simp [convert, run_underlying hs, run_underlying hd, run_underlying (u8_some hu8.1)]
        · cases hr
  | makeFunc fn a b =>
    rw [hop] at hr hρ
    unfold execOp
    rw [hop]
    obtain ⟨rfl, rfl, rfl⟩ := ret_some hr
    refine ⟨m, w, .value (.func fn (a.map ρ') (b.map ρ')), rfl, Post.refl x, .val (.func fn ?_ ?_)⟩
    · rw [Array.toList_map, Array.toList_map]
      exact VRs.maps _ fun y hy => hρ y (by simp only [Op.operands, Array.mem_append]; exact .inl (by simpa using hy))
    · rw [Array.toList_map, Array.toList_map]
      exact VRs.maps _ fun y hy => hρ y (by simp only [Op.operands, Array.mem_append]; exact .inr (by simpa using hy))
  | makeSlice t l c =>
    rw [hop] at hr hρ
    unfold execOp
    rw [hop]
    obtain ⟨v, L', rfl, e1⟩ := bind_val hr
    exact Goal.of (sound_makeSlice (hρ l (by simp [Op.operands])) (hρ c (by simp [Op.operands])) x hb hf e1)
  | slice t y lo hi mx =>
    rw [hop] at hr
    simp only at hr
    have hρ2 := hρ
    rw [hop] at hρ2
    have hy := hρ2 y (by simp [Op.operands])
    by_cases hstr : isStr (ρ y) = true
    · rw [if_pos hstr] at hr
      exact plain (fun cs b hh => by rw [hop] at hh; cases hh) hr
    · rw [if_neg hstr] at hr
      obtain ⟨v, L', rfl, e1⟩ := bind_val hr
      unfold execOp
      rw [hop]
      have hlo : OptR m (lo.map ρ) (lo.map ρ') := opt_rel fun q hq => hρ2 q (by rw [Option.mem_def] at hq; subst hq; simp [Op.operands])
      have hhi : OptR m (hi.map ρ) (hi.map ρ') := opt_rel fun q hq => hρ2 q (by rw [Option.mem_def] at hq; subst hq; simp [Op.operands])
      have hmx : OptR m (mx.map ρ) (mx.map ρ') := opt_rel fun q hq => hρ2 q (by rw [Option.mem_def] at hq; subst hq; simp [Op.operands])
      generalize ρ y = vy at e1 hy
      unfold evSliceM at e1
      split at e1
      · rename_i b off l c
        obtain ⟨e', h2, n2, L1, L2, e2, e3, _⟩ := bind_some e1
        obtain ⟨rfl, rfl, d2, hd2, hes, _⟩ := hdr_at x e2
        cases hu : P.underlying t with
        | none => rw [hu] at e3; cases e3
        | some du =>
          rw [hu] at e3
          cases du <;> try (cases e3; done)
          rename_i e
          simp only at e3
          split at e3
          · rename_i hsz
            obtain ⟨hev, rfl, rfl⟩ := lift_some e3
            obtain ⟨u, hu2, hru⟩ := slice_at (fun b' off' l' c' e2' hv' hu' => by
              cases hv'
              rw [hu] at hu'; cases hu'
              exact ⟨d2, hd2, by rw [← hsz]; exact hes⟩) hy hlo hhi hmx hev w
            exact pure_sim x hu2 hru
          · cases e3
      · rename_i hno
        obtain ⟨hev, rfl, rfl⟩ := lift_some e1
        obtain ⟨u, hu2, hru⟩ := slice_at (fun b' off' l' c' e2' hv' hu' => absurd hv' (hno b' off' l' c')) hy hlo hhi hmx hev w
        exact pure_sim x hu2 hru
  | fieldAddr t y f =>
    rw [hop] at hr hρ
    unfold execOp
    rw [hop]
    obtain ⟨v, L', rfl, e1⟩ := bind_val hr
    obtain ⟨hev, rfl, rfl⟩ := lift_some e1
    obtain ⟨u, hu, hru⟩ := fieldAddr_at (hρ y (by simp [Op.operands])) hev w
    exact pure_sim x hu hru
  | field t y f =>
    rw [hop] at hr hρ
    unfold execOp
    rw [hop]
    obtain ⟨v, L', rfl, e1⟩ := bind_val hr
    obtain ⟨hev, rfl, rfl⟩ := lift_some e1
    obtain ⟨u, hu, hru⟩ := field_at (hρ y (by simp [Op.operands])) hev w
    exact pure_sim x hu hru
  | indexAddr t y i =>
    rw [hop] at hr hρ
    unfold execOp
    rw [hop]
    obtain ⟨v, L', rfl, e1⟩ := bind_val hr
    obtain ⟨hev, rfl, rfl⟩ := lift_some e1
    obtain ⟨u, hu, hru⟩ := indexAddr_at (hρ y (by simp [Op.operands])) (hρ i (by simp [Op.operands])) hev w
    exact pure_sim x hu hru
  | index t y i =>
    rw [hop] at hr
    simp only at hr
    have hρ2 := hρ
    rw [hop] at hρ2
    split at hr
    · exact plain (fun cs b hh => by rw [hop] at hh; cases hh) hr
    · unfold execOp
      rw [hop]
      obtain ⟨v, L', rfl, e1⟩ := bind_val hr
      obtain ⟨hev, rfl, rfl⟩ := lift_some e1
      obtain ⟨u, hu, hru⟩ := index_at (hρ2 y (by simp [Op.operands])) (hρ2 i (by simp [Op.operands])) hev w
      exact pure_sim x hu hru
  | extract y i =>
    rw [hop] at hr hρ
    unfold execOp
    rw [hop]
    obtain ⟨v, L', rfl, e1⟩ := bind_val hr
    obtain ⟨hev, rfl, rfl⟩ := lift_some e1
    obtain ⟨u, hu, hru⟩ := extract_at (hρ y (by simp [Op.operands])) hev w
    exact pure_sim x hu hru
  | call c =>
    rw [hop] at hr
    simp only at hr
    have hρ2 := hρ
    rw [hop] at hρ2
    simp only [Op.operands] at hρ2
    have hargs : VRs m (c.args.map ρ).toList (c.args.map ρ').toList := by
      rw [Array.toList_map, Array.toList_map]
      exact VRs.maps _ fun y hy => hρ2 y (by unfold Call.operands; exact Array.mem_append.2 (.inr (by simpa using hy)))
    have hex : execOp ρ' o = (do let d ← resolve ρ' c o.type; invoke d.target d.args) := by unfold execOp; rw [hop]
    unfold evCallOp at hr
    cases hcal : c.callee with
    | invoke a b => rw [hcal] at hr; cases hr
    | value f =>
      rw [hcal] at hr
      simp only at hr
      have hfv := hρ2 f (by unfold Call.operands; rw [hcal]; simp)
      cases hfg : asFn? (ρ f) with
      | none => rw [hfg] at hr; cases hr
      | some gfc =>
        obtain ⟨g, first, cap⟩ := gfc
        rw [hfg] at hr
        simp only at hr
        obtain ⟨first', cap', hfg', hfirst, hcap⟩ : ∃ first' cap', ρ' f = .func (.func g) first' cap' ∧ VRs m first.toList first'.toList ∧ VRs m cap.toList cap'.toList := by
          generalize ρ f = p at hfg hfv
          generalize ρ' f = q at hfv
          unfold asFn? at hfg
          split at hfg
          · cases hfg
            cases hfv with
            | func fn h1 h2 => exact ⟨_, _, rfl, h1, h2⟩
          · cases hfg
        split at hr
        · rename_i hbody
          obtain ⟨rfl, rfl, rfl⟩ := ret_some hr
          rw [hex]
          unfold hasBody at hbody
          cases hfn : P.funcs[g]? with
          | none => rw [hfn] at hbody; cases hbody
          | some fn =>
            rw [hfn] at hbody
            have hbody : fn.body.isSome = true := hbody
            refine ⟨m, w, .enter g (first' ++ c.args.map ρ' ++ cap'), ?_, Post.refl x, .call ?_⟩
            · have hname : (fn.name == "runtime.NumGoroutine") = false := by
                unfold okNames at hnm
                have := (Array.all_eq_true_iff_forall_mem.1 hnm) fn (Array.mem_of_getElem? hfn)
                simpa using this
              have hb2 : fn.body.isNone = false := by
                cases hq : fn.body with
                | none => rw [hq] at hbody; cases hbody
                | some _ => rfl
              unfold resolve
              rw [hcal]
              simp only [hfg', Deferred.ofValue, pure_bind, invoke]
              unfold callFunc
              simp only [Sem.run_bind]
              show Result.andThen (.ok P w) _ = _
              simp only [Result.andThen, hfn, hname, Bool.false_eq_true, if_false, hb2]
              rfl
            · simp only [Array.toList_append]
              exact (hfirst.append hargs).append hcap
        · cases hr
    | builtin b =>
      rw [hcal] at hr
      have hexb : execOp ρ' o = builtin b c.argTypes o.type (c.args.map fun | .const _ => true | _ => false) (c.args.map ρ') := by
        rw [hex]
        unfold resolve
        rw [hcal]
        rfl
      cases b <;> simp only at hr <;> try (cases hr; done)
      case append =>
        cases happ : app? P c.argTypes (c.args.map ρ).toList with
        | none => rw [happ] at hr; cases hr
        | some tsx =>
          obtain ⟨t, s, y⟩ := tsx
          rw [happ] at hr
          simp only at hr
          obtain ⟨u, ht, hu, hl, hk⟩ := app_some happ
          rw [hl] at hargs
          rw [hexb]
          obtain ⟨s', y', hl', hs, hy⟩ : ∃ s' y', c.args.map ρ' = #[s', y'] ∧ VR m s s' ∧ VR m y y' := by
            generalize c.args.map ρ' = q at hargs
            obtain ⟨q⟩ := q
            simp only at hargs
            cases hargs with
            | cons h1 t1 => cases t1 with
              | cons h2 t2 => cases t2 with
                | nil => exact ⟨_, _, rfl, h1, h2⟩
          rw [hl']
          obtain ⟨v, L', rfl, e1⟩ := bind_val hr
          exact Goal.of (sound_append ht hu hk hs hy x hb hf e1)
      case copy =>
        cases hcp : cpy? c.argTypes (c.args.map ρ).toList with
        | none => rw [hcp] at hr; cases hr
        | some tds =>
          obtain ⟨t, d, y⟩ := tds
          rw [hcp] at hr
          simp only at hr
          obtain ⟨ht, hl⟩ := cpy_some hcp
          rw [hl] at hargs
          rw [hexb]
          obtain ⟨d', y', hl', hd, hy⟩ : ∃ d' y', c.args.map ρ' = #[d', y'] ∧ VR m d d' ∧ VR m y y' := by
            generalize c.args.map ρ' = q at hargs
            obtain ⟨q⟩ := q
            simp only at hargs
            cases hargs with
            | cons h1 t1 => cases t1 with
              | cons h2 t2 => cases t2 with
                | nil => exact ⟨_, _, rfl, h1, h2⟩
          rw [hl']
          obtain ⟨v, L', rfl, e1⟩ := bind_val hr
          exact Goal.of (sound_copy ht hd hy x e1)
      case len =>
        cases hsl : sliceLen? P c.argTypes (c.args.map ρ).toList with
        | none => rw [hsl] at hr; exact plain (fun cs b hh => by rw [hop] at hh; cases hh) hr
        | some k =>
          rw [hsl] at hr
          obtain ⟨t, e, a, cp, rest, ht, hue, hl⟩ := sliceLen_some hsl
          rw [hl] at hargs
          obtain ⟨rfl, rfl, rfl⟩ := ret_some hr
          rw [hexb]
          generalize c.args.map ρ' = q at hargs
          obtain ⟨q⟩ := q
          simp only at hargs
          cases hargs with
          | cons h1 t1 =>
            cases h1 with
            | snil _ _ hc =>
              refine pure_sim x ?_ (.int _ _)
              unfold Builtin.len_
              simp [ht, run_underlying hue, goInt]
            | semp _ _ _ _ =>
              refine pure_sim x ?_ (.int _ _)
              unfold Builtin.len_
              simp [ht, run_underlying hue, goInt]
            | slc =>
              refine pure_sim x ?_ (.int _ _)
              unfold Builtin.len_
              simp [ht, run_underlying hue, goInt]
      case min => exact plain (fun cs b hh => by rw [hop] at hh; cases hh) hr
      case max => exact plain (fun cs b hh => by rw [hop] at hh; cases hh) hr
  | _ => rw [hop] at hr; cases hr
end

theorem load_still {P : Program} {base : Nat} {m : Mp} {t : TypeId} {a a' r : Value} {h h1 : H} {n n1 : Nat} {L : List En} {w : World} (ha : VR m a a') (x : WR P m base h w.heap) (hr : evLoad P t a h n = some ⟨r, h1, n1, L⟩) :
    ∃ b off, a' = .pointer (some ⟨b, off, none⟩) ∧ h1 = h ∧ n1 = n ∧ ∃ v', VR m r v' ∧ ((do loadVar t (← asAddr a')) : Sem Value).run P w = .ok v' w := by
  unfold evLoad at hr
  split at hr
  · rename_i b off
    obtain ⟨d, hd, rfl⟩ := ptr_at ha
    cases hg : agg? P t with
    | none => rw [hg] at hr; cases hr
    | some g =>
      rw [hg] at hr
      cases g with
      | false =>
        simp only at hr
        obtain ⟨rfl, rfl, d', v', hd', hc, hv⟩ := rd_at x hr
        rw [hd] at hd'; cases hd'
        refine ⟨_, _, rfl, rfl, rfl, v', hv, ?_⟩
        simp only [asAddr, pure_bind, loadVar, Sem.run_bind, agg_isAgg hg w, Result.andThen, Bool.false_eq_true, if_false]
        show (Sem.load _ _ _).run P w = _
        simp [Sem.run, hc]
      | true =>
        cases hs : size? P t with
        | none => rw [hs] at hr; cases hr
        | some k =>
          rw [hs] at hr
          simp only at hr
          obtain ⟨vs, h2, n2, L1, L2, e1, e2, _⟩ := bind_some hr
          obtain ⟨rfl, rfl, rfl⟩ := ret_some e2
          obtain ⟨rfl, rfl, hl, vs', hvs, hcs⟩ := rdN_at x hd e1
          refine ⟨_, _, rfl, rfl, rfl, .agg vs'.toArray, .agg (by simpa using hvs), ?_⟩
          have hlen : vs'.length = k := by rw [← hvs.length, hl]
          have := run_loadCells_of (P := P) hcs
          rw [hlen] at this
          simp only [asAddr, pure_bind, loadVar, Sem.run_bind, agg_isAgg hg w, Result.andThen, if_true, run_sizeOf hs, this]
          rfl
  · cases hr
theorem results_at {P : Program} {base : Nat} {m : Mp} {nt : Nat} {s : S} {a : Act} (hs : SR m nt s a) : ∀ (l : List ResultVar) (h h1 : H) (n n1 : Nat) (L : List En) (vs : List Value) (w : World), WR P m base h w.heap → evResults P s l h n = some ⟨vs, h1, n1, L⟩ → ∃ vs', VRs m vs vs' ∧
    ((l.mapM fun | .tmp t => pure (a.tmps.getD t undef) | .cell b t => do loadVar t (← asAddr (a.tmps.getD b undef)) : Sem (List Value))).run P w = .ok vs' w := by
  intro l
  induction l with
  | nil =>
    intro h h1 n n1 L vs w x hr
    obtain ⟨rfl, rfl, rfl⟩ := ret_some hr
    exact ⟨[], .nil, rfl⟩
  | cons r l ih =>
    intro h h1 n n1 L vs w x hr
    cases r with
    | cell b t =>
      unfold evResults at hr
      obtain ⟨v, h2, n2, L1, L2, e1, e2, _⟩ := bind_some hr
      obtain ⟨us, h3, n3, L3, L4, e3, e4, _⟩ := bind_some e2
      obtain ⟨rfl, rfl, rfl⟩ := ret_some e4
      obtain ⟨b0, off, hsb, rfl, rfl, v', hv', hrun⟩ := load_still (hs.at_ b) x e1
      obtain ⟨vs', hvs, hrun2⟩ := ih _ _ _ _ _ _ w x e3
      refine ⟨v' :: vs', .cons hv' hvs, ?_⟩
      rw [List.mapM_cons]
      have h1 : (asAddr (a.tmps.getD b undef)).run P w = .ok ⟨b0, off, none⟩ w := by rw [hsb]; rfl
      have h2 : (loadVar t ⟨b0, off, none⟩).run P w = .ok v' w := by
        rw [Sem.run_bind, h1] at hrun
        exact hrun
      simp only [bind_assoc, pure_bind, Sem.run_bind, h1, Result.andThen, h2, hrun2, Sem.run_pure]
    | tmp t =>
      unfold evResults at hr
      obtain ⟨us, h2, n2, L1, L2, e1, e2, _⟩ := bind_some hr
      obtain ⟨rfl, rfl, rfl⟩ := ret_some e2
      obtain ⟨vs', hvs, hrun⟩ := ih _ _ _ _ _ _ w x e1
      refine ⟨a.tmps.getD t undef :: vs', .cons (hs.at_ t) hvs, ?_⟩
      rw [List.mapM_cons]
      simp only [pure_bind, Sem.run_bind, hrun, Result.andThen, Sem.run_pure]
theorem evLoad_same {P : Program} {t : TypeId} {v r : Value} {h h1 : H} {n n1 : Nat} {L : List En} (hr : evLoad P t v h n = some ⟨r, h1, n1, L⟩) : h1 = h ∧ n1 = n := by
  have rdS : ∀ {b k : Nat} {h h1 : H} {n n1 : Nat} {v : Value} {L : List En}, rd b k h n = some ⟨v, h1, n1, L⟩ → h1 = h ∧ n1 = n := by
    intro b k h h1 n n1 v L hr
    unfold rd at hr
    split at hr
    · split at hr
      · split at hr
        · simp only [Option.some.injEq, Out.mk.injEq] at hr
          exact ⟨hr.2.1.symm, hr.2.2.1.symm⟩
        · cases hr
      · cases hr
    · cases hr
  have rdNS : ∀ {c b k : Nat} {h h1 : H} {n n1 : Nat} {v : List Value} {L : List En}, rdN b k c h n = some ⟨v, h1, n1, L⟩ → h1 = h ∧ n1 = n := by
    intro c
    induction c with
    | zero =>
      intro b k h h1 n n1 v L hr
      obtain ⟨_, rfl, rfl⟩ := ret_some hr
      exact ⟨rfl, rfl⟩
    | succ c ih =>
      intro b k h h1 n n1 v L hr
      obtain ⟨v0, h2, n2, L1, L2, e2, e3, _⟩ := bind_some (m := rd b k) hr
      obtain ⟨rfl, rfl⟩ := rdS e2
      obtain ⟨ws, h4, n4, L3, L4, e4, e5, _⟩ := bind_some (m := rdN b (k + 1) c) e3
      obtain ⟨rfl, rfl⟩ := ih e4
      obtain ⟨_, rfl, rfl⟩ := ret_some e5
      exact ⟨rfl, rfl⟩
  unfold evLoad at hr
  split at hr
  · cases hg : agg? P t with
    | none => rw [hg] at hr; cases hr
    | some g =>
      rw [hg] at hr
      cases g with
      | false => exact rdS hr
      | true =>
        cases hs : size? P t with
        | none => rw [hs] at hr; cases hr
        | some k =>
          rw [hs] at hr
          obtain ⟨vs, h2, n2, L1, L2, e1, e2, _⟩ := bind_some hr
          obtain ⟨_, rfl, rfl⟩ := ret_some e2
          exact rdNS e1
  · cases hr
theorem evResults_same {P : Program} {s : S} : ∀ (l : List ResultVar) (h h1 : H) (n n1 : Nat) (L : List En) (vs : List Value), evResults P s l h n = some ⟨vs, h1, n1, L⟩ → h1 = h ∧ n1 = n := by
  intro l
  induction l with
  | nil =>
    intro h h1 n n1 L vs hr
    obtain ⟨_, rfl, rfl⟩ := ret_some hr
    exact ⟨rfl, rfl⟩
  | cons r l ih =>
    intro h h1 n n1 L vs hr
    cases r with
    | cell b t =>
      unfold evResults at hr
      obtain ⟨v, h2, n2, L1, L2, e1, e2, _⟩ := bind_some hr
      obtain ⟨us, h3, n3, L3, L4, e3, e4, _⟩ := bind_some e2
      obtain ⟨_, rfl, rfl⟩ := ret_some e4
      obtain ⟨rfl, rfl⟩ := evLoad_same e1
      exact ih _ _ _ _ _ _ e3
    | tmp t =>
      unfold evResults at hr
      obtain ⟨us, h2, n2, L1, L2, e1, e2, _⟩ := bind_some hr
      obtain ⟨_, rfl, rfl⟩ := ret_some e2
      exact ih _ _ _ _ _ _ e1
theorem okCode_of {P : Program} {bad : List FuncId} (hok : okProg P bad = true) {f : FuncId} {fn : Func} {c : Code} (hb : bad.contains f = false) (hf : P.funcs[f]? = some fn) (hc : fn.body = some c) : okCode P c = true := by
  unfold okProg at hok
  rw [List.all_eq_true] at hok
  have := hok (fn, f) (by
    rw [List.mem_iff_getElem?]
    exact ⟨f, by simp [List.getElem?_zipIdx, hf]⟩)
  simp only [hb, hc, Bool.false_or] at this
  exact this
/-- what the list's functions are known for -/
def GlobAt (w : World) : Prop := ∀ g ∈ KG, w.cell? ⟨g.1, g.2.1, none⟩ = some g.2.2
theorem chkG_at {P : Program} {m : Mp} {base : Nat} {h : H} {w : World} (x : WR P m base h w.heap) (g : Gl P m) : ∀ {l : List (Nat × Nat × Value)} {n n1 : Nat} {h1 : H} {u : Unit} {L : List En}, chkG P l h n = some ⟨u, h1, n1, L⟩ → h1 = h ∧ n1 = n ∧ ∀ q ∈ l, w.cell? ⟨q.1, q.2.1, none⟩ = some q.2.2
  | [], n, n1, h1, u, L, hr => by
    obtain ⟨_, rfl, rfl⟩ := ret_some hr
    exact ⟨rfl, rfl, fun q hq => by simp at hq⟩
  | q :: l, n, n1, h1, u, L, hr => by
    unfold chkG at hr
    obtain ⟨v, h2, n2, L1, L2, e1, e2, _⟩ := bind_some hr
    obtain ⟨rfl, rfl, d, v', hd, hc, hv⟩ := rd_at x e1
    by_cases hz : (decide (q.1 < P.globals.size) && sameI v q.2.2) = true
    · rw [if_pos hz] at e2
      simp only [Bool.and_eq_true, decide_eq_true_eq] at hz
      obtain ⟨d', hd', b1, b2⟩ := g q.1 hz.1
      rw [hd] at hd'
      cases hd'
      obtain ⟨r1, r2, r3⟩ := chkG_at x g e2
      refine ⟨r1, r2, fun y hy => ?_⟩
      rcases List.mem_cons.1 hy with e | e
      · subst e
        rw [b1, b2, Nat.zero_add] at hc
        rw [hc]
        have hz2 := hz.2
        cases hv <;> first | (simp [sameI] at hz2; done) | skip
        cases hq : y.2.2 <;> rw [hq] at hz2 <;> first | (simp [sameI] at hz2; done) | skip
        simp [sameI] at hz2
        rw [hz2.1, hz2.2]
      · exact r3 y e
    · rw [if_neg hz] at e2; cases e2
/-- what the library's known functions do in every world -/
def NatKnown (P : Program) (bad : List FuncId) : Prop := ∀ f k, bad.contains f = true → natOf f = some k → (k = 1 → ∀ (b o n c : Nat) (xs : List Int) (cv : Int) (w : World), xs.length = n → (∀ i, i < n → w.cell? ⟨b, o + i, none⟩ = some (.int .u8 (xs.getD i 0))) →
      Calls P f #[.slice (some ⟨b, o, none⟩) n c, .int .u8 cv] w fun e w' => e = .returned (.int .i64 (Lib.indexByte (Lib.bytesOf xs) cv.toNat.toUInt8)) ∧ Below w.heap.size w w') ∧
    (k = 2 → ∀ (s : ByteArray) (c : Nat) (w : World), c ≤ 1000000 → s.size ≤ 1000000 → Calls P f #[.string s, .int .i64 c] w fun e w' => e = .returned (.string ⟨(Lib.repeatL s.data.toList c).toArray⟩) ∧ Below w.heap.size w w') ∧
    (k = 3 → ∀ (args : Array Value) (v : Value) (w : World), args.toList.all scalar = true → natP f args.toList = some v → (∀ m, VR m v v) ∧ Calls P f args w fun e w' => e = .returned v ∧ Below w.heap.size w w') ∧
    (k = 4 → (∀ (v : Value) (w : World), natR f 0 [] = some v → (∀ m, VR m v v) ∧ Calls P f #[.slice none 0 0] w fun e w' => e = .returned v ∧ Below w.heap.size w w') ∧
      ∀ (b o n c : Nat) (cs : List Value) (v : Value) (w : World), cs.length = n * natZ f → cs.all scalar = true → (∀ i v, cs[i]? = some v → w.cell? ⟨b, o + i, none⟩ = some v) → n ≤ c → natR f n cs = some v → (∀ m, VR m v v) ∧ Calls P f #[.slice (some ⟨b, o, none⟩) n c] w fun e w' => e = .returned v ∧ Below w.heap.size w w')
structure Known (P : Program) (bad : List FuncId) : Prop where
  yes : ∀ f, bad.contains f = true → natOf f = none → noPar P f = true → ∀ w, GlobAt w → Calls P f #[] w fun e w' => e = .returned (.bool true) ∧ Below w.heap.size w w'
  nat : NatKnown P bad
theorem u8s_some : ∀ {vs : List Value} {l : List Int}, u8s vs = some l → vs = l.map (Value.int .u8)
  | [], l, h => by cases h; rfl
  | v :: r, l, h => by
    unfold u8s at h
    split at h
    · rename_i heq; cases heq
    · rename_i x r' heq
      cases heq
      split at h
      · rename_i l' hl
        cases h
        rw [u8s_some hl]; rfl
      · cases h
    · cases h
theorem vrs_ints {m : Mp} {k : IntKind} : ∀ {l : List Int} {vs : List Value}, VRs m (l.map (Value.int k)) vs → vs = l.map (Value.int k)
  | [], _, .nil => rfl
  | _ :: l, _, .cons (.int _ _) t => by rw [vrs_ints t]; rfl
theorem arr_ofL {a : Array Value} {l : List Value} (h : a.toList = l) : a = l.toArray := by rw [← h]
theorem VRs.plain {m : Mp} : ∀ {l l' : List Value}, VRs m l l' → l.all scalar = true → l' = l
  | _, _, .nil, _ => rfl
  | _, _, .cons h t, hs => by
    simp only [List.all_cons, Bool.and_eq_true] at hs
    rw [h.scalar hs.1, VRs.plain t hs.2]
theorem nat_sim {P : Program} {bad : List FuncId} {base : Nat} (hk : NatKnown P bad) {f : FuncId} {k : Nat} (hbad : bad.contains f = true) (hf : natOf f = some k) {args : List Value} {args' : Array Value} {h h1 : H} {n n1 : Nat} {v : Value} {L : List En} {m : Mp} {w : World} (hr : evNat f k args h n = some ⟨v, h1, n1, L⟩) (x : WR P m base h w.heap) (hb : base ≤ w.heap.size) (hargs : VRs m args args'.toList) :
    Calls P f args' w fun e w' => ∃ m' v', e = .returned v' ∧ Post P m base n n1 w h1 m' w' ∧ VR m' v v' := by
  have fin : ∀ w', Below w.heap.size w w' → Post P m base n n w h m w' := fun w' bel => by
    refine ⟨Le.refl _, fun _ _ => rfl, ⟨fun b B hB => ?_, x.inj⟩, bel.mono hb⟩
    obtain ⟨d, cs, lo, hi, h1, h2, h3⟩ := x.live b B hB
    exact ⟨d, cs, lo, hi, h1, (bel.block d.blk (Array.getElem?_eq_some_iff.1 h2).1).trans h2, h3⟩
  unfold evNat at hr
  split at hr
  · unfold evNat1 at hr
    split at hr
    · rename_i b off len cap c
      generalize hq : args'.toList = as at hargs
      cases hargs with
      | cons ha hargs =>
      cases hargs with
      | cons hc hargs =>
      cases hargs
      cases hc
      unfold evIdx at hr
      obtain ⟨vs, h2, n2, L1, L2, e1, e2, _⟩ := bind_some hr
      cases ha with
      | @slc _ _ _ _ cap' o' d hd ho _ _ _ _ =>
        obtain ⟨rfl, rfl, hl, vs', hvs, hcs⟩ := rdN_at x hd e1
        cases hu : u8s vs with
        | none => rw [hu] at e2; cases e2
        | some l =>
          rw [hu] at e2
          obtain ⟨rfl, rfl, rfl⟩ := ret_some e2
          have hvl := u8s_some hu
          rw [hvl] at hvs hl
          have hv' := vrs_ints hvs
          rw [hv'] at hcs
          simp only [List.length_map] at hl
          rw [arr_ofL hq]
          refine ((hk f 1 hbad hf).1 rfl d.blk o' len cap' l c w hl fun i hi => ?_).mono ?_
          · rw [ho (.inl (by omega))]
            exact hcs i _ (by rw [List.getElem?_map, List.getElem?_eq_getElem (by omega), List.getD_eq_getElem?_getD, List.getElem?_eq_getElem (by omega)]; rfl)
          · rintro e w' ⟨rfl, bel⟩
            exact ⟨m, _, rfl, fin w' bel, .int _ _⟩
    · cases hr
  · unfold evNat2 at hr
    split at hr
    · rename_i s c
      generalize hq : args'.toList = as at hargs
      cases hargs with
      | cons ha hargs =>
      cases hargs with
      | cons hc hargs =>
      cases hargs
      cases hc
      cases ha
      unfold evRep at hr
      split at hr
      · rename_i hz
        simp only [Bool.and_eq_true, decide_eq_true_eq] at hz
        obtain ⟨rfl, rfl, rfl⟩ := ret_some hr
        rw [arr_ofL hq]
        obtain ⟨c, rfl⟩ : ∃ k : Nat, c = k := ⟨c.toNat, by omega⟩
        refine ((hk f 2 hbad hf).2.1 rfl s c w (by omega) hz.2).mono ?_
        rintro e w' ⟨rfl, bel⟩
        exact ⟨m, _, rfl, fin w' bel, by rw [Int.toNat_natCast]; exact .string _⟩
      · cases hr
    · cases hr
  · unfold evNat3 at hr
    split at hr
    · rename_i hs
      obtain ⟨hv, rfl, rfl⟩ := lift_some hr
      have e := hargs.plain hs
      rw [← e] at hs hv
      obtain ⟨q1, q2⟩ := (hk f 3 hbad hf).2.2.1 rfl args' v w hs hv
      refine q2.mono ?_
      rintro e w' ⟨rfl, bel⟩
      exact ⟨m, _, rfl, fin w' bel, q1 m⟩
    · cases hr
  · unfold evNat4 at hr
    split at hr
    · generalize hq : args'.toList = as at hargs
      cases hargs with
      | cons ha hargs =>
      cases hargs
      cases ha
      obtain ⟨hv, rfl, rfl⟩ := lift_some hr
      rw [arr_ofL hq]
      obtain ⟨q1, q2⟩ := ((hk f 4 hbad hf).2.2.2 rfl).1 v w hv
      refine q2.mono ?_
      rintro e w' ⟨rfl, bel⟩
      exact ⟨m, _, rfl, fin w' bel, q1 m⟩
    · rename_i b off len cap
      generalize hq : args'.toList = as at hargs
      cases hargs with
      | cons ha hargs =>
      cases hargs
      obtain ⟨vs, h2, n2, L1, L2, e1, e2, _⟩ := bind_some hr
      cases ha with
      | @slc _ _ _ _ cap' o' d hd ho hc1 hc2 hn _ =>
        obtain ⟨rfl, rfl, hl, vs', hvs, hcs⟩ := rdN_at x hd e1
        split at e2
        · rename_i hs
          obtain ⟨hv, rfl, rfl⟩ := lift_some e2
          have e := hvs.plain hs
          subst e
          rw [arr_ofL hq]
          obtain ⟨q1, q2⟩ := ((hk f 4 hbad hf).2.2.2 rfl).2 d.blk o' len cap' vs' v w hl hs (fun i u hu => by
            have hi := (List.getElem?_eq_some_iff.1 hu).1
            have h0 : 0 < len := by
              rcases Nat.eq_zero_or_pos len with q | q
              · rw [q, Nat.zero_mul] at hl; omega
              · exact q
            rw [ho (.inl h0)]
            exact hcs i u hu) hn hv
          refine q2.mono ?_
          rintro e w' ⟨rfl, bel⟩
          exact ⟨m, _, rfl, fin w' bel, q1 m⟩
        · cases e2
    · cases hr
  · cases hr
theorem call_sim {P : Program} {base : Nat} {bad : List FuncId} (hnm : okNames P = true) (hok : okProg P bad = true) (hmix : P.follows .mixedOrders = true) (hkn : Known P bad) : ∀ fuel, CallSim P base (evCall P bad fuel) := by
  have hop : OpSim P base := op_sim hnm
  intro fuel
  induction fuel with
  | zero => intro f args h n v h1 n1 L m w args' hr; cases hr
  | succ fuel ih =>
    intro f args h n v h1 n1 L m w args' hr x hb hargs hf g
    unfold evCall at hr
    by_cases hbad : bad.contains f = true
    · rw [if_pos hbad] at hr
      cases hnat : natOf f with
      | some k =>
        rw [hnat] at hr
        exact nat_sim hkn.nat hbad hnat hr x hb hargs
      | none =>
      rw [hnat] at hr
      simp only at hr
      by_cases hz : (decide (args.size = 0) && noPar P f) = true
      · rw [if_pos hz] at hr
        simp only [Bool.and_eq_true, decide_eq_true_eq] at hz
        obtain ⟨u, h2, n2, L1, L2, c1, c2, _⟩ := bind_some hr
        obtain ⟨rfl, rfl, hglob⟩ := chkG_at x g c1
        obtain ⟨rfl, rfl, rfl⟩ := ret_some c2
        have hl := hargs.length
        have e1 : args' = #[] := by
          apply Array.eq_empty_of_size_eq_zero
          simp at hl
          omega
        subst e1
        refine (hkn.yes f hbad hnat hz.2 w hglob).mono ?_
        rintro e w' ⟨rfl, bel⟩
        refine ⟨m, _, rfl, ⟨Le.refl _, fun _ _ => rfl, ⟨fun b B hB => ?_, x.inj⟩, bel.mono hb⟩, .bool true⟩
        obtain ⟨d, cs, lo, hi, h1, h2, h3⟩ := x.live b B hB
        exact ⟨d, cs, lo, hi, h1, (bel.block d.blk (Array.getElem?_eq_some_iff.1 h2).1).trans h2, h3⟩
      · rw [if_neg hz] at hr; cases hr
    rw [if_neg hbad] at hr
    cases hfn : P.funcs[f]? with
    | none => rw [hfn] at hr; cases hr
    | some fn =>
      rw [hfn] at hr
      simp only at hr
      cases hc : fn.body with
      | none => rw [hc] at hr; cases hr
      | some c =>
        rw [hc] at hr
        simp only at hr
        by_cases hcond : (args.size ≤ fn.ntmps && fn.ntmps < 1000) = true
        · rw [if_pos hcond] at hr
          simp only [Bool.and_eq_true, decide_eq_true_eq] at hcond
          obtain ⟨L', hr⟩ := inside_some hr
          obtain ⟨y, h2, n2, L1, L2, e1, e2, _⟩ := bind_some hr
          obtain ⟨e, s1⟩ := y
          have hokc : okCode P c = true := okCode_of hok (Bool.eq_false_iff.2 hbad) hfn hc
          have hrl := fun f a => Loc.evCall P bad fuel f a
          refine calls_of_wp hfn hc ?_
          have fin : ∀ (e' : Ex) (hn : cv e' = .normal ∨ cv e' = .ret) (heq : e = e'), ((evResults P s1 fn.results.toList).bind fun vs => M.ret (match vs with | [v] => v | _ => .tuple vs.toArray)) h2 n2 = some ⟨v, h1, n1, L2⟩ →
              c.wp P (bodyPost P fn fun e w' => ∃ m' v', e = .returned v' ∧ Post P m base n n1 w h1 m' w' ∧ VR m' v v') { tmps := args' ++ Array.replicate (fn.ntmps - args'.size) undef, defers := [] } w := by
            intro e' hn heq e3
            subst heq
            obtain ⟨vs, h3, n3, L3, L4, e4, e5, _⟩ := bind_some e3
            obtain ⟨rfl, rfl, rfl⟩ := ret_some e5
            obtain ⟨rfl, rfl⟩ := evResults_same _ _ _ _ _ _ _ e4
            refine code_sim hop ih hrl hmix fuel c hokc _ m _ s1 _ w h _ n _ L1 e x hb g (args_sr hargs hcond.1 hcond.2) e1 hf fun m' a' w' hp hs' => ?_
            obtain ⟨vs', hvs, hrun⟩ := results_at hs' _ _ _ _ _ _ _ w' hp.wr e4
            have hres : (results fn a'.tmps).run P w' = .ok (if h : vs'.toArray.size = 1 then vs'.toArray[0] else .tuple vs'.toArray) w' := by
              unfold results
              rw [Array.mapM_eq_mapM_toList]
              simp only [map_eq_pure_bind, bind_assoc, pure_bind, Sem.run_bind]
              refine Eq.trans (congrArg (fun r => Result.andThen r _) hrun) ?_
              simp only [Result.andThen, Sem.run_pure]
            have hval : VR m' (match vs with | [v] => v | _ => .tuple vs.toArray) (if h : vs'.toArray.size = 1 then vs'.toArray[0] else .tuple vs'.toArray) := by
              cases hvs with
              | nil => exact .tuple .nil
              | cons hv ht =>
                cases ht with
                | nil => exact hv
                | cons hv2 ht2 => exact .tuple (.cons hv (.cons hv2 ht2))
            have : bodyPost P fn (fun e w' => ∃ m' v', e = .returned v' ∧ Post P m base n n1 w h1 m' w' ∧ VR m' (match vs with | [v] => v | _ => .tuple vs.toArray) v') (cv e) a' w' := by
              rcases hn with hn | hn <;> rw [hn] <;> exact ⟨hs'.df, _, hres, m', _, rfl, hp, hval⟩
            exact this
          cases e with
          | normal => exact fin .normal (.inl rfl) rfl e2
          | ret => exact fin .ret (.inr rfl) rfl e2
          | exit id => cases e2
        · rw [if_neg hcond] at hr; cases hr

def yieldsTrue (r : Option (Out Value)) : Bool := match r with
  | some o => (match o.val with | .bool b => b | _ => false)
  | none => false
end Go.Proofs.YtmjolmggelkjlaaGreat.Ev
/- A second form of the evaluator, in the continuing style, whose frames are lists of what is known: what it yields the first one yields. Its definitions. No program in sight. -/
namespace Go.Proofs.YtmjolmggelkjlaaGreat.Ev
set_option linter.unusedVariables false
set_option linter.unusedSimpArgs false
open Go

abbrev Fr := List (Nat × Value)
def Fr.at_ : Fr → Nat → Option Value
  | [], _ => none
  | (u, v) :: r, t => match Nat.beq u t with
    | true => some v
    | false => Fr.at_ r t
def Fr.keep (s : Fr) : List Nat → Fr
  | [] => []
  | t :: r => match s.at_ t with
    | some v => (t, v) :: Fr.keep s r
    | none => Fr.keep s r
def Fr.keys : Fr → List Nat
  | [] => []
  | (u, _) :: r => u :: Fr.keys r
def putF (s : Fr) (dst : Option Tmp) (v : Value) : Fr := match dst with
  | none => s
  | some d => (d, v) :: s
def optK {α β : Type} (o : Option α) (k : α → M β) : M β := match o with
  | some v => k v
  | none => .fail
def evo (s : Fr) : Operand → Option Value
  | .tmp t => s.at_ t
  | .const v => some v
  | .global g => some (.pointer (some ⟨g, 0, none⟩))
  | .func f => some (.func (.func f) #[] #[])
def evosK {β : Type} (s : Fr) : List Operand → (List Value → M β) → M β
  | [], k => k []
  | x :: r, k => optK (evo s x) fun v => evosK s r fun vs => k (v :: vs)
def evoK {β : Type} (s : Fr) (x : Option Operand) (k : Option Value → M β) : M β := match x with
  | some x => optK (evo s x) fun v => k (some v)
  | none => k none
def ifV {β : Type} (v : Value) (x y : M β) : M β := match v with
  | .bool true => x
  | .bool false => y
  | _ => .fail

section
variable (P : Program)
/-- a step on numbers, texts and truths alone -/
def plainS (ok : Bool) (s : Sem Value) : Option Value :=
  match ok with
  | true => match pureRun P (do pure (.value (← s))) with
    | some v => match scalar v with
      | true => some v
      | false => none
    | none => none
  | false => none
def pick2 (c a b : Value) : Option Value := match c with
  | .bool t => some (if t then a else b)
  | _ => none
def nil2 : Value → Option Value
  | .pointer (some a) => some (.pointer (some a))
  | .func (.func f) a b => some (.func (.func f) a b)
  | _ => none
def isNilT (t : TypeId) : Bool := match P.underlying t with
  | some (.pointer _) | some (.slice _) | some (.func _ _ _) | some (.struct _) => true
  | _ => false
def binN (op : BinOp) (t : TypeId) (x y : Value) : Option Value := match anyEq P t x y, op with
  | some v, .eql => some (.bool v)
  | some v, .neq => some (.bool (!v))
  | _, _ => none
def binP (op : BinOp) (t : TypeId) (x y : Value) : Option Value := plainS P (scalar x && scalar y) (Go.binOp op t x y)
def bin2 (op : BinOp) (t : TypeId) (x y : Value) : Option Value := match isNilT P t with
  | true => binN P op t x y
  | false => binP P op t x y
def un2 (op : UnOp) (x : Value) : Option Value := plainS P (scalar x) (Op.unary op x)
def toBy2? : Option TypeDesc → Option TypeDesc → Option TypeId
  | some .string, some (.slice e) => some e
  | _, _ => none
def toBytes2 (e : TypeId) (x : Value) : M Value := match x with
  | .string s => evToBytes e s
  | _ => .fail
def conv2 {β : Type} (src dst : TypeId) (x : Value) (k : Value → M β) : M β :=
  match toStr? (P.underlying src) (P.underlying dst) with
  | some e => match u8? P e with
    | true => (inside (evToStr x)).bind k
    | false => .fail
  | none => match toBy2? (P.underlying src) (P.underlying dst) with
    | some e => match u8? P e && size? P e == some 1 with
      | true => (inside (toBytes2 e x)).bind k
      | false => .fail
    | none => optK (plainS P (scalar x) (Go.convert src dst x)) k
def scal? : Option Value → Bool
  | some v => scalar v
  | none => true
def strSl (t : TypeId) (x : Value) (lo hi mx : Option Value) : Option Value := match isStr x with
  | true => plainS P (scal? lo && scal? hi && scal? mx) (Instr.sliceAt t x lo hi mx)
  | false => none
def slSl (t : TypeId) (x : Value) (lo hi mx : Option Value) : M Value := match isStr x with
  | true => .fail
  | false => evSliceM P t x lo hi mx
def isStrT (t : TypeId) : Bool := match P.underlying t with
  | some .string => true
  | _ => false
def slice2 {β : Type} (t : TypeId) (x : Value) (lo hi mx : Option Value) (k : Value → M β) : M β := match isStrT P t with
  | true => optK (strSl P t x lo hi mx) k
  | false => (inside (slSl P t x lo hi mx)).bind k
def strIx (t : TypeId) (x ix : Value) : Option Value := match isStr x with
  | true => plainS P (scalar ix) (Instr.index t x ix)
  | false => none
def arrIx (t : TypeId) (x ix : Value) : Option Value := match isStr x with
  | true => none
  | false => evIndex P t x ix
def index2 (t : TypeId) (x ix : Value) : Option Value := match isStrT P t with
  | true => strIx P t x ix
  | false => arrIx P t x ix
def lenS : Value → Option Value
  | .slice _ n _ => some (.int .i64 n)
  | _ => none
def lenT : Value → Option Value
  | .string s => some (.int .i64 s.size)
  | _ => none
def len2 (ats : Array TypeId) (vs : List Value) : Option Value := match ats[0]?, vs with
  | some t, [x] => match P.underlying t with
    | some (.slice _) => lenS x
    | some .string => lenT x
    | _ => none
  | _, _ => none
def imin (a b : Int) : Int := if b < a then b else a
def min2 : List Value → Option Value
  | [.int k a, .int _ b] => some (.int k (if b < a then b else a))
  | [.int k a, .int _ b, .int _ c, .int _ d, .int _ e, .int _ f] => some (.int k (imin (imin (imin (imin (imin a b) c) d) e) f))
  | _ => none
def max2 : List Value → Option Value
  | [.int k a, .int _ b] => some (.int k (if a < b then b else a))
  | _ => none

variable (rec : FuncId → Array Value → M Value)
def callV {β : Type} (fv : Value) (vs : List Value) (k : Value → M β) : M β :=
  optK (asFn? fv) fun q => match hasBody P q.1 with
    | true => (inside (rec q.1 (q.2.1.toList ++ vs ++ q.2.2.toList).toArray)).bind k
    | false => .fail
def app2 {β : Type} (ats : Array TypeId) (vs : List Value) (k : Value → M β) : M β :=
  optK (app? P ats vs) fun q => (inside (evAppend P q.1 q.2.1 q.2.2)).bind k
def copy2 {β : Type} (ats : Array TypeId) (vs : List Value) (k : Value → M β) : M β :=
  optK (cpy? ats vs) fun q => (inside (evCopy P q.1 q.2.1 q.2.2)).bind k
def call2 {β : Type} (s : Fr) (c : Call) (vs : List Value) (k : Value → M β) : M β :=
  match c.callee with
  | .value f => optK (evo s f) fun fv => callV P rec fv vs k
  | .builtin .append => app2 P c.argTypes vs k
  | .builtin .copy => copy2 P c.argTypes vs k
  | .builtin .len => optK (len2 P c.argTypes vs) k
  | .builtin .min => optK (min2 vs) k
  | .builtin .max => optK (max2 vs) k
  | _ => .fail
def op2 {β : Type} (s : Fr) (o : Oper) (k : Value → M β) : M β :=
  match o.op with
  | .move x | .assign x => optK (evo s x) k
  | .pick c a b => optK (evo s c) fun c => optK (evo s a) fun a => optK (evo s b) fun b => optK (pick2 c a b) k
  | .alloc e => (inside (evAlloc P e)).bind k
  | .box e x => optK (evo s x) fun x => (inside (evBox P e x)).bind k
  | .build t parts => evosK s (parts.toList.map (·.2)) fun vs => (inside (evBuild P t ((parts.toList.map (·.1)).zip vs))).bind k
  | .buildSlice t len parts => evosK s (parts.toList.map (·.2)) fun vs => (inside (evBuildSlice P t len ((parts.toList.map (·.1)).zip vs))).bind k
  | .load t a => optK (evo s a) fun a => (inside (evLoad P t a)).bind k
  | .store t a x => optK (evo s a) fun a => optK (evo s x) fun x => (inside (evStore P t a x)).bind k
  | .nilCheck x => optK (evo s x) fun x => optK (nil2 x) k
  | .binOp op t x y _ => optK (evo s x) fun x => optK (evo s y) fun y => optK (bin2 P op t x y) k
  | .unOp op _ x => optK (evo s x) fun x => optK (un2 P op x) k
  | .convert src dst x => optK (evo s x) fun x => conv2 P src dst x k
  | .makeFunc fn a b => evosK s a.toList fun a => evosK s b.toList fun b => k (.func fn a.toArray b.toArray)
  | .makeSlice t l c => optK (evo s l) fun l => optK (evo s c) fun c => (inside (evMakeSlice P t l c)).bind k
  | .slice t x lo hi mx => optK (evo s x) fun x => evoK s lo fun lo => evoK s hi fun hi => evoK s mx fun mx => slice2 P t x lo hi mx k
  | .fieldAddr t x f => optK (evo s x) fun x => optK (evFieldAddr P t x f) k
  | .field t x f => optK (evo s x) fun x => optK (evField P t x f) k
  | .indexAddr t x ix => optK (evo s x) fun x => optK (evo s ix) fun ix => optK (evIndexAddr P t x ix) k
  | .index t x ix => optK (evo s x) fun x => optK (evo s ix) fun ix => optK (index2 P t x ix) k
  | .extract t i => optK (evo s t) fun t => optK (evExtract t i) k
  | .call c => evosK s c.args.toList fun vs => call2 P rec s c vs k
  | _ => .fail

/-- what of memory an operation may touch: 0 nothing, 1 it reads, 2 it makes a block, 3 whatever -/
def kind (o : Op) : Nat := match o with
  | .move _ | .assign _ | .pick _ _ _ | .nilCheck _ | .binOp _ _ _ _ _ | .unOp _ _ _ | .makeFunc _ _ _ | .fieldAddr _ _ _ | .field _ _ _ | .indexAddr _ _ _ | .index _ _ _ | .extract _ _ | .build _ _ => 0
  | .load _ _ | .slice _ _ _ _ _ => 1
  | .alloc _ | .box _ _ | .buildSlice _ _ _ | .makeSlice _ _ _ => 2
  | .call c => match c.callee with
    | .builtin .len | .builtin .min | .builtin .max => 0
    | _ => 3
  | _ => 3
def fits (i j : Nat) : Bool := i == 0 || j == 0 || (i == 1 && j == 1) || (i == 2 && j == 2) || (i == 1 && j == 2)
def safeAll (ops : Array Oper) (bef : List Nat) (j : Nat) (oj : Oper) : Nat → List Oper → Bool
  | _, [] => true
  | k, ok :: r => ((bef.getD k 0).testBit j || (fits (kind oj.op) (kind ok.op) && !(slotClash ops oj ok))) && safeAll ops bef j oj (k + 1) r
def safePairs (ops : Array Oper) (bef : List Nat) : Nat → List Oper → Bool
  | _, [] => true
  | j, oj :: r => safeAll ops bef j oj (j + 1) r && safePairs ops bef (j + 1) r
def staticOk (ops : Array Oper) : Bool := edgesOk ops && safePairs ops (befores ops.toList []) 0 ops.toList
end

end Go.Proofs.YtmjolmggelkjlaaGreat.Ev
/- The second form's operations yield what the first one's do. No program in sight. -/
namespace Go.Proofs.YtmjolmggelkjlaaGreat.Ev
set_option linter.unusedVariables false
set_option linter.unusedSimpArgs false
open Go

def Does {α : Type} (m : Nat → M α) (h : H) (n : Nat) (a : α) (h1 : H) (n1 : Nat) (L : List En) : Prop := ∃ f0, ∀ fuel, f0 ≤ fuel → m fuel h n = some ⟨a, h1, n1, L⟩
theorem Does.of {α : Type} {m : M α} {h h1 : H} {n n1 : Nat} {a : α} {L : List En} (e : m h n = some ⟨a, h1, n1, L⟩) : Does (fun _ => m) h n a h1 n1 L := ⟨0, fun _ _ => e⟩
theorem bind_run {α β : Type} {m : M α} {f : α → M β} {h h1 h2 : H} {n n1 n2 : Nat} {a : α} {b : β} {L1 L2 : List En} (e1 : m h n = some ⟨a, h1, n1, L1⟩) (e2 : f a h1 n1 = some ⟨b, h2, n2, L2⟩) : (m.bind f) h n = some ⟨b, h2, n2, L1 ++ L2⟩ := by
  unfold M.bind
  rw [e1]
  simp only
  rw [e2]
theorem Does.bind {α β : Type} {m : Nat → M α} {f : Nat → α → M β} {h h1 h2 : H} {n n1 n2 : Nat} {a : α} {b : β} {L1 L2 : List En} (x : Does m h n a h1 n1 L1) (y : Does (fun fuel => f fuel a) h1 n1 b h2 n2 L2) :
    Does (fun fuel => (m fuel).bind (f fuel)) h n b h2 n2 (L1 ++ L2) := by
  obtain ⟨f0, x⟩ := x
  obtain ⟨f1, y⟩ := y
  exact ⟨max f0 f1, fun fuel hf => bind_run (x fuel (by omega)) (y fuel (by omega))⟩
theorem Does.map {α : Type} {m m' : Nat → M α} {h h1 : H} {n n1 : Nat} {a : α} {L : List En} (x : Does m h n a h1 n1 L) (e : ∀ fuel, m' fuel = m fuel) : Does m' h n a h1 n1 L := by
  obtain ⟨f0, x⟩ := x
  exact ⟨f0, fun fuel hf => by rw [e]; exact x fuel hf⟩
theorem inside_run {α : Type} {m : M α} {h h1 : H} {n n1 : Nat} {a : α} {L : List En} (e : m h n = some ⟨a, h1, n1, L⟩) : inside m h n = some ⟨a, h1, n1, L.filter fun e => !(n ≤ e.b && e.b < n1)⟩ := by
  unfold inside
  rw [e]
theorem Does.inside {α : Type} {m : Nat → M α} {h h1 : H} {n n1 : Nat} {a : α} {L : List En} (x : Does m h n a h1 n1 L) : Does (fun fuel => Ev.inside (m fuel)) h n a h1 n1 (L.filter fun e => !(n ≤ e.b && e.b < n1)) := by
  obtain ⟨f0, x⟩ := x
  exact ⟨f0, fun fuel hf => inside_run (x fuel hf)⟩
theorem inside_inv {α : Type} {m : M α} {h h1 : H} {n n1 : Nat} {a : α} {L : List En} (hr : Ev.inside m h n = some ⟨a, h1, n1, L⟩) : ∃ L', m h n = some ⟨a, h1, n1, L'⟩ ∧ L = L'.filter fun e => !(n ≤ e.b && e.b < n1) := by
  unfold Ev.inside at hr
  split at hr
  · rename_i a' h' n' L' e
    simp only [Option.some.injEq, Out.mk.injEq] at hr
    obtain ⟨rfl, rfl, rfl, rfl⟩ := hr
    exact ⟨L', e, rfl⟩
  · cases hr

def Sub (s : Fr) (s1 : S) : Prop := ∀ t v, s.at_ t = some v → s1.get t = v
theorem Sub.evo {s : Fr} {s1 : S} (hs : Sub s s1) {x : Operand} {v : Value} (h : Ev.evo s x = some v) : ev s1 x = v := by
  cases x with
  | tmp t => exact hs t v h
  | const u => cases h; rfl
  | global g => cases h; rfl
  | func f => cases h; rfl
theorem optK_some {α β : Type} {o : Option α} {k : α → M β} {h : H} {n : Nat} {r : Out β} (hr : optK o k h n = some r) : ∃ v, o = some v ∧ k v h n = some r := by
  cases o with
  | none => cases hr
  | some v => exact ⟨v, rfl, hr⟩
theorem evosK_some {β : Type} {s : Fr} {s1 : S} (hs : Sub s s1) : ∀ {l : List Operand} {k : List Value → M β} {h : H} {n : Nat} {r : Out β}, evosK s l k h n = some r → ∃ vs, vs = l.map (ev s1) ∧ k vs h n = some r
  | [], k, h, n, r, hr => ⟨[], rfl, hr⟩
  | x :: l, k, h, n, r, hr => by
    unfold evosK at hr
    obtain ⟨v, hv, hr⟩ := optK_some hr
    obtain ⟨vs, e, hr⟩ := evosK_some hs hr
    exact ⟨v :: vs, by rw [List.map_cons, hs.evo hv, e], hr⟩
theorem evoK_some {β : Type} {s : Fr} {s1 : S} (hs : Sub s s1) {x : Option Operand} {k : Option Value → M β} {h : H} {n : Nat} {r : Out β} (hr : evoK s x k h n = some r) : k (x.map (ev s1)) h n = some r := by
  cases x with
  | none => exact hr
  | some x =>
    obtain ⟨v, hv, hr⟩ := optK_some hr
    simp only [Option.map_some, hs.evo hv]
    exact hr

def cont (P : Program) (kn : List FuncId) (fuel : Nat) : Nx → M Value
  | .val v => .ret v
  | .call f args => evCall P kn fuel f args
theorem bindV_eq {m : M Value} {P : Program} {kn : List FuncId} {fuel : Nat} : (m.bind fun v => .ret (.val v)).bind (cont P kn fuel) = m := by
  funext h n
  unfold M.bind
  cases m h n with
  | none => rfl
  | some o => simp [M.ret, cont]
theorem ret_val {v : Value} {P : Program} {kn : List FuncId} {fuel : Nat} : (M.ret (Nx.val v)).bind (cont P kn fuel) = M.ret v := by
  funext h n
  simp [M.bind, M.ret, cont]
theorem ret_call {f : FuncId} {args : Array Value} {P : Program} {kn : List FuncId} {fuel : Nat} : (M.ret (Nx.call f args)).bind (cont P kn fuel) = evCall P kn fuel f args := by
  funext h n
  simp only [M.bind, M.ret, cont]
  cases evCall P kn fuel f args h n with
  | none => rfl
  | some o => simp
theorem lift_some_eq {α : Type} (a : α) : M.lift (some a) = M.ret a := rfl
theorem bind_ret {α β : Type} (a : α) (f : α → M β) : (M.ret a).bind f = f a := by
  funext h n
  simp only [M.bind, M.ret]
  cases f a h n with
  | none => rfl
  | some o => simp

def Conc (E : Nat → M Value) {β : Type} (k : Value → M β) (h : H) (n : Nat) (r : Out β) : Prop :=
  ∃ v h1 n1 L1 L2, Does (fun fuel => inside (E fuel)) h n v h1 n1 L1 ∧ k v h1 n1 = some ⟨r.val, r.h, r.n, L2⟩ ∧ r.log = L1 ++ L2
section
variable {β : Type} {E : Nat → M Value} {k : Value → M β} {h : H} {n : Nat} {r : Out β}
theorem mem_case {m : M Value} (hr : ((inside m).bind k) h n = some r) (hm : ∀ fuel, E fuel = m) : Conc E k h n r := by
  obtain ⟨c, h2, n2, L⟩ := r
  obtain ⟨v, h1, n1, L1, L2, e1, e2, e3⟩ := bind_some hr
  exact ⟨v, h1, n1, L1, L2, ⟨0, fun fuel _ => by show Ev.inside (E fuel) h n = _; rw [hm]; exact e1⟩, e2, e3⟩
theorem pure_case {v : Value} (hr : k v h n = some r) (hm : ∀ fuel, E fuel = M.ret v) : Conc E k h n r := by
  obtain ⟨c, h2, n2, L⟩ := r
  exact ⟨v, h, n, [], L, ⟨0, fun fuel _ => by show Ev.inside (E fuel) h n = _; rw [hm]; rfl⟩, hr, rfl⟩
theorem call_case {P : Program} {kn : List FuncId} {rec : FuncId → Array Value → M Value} (hrec : ∀ f args h n v h1 n1 L, rec f args h n = some ⟨v, h1, n1, L⟩ → Does (fun fuel => evCall P kn fuel f args) h n v h1 n1 L) {g : FuncId} {args : Array Value}
    (hr : ((inside (rec g args)).bind k) h n = some r) (hm : ∀ fuel, E fuel = evCall P kn fuel g args) : Conc E k h n r := by
  obtain ⟨c, h2, n2, L⟩ := r
  obtain ⟨v, h1, n1, L1, L2, e1, e2, e3⟩ := bind_some hr
  obtain ⟨L', e4, rfl⟩ := inside_inv e1
  exact ⟨v, h1, n1, _, L2, ((hrec _ _ _ _ _ _ _ _ e4).map hm).inside, e2, e3⟩
end

theorem plainS_some {P : Program} {ok : Bool} {s : Sem Value} {v : Value} (h : plainS P ok s = some v) : ok = true ∧ pureRun P (do pure (.value (← s))) = some v ∧ scalar v = true := by
  unfold plainS at h
  cases ok with
  | false => cases h
  | true =>
    simp only at h
    split at h
    · rename_i u hu
      split at h
      · rename_i hs
        cases h
        exact ⟨rfl, hu, hs⟩
      · cases h
    · cases h
theorem evPlain_run {P : Program} {ρ : Operand → Value} {o : Oper} {v : Value} (h1 : (o.op.operands.all fun x => scalar (ρ x)) = true) (h2 : pureRun P (execOp ρ o) = some v) (h3 : scalar v = true) : evPlain P ρ o = M.ret (.val v) := by
  unfold evPlain
  rw [if_pos h1, h2, lift_some_eq, bind_ret, if_pos h3]
theorem nilEq_none {P : Program} {t : TypeId} (h : isNilT P t = false) (x y : Value) : anyEq P t x y = none := by
  unfold isNilT at h
  unfold anyEq stKinds
  generalize P.underlying t = d at h
  cases d with
  | none => rfl
  | some d => cases d <;> first | (cases h; done) | rfl | (unfold nilEq; rfl)
theorem guard_pure {op : BinOp} {t : TypeId} {x y : Operand} {a b : Value} (ha : scalar a = true) (hb : scalar b = true) : eqGuard op t x y a b = pure () := by
  cases a <;> first | (simp [scalar] at ha; done) | skip
  all_goals cases b <;> first | (simp [scalar] at hb; done) | skip
  all_goals cases op <;> rfl
theorem bin_case {P : Program} {s1 : S} {op : BinOp} {t yt : TypeId} {x y : Operand} {v : Value} {dst : Option Tmp} {ty : TypeId} {pos : String} {after : Array Edge} {guard : Option (Nat × Bool)}
    (h : bin2 P op t (ev s1 x) (ev s1 y) = some v) : evOp P (ev s1) ⟨dst, .binOp op t x y yt, ty, pos, after, guard⟩ = M.ret (.val v) := by
  unfold bin2 at h
  split at h
  · unfold binN at h
    unfold evOp
    simp only
    split at h
    · rename_i q
      cases h
      rw [q]
    · rename_i q
      cases h
      rw [q]
    · cases h
  · rename_i hn
    unfold binP at h
    obtain ⟨h1, h2, h3⟩ := plainS_some h
    unfold evOp
    simp only [nilEq_none hn]
    simp only [Bool.and_eq_true] at h1
    refine evPlain_run (by simp [Op.operands, h1.1, h1.2]) ?_ h3
    rw [← h2]
    simp only [execOp, guard_pure h1.1 h1.2]
    rfl
theorem toBy_none {a b : Option TypeDesc} {v : Value} (h : toBy2? a b = none) : toBy? a b v = none := by
  unfold toBy2? at h
  unfold toBy?
  split at h
  · cases h
  · rename_i hn
    split
    · rename_i e s
      exact (hn _ rfl rfl).elim
    · rfl

end Go.Proofs.YtmjolmggelkjlaaGreat.Ev

/- Single operations, the part without append: what the evaluator finds holds of every run. No program in sight. -/
import Derived.Test.YtmjolmggelkjlaaGreatEvF
import Derived.Laws.Append
import Derived.Laws.MakeOwn
import Derived.Laws.BytesString
namespace Go.Proofs.YtmjolmggelkjlaaGreat.Ev
set_option linter.unusedVariables false
set_option linter.unusedSimpArgs false
open Go Go.RowKit

theorem pureRun_run {P : Program} : ∀ (s : Sem Next) (v : Value), pureRun P s = some v → ∀ w, s.run P w = .ok (.value v) w := by
  intro s
  induction s with
  | pure a =>
    intro v h w
    cases a <;> simp [pureRun] at h
    subst h; rfl
  | program k ih =>
    intro v h w
    exact ih P v (by simpa [pureRun] using h) w
  | _ => intro v h; simp [pureRun] at h
def Sound (P : Program) (base : Nat) (m : Mp) (w : World) (h : H) (n : Nat) (s : Sem Value) (r : Value) (h1 : H) (n1 : Nat) : Prop :=
  ∃ m' w' v', s.run P w = .ok v' w' ∧ Post P m base n n1 w h1 m' w' ∧ VR m' r v'
theorem size_info {P : Program} {e : TypeId} {n : Nat} (h : size? P e = some n) : ∃ i, P.info? e = some i ∧ i.size = n := by
  unfold size? at h
  cases hi : P.info? e with
  | none => rw [hi] at h; cases h
  | some i => rw [hi] at h; exact ⟨i, rfl, by simpa using h⟩
theorem zero_both {P : Program} {e : TypeId} {z : Value} (h : zero? P e = some z) : (∃ i, P.info? e = some i ∧ i.zero = some z) ∧ clean z = true := by
  unfold zero? at h
  cases hi : P.info? e with
  | none => rw [hi] at h; cases h
  | some i =>
    rw [hi] at h
    simp only [Option.bind_some] at h
    cases hz : i.zero with
    | none => rw [hz] at h; cases h
    | some u =>
      rw [hz] at h
      simp only at h
      split at h
      · rename_i hc
        cases h
        exact ⟨⟨i, rfl, hz⟩, hc⟩
      · cases h
theorem zero_info {P : Program} {e : TypeId} {z : Value} (h : zero? P e = some z) : ∃ i, P.info? e = some i ∧ i.zero = some z := (zero_both h).1
theorem zero_clean {P : Program} {e : TypeId} {z : Value} (h : zero? P e = some z) : clean z = true := (zero_both h).2
theorem run_sizeOf {P : Program} {e : TypeId} {n : Nat} (h : size? P e = some n) (w : World) : (sizeOf e).run P w = .ok n w := by
  obtain ⟨i, hi, rfl⟩ := size_info h
  simp [sizeOf, typeInfo, program, hi, Sem.run, bind, Sem.bind]
  rfl
theorem run_zeroValue {P : Program} {e : TypeId} {z : Value} (h : zero? P e = some z) (w : World) : (zeroValue e).run P w = .ok z w := by
  obtain ⟨i, hi, hz⟩ := zero_info h
  simp [zeroValue, typeInfo, program, hi, hz, Sem.run]
theorem agg_isAgg {P : Program} {t : TypeId} {b : Bool} (h : agg? P t = some b) (w : World) : (isAgg t).run P w = .ok b w := by
  unfold agg? at h
  cases hd : P.underlying t with
  | none => rw [hd] at h; cases h
  | some d =>
    rw [hd] at h
    unfold isAgg
    rw [Sem.run_bind, run_underlying hd]
    cases d <;> simp at h <;> subst h <;> rfl

section
variable {P : Program} {base : Nat} {m : Mp} {w : World} {h h1 : H} {n n1 : Nat} {r : Value} {L : List En}
theorem sound_alloc {e : TypeId} (x : WR P m base h w.heap) (hb : base ≤ w.heap.size) (hf : Fresh m n n1) (hr : evAlloc P e h n = some ⟨r, h1, n1, L⟩) : Sound P base m w h n (Instr.alloc e true (.tuple #[])) r h1 n1 := by
  unfold evAlloc at hr
  cases hz : zero? P e with
  | none => rw [hz] at hr; cases hr
  | some z =>
    rw [hz] at hr
    obtain ⟨id, h2, n2, L1, L2, e1, e2, _⟩ := bind_some hr
    obtain ⟨rfl, rfl, rfl⟩ := ret_some e2
    obtain ⟨i, hi, _⟩ := zero_info hz
    have hc := (VR.clean (m := m) (zero_clean hz)).cells
    obtain ⟨rfl, rfl, m', hm', hp⟩ := newB_at x e1 hf hb (cs' := z.cells) (by simp) (fun k v hk => by simpa using hc.get k v hk) (esz := i.size) (by simp [size?, hi])
    refine ⟨m', _, .pointer (some ⟨w.heap.size, 0, none⟩), ?_, hp, ?_⟩
    · simp only [Instr.alloc, Sem.run_bind, run_zeroValue hz, Result.andThen, newVar, newRow, newObj]
      rfl
    · exact VR.ptr hm'
theorem sound_box {e : TypeId} {v v' : Value} (hv : VR m v v') (x : WR P m base h w.heap) (hb : base ≤ w.heap.size) (hf : Fresh m n n1) (hr : evBox P e v h n = some ⟨r, h1, n1, L⟩) : Sound P base m w h n (Instr.box e v') r h1 n1 := by
  unfold evBox at hr
  cases hz : size? P e with
  | none => rw [hz] at hr; cases hr
  | some z =>
    rw [hz] at hr
    obtain ⟨id, h2, n2, L1, L2, e1, e2, _⟩ := bind_some hr
    obtain ⟨rfl, rfl, rfl⟩ := ret_some e2
    obtain ⟨rfl, rfl, m', hm', hp⟩ := newB_at x e1 hf hb (cs' := v'.cells) (by simp [hv.cells_size]) (fun k u hk => by simpa using hv.cells.get k u hk) hz
    exact ⟨m', _, .pointer (some ⟨w.heap.size, 0, none⟩), rfl, hp, VR.ptr hm'⟩
theorem setMany {cs cs' : Array Value} {off : Nat} : ∀ {us us' : List Value} (_ : VRs m us us') (i : Nat) {cs cs' : Array Value}, VRs m cs.toList cs'.toList →
    VRs m ((us.zipIdx i).foldl (fun (a : Array Value) (x : Value × Nat) => a.setIfInBounds (off + x.2) x.1) cs).toList ((us'.zipIdx i).foldl (fun (a : Array Value) (x : Value × Nat) => a.setIfInBounds (off + x.2) x.1) cs').toList := by
  intro us us' hu
  induction hu using VRs.rec (motive_1 := fun _ _ _ => True) with
  | nil => intro i cs cs' hc; exact hc
  | cons hv _ _ ih =>
    intro i cs cs' hc
    simp only [List.zipIdx_cons, List.foldl_cons]
    exact ih (i + 1) (by simpa using VRs.set (off + i) hc hv)
  | _ => trivial
theorem fill_at {place : Nat → Option (Nat × Nat)} : ∀ (parts parts' : List (Nat × Value)) (cs cs' out : Array Value), parts.map (·.1) = parts'.map (·.1) → VRs m (parts.map (·.2)) (parts'.map (·.2)) → VRs m cs.toList cs'.toList → Instr.fill place cs parts = some out →
    ∃ out', Instr.fill place cs' parts' = some out' ∧ VRs m out.toList out'.toList ∧ out.size = cs.size := by
  intro parts
  induction parts with
  | nil =>
    intro parts' cs cs' out h1 h2 h3 h4
    cases parts' with
    | nil => simp [Instr.fill] at h4; subst h4; exact ⟨cs', rfl, h3, rfl⟩
    | cons _ _ => simp at h1
  | cons p parts ih =>
    intro parts' cs cs' out h1 h2 h3 h4
    cases parts' with
    | nil => simp at h1
    | cons p' parts' =>
      obtain ⟨i, v⟩ := p
      obtain ⟨i', v'⟩ := p'
      simp at h1
      obtain ⟨rfl, h1⟩ := h1
      simp only [List.map_cons] at h2
      cases h2 with
      | cons hv ht =>
        unfold Instr.fill at h4 ⊢
        cases hp : place i with
        | none => rw [hp] at h4; cases h4
        | some os =>
          obtain ⟨off, sz⟩ := os
          rw [hp] at h4
          simp only at h4 ⊢
          have e1 : v'.cells.size = v.cells.size := hv.cells_size.symm
          have e2 : cs'.size = cs.size := by have := h3.length; simpa using this.symm
          rw [e1, e2]
          split at h4
          · cases h4
          · rename_i hc
            rw [if_neg hc]
            have hs := setMany (m := m) (cs := cs) (cs' := cs') (off := off) hv.cells 0 h3
            have e3 : ∀ (vs : Array Value) (a : Array Value), vs.zipIdx.foldl (fun cs (c, j) => cs.setIfInBounds (off + j) c) a = (vs.toList.zipIdx 0).foldl (fun (a : Array Value) (x : Value × Nat) => a.setIfInBounds (off + x.2) x.1) a := by
              intro vs a
              rw [← Array.foldl_toList, Array.toList_zipIdx]
            have e4 : ∀ (vs : List (Value × Nat)) (a : Array Value), (vs.foldl (fun (a : Array Value) (x : Value × Nat) => a.setIfInBounds (off + x.2) x.1) a).size = a.size := by
              intro vs
              induction vs with
              | nil => intro a; rfl
              | cons y ys ihy => intro a; rw [List.foldl_cons, ihy]; simp
            rw [e3] at h4 ⊢
            obtain ⟨out', a1, a2, a3⟩ := ih parts' _ _ out h1 ht hs h4
            exact ⟨out', a1, a2, by rw [a3, e4]⟩
theorem sound_build {t : TypeId} {parts parts' : List (Nat × Value)} (h1p : parts.map (·.1) = parts'.map (·.1)) (h2p : VRs m (parts.map (·.2)) (parts'.map (·.2))) (x : WR P m base h w.heap)
    (hr : evBuild P t parts h n = some ⟨r, h1, n1, L⟩) : Sound P base m w h n (Instr.build t parts'.toArray) r h1 n1 := by
  unfold evBuild at hr
  cases hz : zero? P t with
  | none => rw [hz] at hr; cases hr
  | some z =>
    rw [hz] at hr
    cases hu : P.underlying t with
    | none => rw [hu] at hr; cases hr
    | some d =>
      rw [hu] at hr
      cases d <;> try (cases hr; done)
      rename_i fs
      simp only at hr
      split at hr
      · rename_i hall
        cases hfl : Instr.fill (placeOf P fs) z.cells parts with
        | none => rw [hfl] at hr; cases hr
        | some cs =>
          rw [hfl] at hr
          obtain ⟨rfl, rfl, rfl⟩ := ret_some hr
          obtain ⟨cs', a1, a2, _⟩ := fill_at parts parts' _ _ cs h1p h2p (VR.clean (m := m) (zero_clean hz)).cells hfl
          refine ⟨m, w, .agg cs', ?_, Post.refl x, .agg a2⟩
          have hplaces : (fs.mapM fun f => do pure (f.offset, ← sizeOf f.type) : Sem (Array (Nat × Nat))).run P w = .ok (fs.map fun f => (f.offset, (size? P f.type).getD 0)) w := by
            rw [Array.mapM_eq_mapM_toList]
            have : ∀ l : List Field, (∀ f ∈ l, (size? P f.type).isSome = true) → (l.mapM (fun f => do pure (f.offset, ← sizeOf f.type)) : Sem (List (Nat × Nat))).run P w = .ok (l.map fun f => (f.offset, (size? P f.type).getD 0)) w := by
              intro l
              induction l with
              | nil => intro _; rfl
              | cons f l ih =>
                intro hl
                obtain ⟨k, hk⟩ := Option.isSome_iff_exists.1 (hl f (by simp))
                rw [List.mapM_cons]
                simp only [bind_assoc, pure_bind, Sem.run_bind, run_sizeOf hk, Result.andThen, ih fun f' hf' => hl f' (by simp [hf'])]
                simp [hk]
            have h3 := this fs.toList fun f hf' => (Array.all_eq_true_iff_forall_mem.1 hall) f (Array.mem_toList_iff.1 hf')
            simp only [map_eq_pure_bind, Sem.run_bind, h3, Result.andThen, Sem.run_pure]
            congr 1
            apply Array.ext'
            simp
          have hpl : ∀ i, (fs.map fun f => (f.offset, (size? P f.type).getD 0))[i]? = placeOf P fs i := by
            intro i
            unfold placeOf
            cases hfi : fs[i]? with
            | none => simp [hfi]
            | some f =>
              obtain ⟨k, hk⟩ := Option.isSome_iff_exists.1 ((Array.all_eq_true_iff_forall_mem.1 hall) f (Array.mem_of_getElem? hfi))
              simp [hfi, hk]
          have hpl2 : (fun i => (fs.map fun f => (f.offset, (size? P f.type).getD 0))[i]?) = placeOf P fs := funext hpl
          unfold Instr.build
          simp only [Sem.run_bind, run_zeroValue hz, run_underlying hu, Result.andThen, hplaces, hpl2, a1]
          rfl
      · cases hr
theorem zeros_at {e : TypeId} {z : Value} (hz : zero? P e = some z) (k : Nat) : VRs m (zeros z k).toList (zeros z k).toList := by
  unfold zeros
  rw [Array.toList_map]
  refine VRs.map _ fun i => ?_
  have hc := (VR.clean (m := m) (zero_clean hz)).cells
  by_cases hi : i % z.cells.size < z.cells.size
  · obtain ⟨v', hv', hr⟩ := hc.get (i % z.cells.size) z.cells[i % z.cells.size] (by simp [hi])
    have : v' = z.cells[i % z.cells.size] := by simpa [hi] using hv'.symm
    rw [this] at hr
    simpa [hi] using hr
  · rw [getElem!_neg z.cells _ hi]
    exact .bool _
theorem sound_buildSlice {t : TypeId} {len : Nat} {parts parts' : List (Nat × Value)} (h1p : parts.map (·.1) = parts'.map (·.1)) (h2p : VRs m (parts.map (·.2)) (parts'.map (·.2))) (x : WR P m base h w.heap) (hb : base ≤ w.heap.size) (hf : Fresh m n n1)
    (hr : evBuildSlice P t len parts h n = some ⟨r, h1, n1, L⟩) : Sound P base m w h n (Instr.buildSlice t len parts'.toArray) r h1 n1 := by
  unfold evBuildSlice at hr
  cases hu : P.underlying t with
  | none => rw [hu] at hr; cases hr
  | some d =>
    rw [hu] at hr
    cases d <;> try (cases hr; done)
    rename_i e
    simp only at hr
    cases hs : size? P e with
    | none => rw [hs] at hr; cases hr
    | some sz =>
      cases hz : zero? P e with
      | none => rw [hs, hz] at hr; cases hr
      | some z =>
        rw [hs, hz] at hr
        simp only at hr
        by_cases hzero : (len = 0 && parts.isEmpty) = true
        · rw [if_pos hzero] at hr
          simp only [Bool.and_eq_true, decide_eq_true_eq, List.isEmpty_iff] at hzero
          obtain ⟨rfl, rfl⟩ := hzero
          obtain ⟨id, h2, n2, L1, L2, e1, e2, _⟩ := bind_some hr
          obtain ⟨rfl, rfl, rfl⟩ := ret_some e2
          have hp0 : parts' = [] := by
            cases parts' with
            | nil => rfl
            | cons p ps => simp at h1p
          subst hp0
          obtain ⟨rfl, rfl, m', hm', hp⟩ := newB_at x e1 hf hb (cs' := #[]) (by simp) (fun k v hk => by simp at hk) hs
          refine ⟨m', _, .slice (some ⟨w.heap.size, 0, none⟩) 0 0, ?_, hp, VR.slc hm' (fun _ => rfl) (fun _ => rfl) (fun hcap => by simp [CAP] at hcap) (Nat.le_refl _) (by simp)⟩
          unfold Instr.buildSlice
          simp only [Sem.run_bind, run_underlying hu, Result.andThen, run_sizeOf hs, Nat.zero_mul, if_true, Sem.run_pure, pure_bind]
          have n0 : ¬ (0 > 2 ^ 24) := by omega
          simp only [if_neg n0, Instr.fill, Array.range_zero', Array.map_empty]
          rfl
        rw [if_neg hzero] at hr
        split at hr
        · rename_i hc
          simp only [Bool.and_eq_true, decide_eq_true_eq] at hc
          cases hfl : Instr.fill (fun i => some (i * sz, sz)) (zeros z (len * sz)) parts with
          | none => rw [hfl] at hr; cases hr
          | some cs =>
            rw [hfl] at hr
            simp only at hr
            obtain ⟨id, h2, n2, L1, L2, e1, e2, _⟩ := bind_some hr
            obtain ⟨rfl, rfl, rfl⟩ := ret_some e2
            obtain ⟨cs', a1, a2, a3⟩ := fill_at parts parts' _ _ cs h1p h2p (zeros_at (m := m) hz (len * sz)) hfl
            have hlen : cs.size = cs'.size := by have := a2.length; simpa using this
            obtain ⟨rfl, rfl, m', hm', hp⟩ := newB_at x e1 hf hb (cs' := cs') (by simp [hlen]) (fun k v hk => by simpa using a2.get k v hk) hs
            have hcs : cs'.size = len * sz := by rw [← hlen, a3]; simp [zeros]
            have hsz1 : 1 ≤ sz := by
              rcases Nat.eq_zero_or_pos sz with h0 | h0
              · subst h0; simp at hc
              · exact h0
            have hl : len ≤ len * sz := Nat.le_mul_of_pos_right _ hsz1
            refine ⟨m', _, .slice (some ⟨w.heap.size, 0, none⟩) len len, ?_, hp, VR.slc hm' (fun _ => rfl) (fun _ => rfl) (fun hcap => by simp [CAP] at hcap; omega) (Nat.le_refl _) (by simp [hcs])⟩
            unfold Instr.buildSlice
            have n0 : ¬ (len * sz > 2 ^ 24) := by omega
            have n1 : ¬ (len * sz = 0) := by omega
            simp only [Sem.run_bind, run_underlying hu, Result.andThen, run_sizeOf hs, if_neg n0, if_neg n1, run_zeroValue hz, Sem.run_pure, pure_bind]
            unfold zeros at a1
            rw [a1]
            rfl
        · cases hr
theorem ptr_at {b off : Nat} {v' : Value} (hv : VR m (.pointer (some ⟨b, off, none⟩)) v') : ∃ d, m b = some d ∧ v' = .pointer (some ⟨d.blk, d.sh + off, none⟩) := by
  cases hv with
  | ptr h => exact ⟨_, h, rfl⟩
theorem sound_load {t : TypeId} {a a' : Value} (ha : VR m a a') (x : WR P m base h w.heap) (hr : evLoad P t a h n = some ⟨r, h1, n1, L⟩) : Sound P base m w h n (Instr.loadAt t a') r h1 n1 := by
  unfold evLoad at hr
  split at hr
  · rename_i b off
    obtain ⟨d, hd, rfl⟩ := ptr_at ha
    cases hg : agg? P t with
    | none => rw [hg] at hr; cases hr
    | some g =>
      rw [hg] at hr
      cases g with
      | false =>
        simp only at hr
        obtain ⟨rfl, rfl, d', v', hd', hc, hv⟩ := rd_at x hr
        rw [hd] at hd'; cases hd'
        refine ⟨m, w, v', ?_, Post.refl x, hv⟩
        simp only [Instr.loadAt, Instr.sureAddr, pure_bind, loadVar, Sem.run_bind, agg_isAgg hg w, Result.andThen, Bool.false_eq_true, if_false]
        show (Sem.load _ _ _).run P w = _
        simp [Sem.run, hc]
      | true =>
        cases hs : size? P t with
        | none => rw [hs] at hr; cases hr
        | some k =>
          rw [hs] at hr
          simp only at hr
          obtain ⟨vs, h2, n2, L1, L2, e1, e2, _⟩ := bind_some hr
          obtain ⟨rfl, rfl, rfl⟩ := ret_some e2
          obtain ⟨rfl, rfl, hl, vs', hvs, hcs⟩ := rdN_at x hd e1
          refine ⟨m, w, .agg vs'.toArray, ?_, Post.refl x, .agg (by simpa using hvs)⟩
          have hlen : vs'.length = k := by rw [← hvs.length, hl]
          have := run_loadCells_of (P := P) hcs
          rw [hlen] at this
          simp only [Instr.loadAt, Instr.sureAddr, pure_bind, loadVar, Sem.run_bind, agg_isAgg hg w, Result.andThen, if_true, run_sizeOf hs, this]
          rfl
  · cases hr
theorem sound_store {t : TypeId} {a a' v v' : Value} (ha : VR m a a') (hv : VR m v v') (x : WR P m base h w.heap) (hr : evStore P t a v h n = some ⟨r, h1, n1, L⟩) : r = undef ∧ ∃ w', (Instr.storeAt t a' v').run P w = .ok () w' ∧ Post P m base n n1 w h1 m w' := by
  unfold evStore at hr
  split at hr
  · rename_i b off
    obtain ⟨d, hd, rfl⟩ := ptr_at ha
    cases hs : size? P t with
    | none => rw [hs] at hr; cases hr
    | some k =>
      rw [hs] at hr
      simp only at hr
      split at hr
      · rename_i hk
        obtain ⟨u, h2, n2, L1, L2, e1, e2, _⟩ := bind_some hr
        obtain ⟨rfl, rfl, rfl⟩ := ret_some e2
        cases u
        obtain ⟨rfl, w', hw', x2, hbl⟩ := wrN_at hd hv.cells (i := 0) (d.sh + off) (by omega) x e1
        refine ⟨rfl, w', ?_, ⟨Le.refl _, fun _ _ => rfl, x2, hbl⟩⟩
        have hk2 : v'.cells.size = k := by rw [← hv.cells_size]; exact hk
        simp only [Instr.storeAt, Instr.sureAddr, pure_bind, storeVar, Sem.run_bind, run_sizeOf hs, Result.andThen, hk2, ne_eq, not_true, if_false]
        exact hw'
      · cases hr
  · cases hr
theorem sound_nilCheck {v v' : Value} (hv : VR m v v') (x : WR P m base h w.heap) (hr : evNilCheck v h n = some ⟨r, h1, n1, L⟩) :
    h1 = h ∧ n1 = n ∧ VR m r v' ∧ ((∃ a, v' = .pointer (some a)) ∨ ∃ f a b, v' = .func (.func f) a b) := by
  unfold evNilCheck at hr
  split at hr
  · obtain ⟨rfl, rfl, rfl⟩ := ret_some hr
    refine ⟨rfl, rfl, hv, .inl ?_⟩
    cases hv with | ptr h => exact ⟨_, rfl⟩
  · obtain ⟨rfl, rfl, rfl⟩ := ret_some hr
    refine ⟨rfl, rfl, hv, .inr ?_⟩
    cases hv with | func fn h1 h2 => exact ⟨_, _, _, rfl⟩
  · cases hr
theorem bytesOf_at : ∀ (vs : List Value) (acc s : ByteArray), bytesOf vs acc = some s → ∃ ns : List Int, vs = ns.map (Value.int .u8) ∧ s = ns.foldl (fun r n => r.push (UInt8.ofNat n.toNat)) acc := by
  intro vs
  induction vs with
  | nil => intro acc s h; simp [bytesOf] at h; exact ⟨[], rfl, h.symm⟩
  | cons v vs ih =>
    intro acc s h
    cases v with
    | int k n =>
      cases k with
      | u8 =>
        obtain ⟨ns, rfl, hs⟩ := ih (acc.push (UInt8.ofNat n.toNat)) s (by simpa [bytesOf] using h)
        exact ⟨n :: ns, rfl, hs⟩
      | _ => simp [bytesOf] at h
    | _ => simp [bytesOf] at h
theorem VRs.ints {k : IntKind} : ∀ {ns : List Int} {vs' : List Value}, VRs m (ns.map (Value.int k)) vs' → vs' = ns.map (Value.int k)
  | [], _, .nil => rfl
  | _ :: _, _, .cons (.int _ _) t => by rw [VRs.ints t]; rfl
theorem sound_toStr {v v' : Value} (hv : VR m v v') (x : WR P m base h w.heap) (hr : evToStr v h n = some ⟨r, h1, n1, L⟩) : ∃ a l c, v' = .slice a l c ∧ Sound P base m w h n (Conv.bytesToString v') r h1 n1 := by
  unfold evToStr at hr
  split at hr
  · obtain ⟨rfl, rfl, rfl⟩ := ret_some hr
    cases hv
    exact ⟨_, _, _, rfl, m, w, .string .empty, by simp [Conv.bytesToString], Post.refl x, .string _⟩
  · rename_i b off len cap
    obtain ⟨vs, h2, n2, L1, L2, e1, e2, _⟩ := bind_some hr
    cases hbs : bytesOf vs .empty with
    | none => rw [hbs] at e2; cases e2
    | some s =>
      rw [hbs] at e2
      obtain ⟨rfl, rfl, rfl⟩ := ret_some e2
      cases hv with
      | @slc _ _ _ _ cap' o' d hd ho c1 c2 c3 c4 =>
        obtain ⟨rfl, rfl, hl, vs', hvs, hcs⟩ := rdN_at x hd e1
        obtain ⟨ns, rfl, hs⟩ := bytesOf_at _ _ _ hbs
        have hv2 := VRs.ints hvs
        subst hv2
        refine ⟨_, _, _, rfl, m, w, .string s, ?_, Post.refl x, .string _⟩
        rw [hs]
        apply run_bytesToString
        have hlen : (ns.map (Value.int .u8)).length = len := hl
        have := run_loadCells_of (P := P) hcs
        rw [hlen] at this
        by_cases h0 : 0 < len
        · rw [ho (.inl h0)]; exact this
        · have h00 : len = 0 := by omega
          subst h00
          have : ns = [] := by simpa using hlen
          subst this
          rfl
  · cases hr
theorem sound_toBytes {e : TypeId} {s : ByteArray} (hs1 : size? P e = some 1) (x : WR P m base h w.heap) (hb : base ≤ w.heap.size) (hf : Fresh m n n1) (hr : evToBytes e s h n = some ⟨r, h1, n1, L⟩) : Sound P base m w h n (Conv.stringToBytes e s) r h1 n1 := by
  unfold evToBytes at hr
  split at hr
  · rename_i hle
    obtain ⟨id, h2, n2, L1, L2, e1, e2, _⟩ := bind_some hr
    obtain ⟨rfl, rfl, rfl⟩ := ret_some e2
    obtain ⟨cap, hcap⟩ : ∃ cap, grownCap w s.size 0 e = cap := ⟨_, rfl⟩
    have hge : s.size ≤ cap := by rw [← hcap]; unfold grownCap Question.cut; exact Nat.le_add_right _ _
    obtain ⟨cs', hcs'⟩ : ∃ cs' : Array Value, (s.data.map fun b => Value.int .u8 b.toNat) ++ Array.replicate (cap - s.size) (.int .u8 0) = cs' := ⟨_, rfl⟩
    have hsz : cs'.size = cap := by rw [← hcs']; simp; have : s.data.size = s.size := rfl; omega
    obtain ⟨rfl, rfl, m', hm', hp⟩ := newB_at (w := w.drew) (P := P) (m := m) (base := base) x e1 hf hb (cs' := cs') (by rw [hsz]; simp; exact hge) (fun k v hk => by
      refine ⟨v, ?_, ?_⟩
      · rw [← hcs']
        have hk2 : k < s.data.size := by
          rcases Nat.lt_or_ge k s.data.size with q | q
          · exact q
          · rw [List.getElem?_eq_none (by simpa using q)] at hk; cases hk
        rw [Array.getElem?_append_left (by simpa using hk2)]
        simpa using hk
      · have : v ∈ (s.data.map fun b => Value.int .u8 b.toNat).toList := List.mem_of_getElem? hk
        simp at this
        obtain ⟨b, _, rfl⟩ := this
        exact .int _ _) hs1
    have hheap : ((w.drew.alloc (.cells cs' e)).freeze ⟨w.heap.size, cap, none⟩ 1).heap = (w.drew.alloc (.cells cs' e)).heap.modify w.heap.size (fun _ => .cells cs' e (cap, cap + 1)) := by
      unfold World.freeze
      simp only [Nat.one_ne_zero, if_false]
      apply Array.ext_getElem?
      intro i
      rw [Array.getElem?_modify, Array.getElem?_modify]
      by_cases hi : w.heap.size = i
      · subst hi
        have : (w.drew.alloc (.cells cs' e)).heap[w.heap.size]? = some (.cells cs' e (0, 0)) := heap_alloc_new w.drew _
        rw [if_pos rfl, if_pos rfl, this]
        simp
      · simp [hi]
    refine ⟨m', (w.drew.alloc (.cells cs' e)).freeze ⟨w.heap.size, cap, none⟩ 1, .slice (some ⟨w.heap.size, 0, none⟩) s.size cap, ?_, ⟨hp.le, hp.out, ?_, ?_⟩, ?_⟩
    · have hshape : (w.drew.alloc (.cells cs' e)).shape? w.heap.size = some (e, cap) := by
        unfold World.shape?
        rw [show (w.drew.alloc (.cells cs' e)).heap[w.heap.size]? = some (.cells cs' e (0, 0)) from heap_alloc_new w.drew _]
        simp [hsz]
      unfold Conv.stringToBytes
      simp only [choose, bind, Sem.bind, pure]
      show (Sem.choose _ _).run P w = _
      simp only [Sem.run, Question.forced, Bool.false_eq_true, if_false]
      have hc2 : Question.cut (.appendCap s.size 0 e) (w.tape w.drawn (.appendCap s.size 0 e)) = cap := hcap
      rw [hc2, hcs']
      simp only [newRow, newObj, bind, Sem.bind, pure, Sem.run, markStringish, shape]
      have hpush : ({ heap := w.heap.push (.cells cs' e), tape := w.tape, drawn := w.drawn + 1, os := w.os, output := w.output } : World) = w.drew.alloc (.cells cs' e) := rfl
      rw [hpush, hshape]
      rfl
    · have hwr := hp.wr
      constructor
      · intro b B hB
        obtain ⟨⟨dblk, dsh, dtot, desz, del⟩, cs, lo, hi, a1, a2, a3, a4, a7, a5, a6⟩ := hwr.live b B hB
        simp only at a2 a3 a4 a7 a5 a6
        rw [hheap]
        by_cases hbk : dblk = w.heap.size
        · have : (w.drew.alloc (.cells cs' e)).heap[w.heap.size]? = some (.cells cs' e (0, 0)) := heap_alloc_new w.drew _
          rw [hbk, this] at a2
          cases a2
          refine ⟨_, cs', cap, cap + 1, a1, ?_, a3, a4, a7, fun ho => ⟨(a5 ho).1, (a5 ho).2.1, fun k hk => by simp only at hk; omega⟩, a6⟩
          rw [hbk, Array.getElem?_modify, if_pos rfl, this]
          rfl
        · exact ⟨_, cs, lo, hi, a1, by rw [getElem?_modify_ne _ _ (Ne.symm hbk)]; exact a2, a3, a4, a7, a5, a6⟩
      · exact hwr.inj
    · have h1 := hp.below
      have h0 : Below base w w.drew := Below.drew (Below.refl _ _)
      have h2 : Below base (w.drew.alloc (.cells cs' e)) ((w.drew.alloc (.cells cs' e)).freeze ⟨w.heap.size, cap, none⟩ 1) := by
        refine ⟨?_, ?_, ?_, ?_, fun k hk => ?_⟩
        · unfold World.freeze; simp
        · unfold World.freeze; simp
        · unfold World.freeze; simp
        · rw [hheap]; simp
        · rw [hheap, getElem?_modify_ne _ _ (by omega)]
      exact (h0.trans h1).trans h2
    · exact VR.slc hm' (fun _ => rfl) (fun q => by simp [CAP] at q; omega) (fun _ => ⟨Nat.le_refl _, by omega⟩) hge (by simp [hsz])
  · cases hr
theorem sound_makeSlice {t : TypeId} {l c l' c' : Value} (hl : VR m l l') (hc : VR m c c') (x : WR P m base h w.heap) (hb : base ≤ w.heap.size) (hf : Fresh m n n1) (hr : evMakeSlice P t l c h n = some ⟨r, h1, n1, L⟩) : Sound P base m w h n (Instr.makeSlice t l' c') r h1 n1 := by
  unfold evMakeSlice at hr
  cases hu : P.underlying t with
  | none => rw [hu] at hr; cases hr
  | some d =>
    rw [hu] at hr
    cases d <;> try (cases hr; done)
    rename_i e
    cases hl <;> try (cases hr; done)
    rename_i kl l
    cases hc <;> try (cases hr; done)
    rename_i kc c
    simp only at hr
    cases hi : P.info? e with
    | none => rw [hi] at hr; cases hr
    | some ie =>
      cases hz : zero? P e with
      | none => rw [hi, hz] at hr; cases hr
      | some z =>
        rw [hi, hz] at hr
        simp only at hr
        split at hr
        · rename_i hcond
          simp only [Bool.and_eq_true, decide_eq_true_eq] at hcond
          obtain ⟨⟨⟨⟨⟨c1, c2⟩, c3⟩, c4⟩, c5⟩, c6⟩ := hcond
          obtain ⟨id, h2, n2, L1, L2, e1, e2, _⟩ := bind_some hr
          obtain ⟨rfl, rfl, rfl⟩ := ret_some e2
          obtain ⟨i2, hi2, hz2⟩ := zero_info hz
          rw [hi] at hi2; cases hi2
          have hzs := zeros_at (m := m) hz (c.toNat * ie.size)
          obtain ⟨rfl, rfl, m', hm', hp⟩ := newB_at x e1 hf hb (cs' := zeros z (c.toNat * ie.size)) (by simp) (fun k v hk => by simpa using hzs.get k v hk) (esz := ie.size) (by simp [size?, hi])
          refine ⟨m', _, .slice (some ⟨w.heap.size, 0, none⟩) l.toNat c.toNat, ?_, hp, VR.slc hm' (fun _ => rfl) (fun _ => rfl) (fun q => by simp [CAP] at q; omega) (by omega) (by simp [zeros])⟩
          have hbytes : (ie.bytes : Int) * c ≤ 281474976710656 := by
            have h1 : (ie.bytes : Int) * c ≤ 64 * c := Int.mul_le_mul_of_nonneg_right (by omega) (by omega)
            omega
          exact run_make w t e ie z hu hi hz2 kl kc l c c1 c2 hbytes (by omega)
        · cases hr

end
end Go.Proofs.YtmjolmggelkjlaaGreat.Ev

/- Arguments of plain data (numbers, texts, truths, slices, structs and arrays of them): how they lie in the world, and how they are laid for the evaluator. No program in sight. -/
import Derived.Test.YtmjolmggelkjlaaGreatEvV
import Derived.Test.YtmjolmggelkjlaaGreatEvU
import Derived.ProofKit
import Derived.OpenShut
namespace Go.Proofs.YtmjolmggelkjlaaGreat.Ev
set_option linter.unusedVariables false
set_option linter.unusedSimpArgs false
open Go Go.RowKit Go.WideShapes Go.ChangeShapes

def All2 {α β : Type} (R : α → β → Prop) : List α → List β → Prop
  | [], [] => True
  | a :: l, b :: m => R a b ∧ All2 R l m
  | _, _ => False
theorem All2.length {α β : Type} {R : α → β → Prop} : ∀ {l : List α} {m : List β}, All2 R l m → l.length = m.length
  | [], [], _ => rfl
  | _ :: _, _ :: _, h => by simp [All2.length h.2]
  | [], _ :: _, h => h.elim
  | _ :: _, [], h => h.elim
theorem All2.imp {α β : Type} {R S : α → β → Prop} : ∀ {l : List α} {m : List β}, (∀ a ∈ l, ∀ b, R a b → S a b) → All2 R l m → All2 S l m
  | [], [], _, _ => trivial
  | a :: _, _ :: _, h, x => ⟨h a (List.mem_cons_self ..) _ x.1, All2.imp (fun a ha => h a (List.mem_cons_of_mem _ ha)) x.2⟩
  | [], _ :: _, _, x => x.elim
  | _ :: _, [], _, x => x.elim
theorem All2.append {α β : Type} {R : α → β → Prop} : ∀ {l l' : List α} {m m' : List β}, All2 R l m → All2 R l' m' → All2 R (l ++ l') (m ++ m')
  | [], _, [], _, _, h => h
  | _ :: _, _, _ :: _, _, x, h => ⟨x.1, All2.append x.2 h⟩
  | [], _, _ :: _, _, x, _ => x.elim
  | _ :: _, _, [], _, x, _ => x.elim

/-- the types of a type's cells, one by one -/
def fieldTs (g : TypeId → Option (List TypeId)) : Nat → List Field → Option (List TypeId)
  | _, [] => some []
  | o, fd :: r => if fd.offset = o then (match g fd.type with
    | some ts => match fieldTs g (o + ts.length) r with
      | some rs => some (ts ++ rs)
      | none => none
    | none => none) else none
def cellTs (P : Program) : Nat → TypeId → Option (List TypeId)
  | 0, _ => none
  | f + 1, t => match P.underlying t with
    | some (.int _) | some .string | some .bool | some (.slice _) => if P.cellsOf t = 1 then some [t] else none
    | some (.struct fs) => match fieldTs (cellTs P f) 0 fs.toList with
      | some ts => if ts.length = P.cellsOf t then some ts else none
      | none => none
    | some (.array n e) => match cellTs P f e with
      | some ts => if n * ts.length = P.cellsOf t ∧ ts.length = P.cellsOf e then some (List.replicate n ts).flatten else none
      | none => none
    | _ => none
theorem fieldTs_some {g : TypeId → Option (List TypeId)} {o : Nat} {fd : Field} {r : List Field} {ts : List TypeId} (h : fieldTs g o (fd :: r) = some ts) : fd.offset = o ∧ ∃ a b, g fd.type = some a ∧ fieldTs g (o + a.length) r = some b ∧ ts = a ++ b := by
  unfold fieldTs at h
  split at h
  · rename_i h0
    split at h
    · rename_i a ha
      split at h
      · rename_i b hb
        cases h
        exact ⟨h0, a, b, ha, hb, rfl⟩
      · cases h
    · cases h
  · cases h
/-- how a value of one cell lies in the world -/
def Rep1 (P : Program) (w : World) : Nat → TypeId → Value → Prop
  | 0, _, _ => False
  | f + 1, t, v => match P.underlying t with
    | some (.int k) => ∃ n, v = .int k n ∧ (Lit.int k n).wf = true
    | some .string => ∃ s : ByteArray, v = .string s ∧ s.size ≤ maxLen
    | some .bool => ∃ b, v = .bool b
    | some (.slice e) => v = .slice none 0 0 ∨ ∃ a len cap ts, v = .slice (some a) len cap ∧ len ≤ cap ∧ cap ≤ maxLen ∧ cellTs P 8 e = some ts ∧ 0 < ts.length ∧ size? P e = some ts.length ∧
        ∀ i, i < cap → ∃ es : List Value, (∀ j u, es[j]? = some u → w.cell? (a.add (i * ts.length + j)) = some u) ∧ All2 (Rep1 P w f) ts es
    | _ => False
/-- types that are served -/
def okT (P : Program) : Nat → TypeId → Bool
  | 0, _ => false
  | f + 1, t => match P.underlying t with
    | some (.int _) | some .string | some .bool => true
    | some (.slice e) => match cellTs P 8 e with
      | some ts => decide (0 < ts.length) && decide (size? P e = some ts.length) && ts.all (okT P f)
      | none => false
    | _ => false
theorem cells?_get {w : World} {b : Nat} {a : Addr} {n : Nat} {es : List Value} (h : w.cells? b a n = some es) : es.length = n ∧ ∀ j u, es[j]? = some u → w.cell? (a.add j) = some u := by
  unfold World.cells? at h
  split at h
  · have hl := mapM_some_length h
    simp only [List.length_range] at hl
    refine ⟨hl, fun j u hj => ?_⟩
    have hjl := (List.getElem?_eq_some_iff.1 hj).1
    have := mapM_some_get h j j (by rw [List.getElem?_range (by omega)])
    rw [this]; exact hj
  · cases h
theorem add_add (a : Addr) (i j : Nat) : (a.add i).add j = a.add (i + j) := by
  unfold Addr.add
  by_cases hj : j = 0
  · subst hj; simp
  · by_cases hi : i = 0
    · subst hi; simp
    · have : ¬ (i + j = 0) := by omega
      simp only [hi, hj, this, if_false]
      congr 1
      omega
section
variable {H0 : Type} {enc : TypeId × Value → H0} {P : Program} {w : World} {held : Bool}
theorem fieldTs_cells {g : TypeId → Option (List TypeId)} {R : TypeId → Value → Prop} {cs : List Value} : ∀ (fs : List Field) (o : Nat) (ts : List TypeId), fieldTs g o fs = some ts → cs.length = o + ts.length →
    (∀ fd ∈ fs, ∀ a, g fd.type = some a → a.length = P.cellsOf fd.type ∧ All2 R a ((cs.drop fd.offset).take (P.cellsOf fd.type))) → All2 R ts (cs.drop o)
  | [], o, ts, h, hl, _ => by
    cases h
    rw [List.drop_eq_nil_of_le (by simp at hl; omega)]
    trivial
  | fd :: r, o, ts, h, hl, hf => by
    obtain ⟨h0, a, b, ha, hb, rfl⟩ := fieldTs_some h
    obtain ⟨hal, h2⟩ := hf fd (List.mem_cons_self ..) a ha
    have := fieldTs_cells r (o + a.length) b hb (by simp at hl; omega) fun fd hfd => hf fd (List.mem_cons_of_mem _ hfd)
    rw [h0, ← hal] at h2
    have e : cs.drop o = (cs.drop o).take a.length ++ cs.drop (o + a.length) := by rw [← List.drop_drop, List.take_append_drop]
    rw [e]
    exact h2.append this
theorem rep_cells {R : TypeId → Value → Prop} : ∀ (f : Nat) (t : TypeId) (cs : List Value) (ts : List TypeId) (m : Nat) (x : DataW H0 × List MemPlace), cellTs P f t = some ts →
    (∀ t' ∈ ts, ∀ v m x, DataW.trod enc P w 0 (fun _ => true) held m t' [v] = some x → R t' v) → DataW.trod enc P w 0 (fun _ => true) held m t cs = some x → ts.length = P.cellsOf t ∧ All2 R ts cs := by
  intro f
  induction f with
  | zero => intro t cs ts m x h; cases h
  | succ f ih =>
    intro t cs ts m x h hR hx
    unfold cellTs at h
    have one : ∀ v, cs = [v] → (if P.cellsOf t = 1 then some [t] else none) = some ts → ts.length = P.cellsOf t ∧ All2 R ts cs := by
      intro v hv hq
      subst hv
      by_cases hc : P.cellsOf t = 1
      · rw [if_pos hc] at hq
        cases hq
        exact ⟨hc.symm, hR t (List.mem_cons_self ..) v m x hx, trivial⟩
      · rw [if_neg hc] at hq; cases hq
    split at h
    · rename_i k hk
      obtain ⟨n, rfl, _⟩ := DataW.trod_int hk hx
      exact one _ rfl h
    · rename_i hk
      obtain ⟨n, rfl, _⟩ := DataW.trod_string hk hx
      exact one _ rfl h
    · rename_i hk
      obtain ⟨n, rfl, _⟩ := DataW.trod_bool hk hx
      exact one _ rfl h
    · rename_i e hk
      rcases DataW.trod_slice hk hx with ⟨rfl, _⟩ | ⟨a, len, cap, elems, rest, n, _, rfl, _⟩
      · exact one _ rfl h
      · exact one _ rfl h
    · rename_i fs hk
      split at h
      · rename_i ts' hts
        split at h
        · rename_i hlen
          cases h
          obtain ⟨xs, n, rfl, _, hcl, _, hall⟩ := DataW.trod_struct hk hx
          refine ⟨hlen, ?_⟩
          have := fieldTs_cells (P := P) (R := R) (cs := cs) fs.toList 0 ts hts (by omega) fun fd hfd a ha => ?_
          · simpa using this
          · obtain ⟨i, hi⟩ := List.mem_iff_getElem?.1 hfd
            have hi' : fs[i]? = some fd := by simpa using hi
            have hx2 := hall i fd hi'
            cases hxi : xs[i]? with
            | none => exact absurd hx2 (by
                rw [hxi]
                have := (Array.getElem?_eq_some_iff.1 hi').1
                have h3 : xs[i]? = none := hxi
                rw [List.getElem?_eq_none_iff] at h3
                omega)
            | some y =>
              rw [hxi] at hx2
              exact ih fd.type _ a n y ha (fun t' ht' => hR t' (by
                have : ∀ (l : List Field) (o : Nat) (ts : List TypeId), fieldTs (cellTs P f) o l = some ts → fd ∈ l → ∀ q ∈ a, q ∈ ts := by
                  intro l
                  induction l with
                  | nil => intro o ts _ hm; simp at hm
                  | cons g r ih2 =>
                    intro o ts hh hm q hq
                    obtain ⟨_, a2, b2, e1, e2, rfl⟩ := fieldTs_some hh
                    rcases List.mem_cons.1 hm with rfl | hm
                    · rw [ha] at e1; cases e1
                      exact List.mem_append.2 (.inl hq)
                    · exact List.mem_append.2 (.inr (ih2 _ _ e2 hm q hq))
                exact this fs.toList 0 ts hts hfd t' ht')) hx2
        · cases h
      · cases h
    · rename_i n e hk
      split at h
      · rename_i ts' hts
        split at h
        · rename_i hlen
          obtain ⟨hlen, hle⟩ := hlen
          obtain ⟨xs, m', rfl, _, hcl, hxn, hall⟩ := DataW.trod_array hk hx
          have hR' : n = 0 ∨ ∀ t' ∈ ts', t' ∈ ts := by
            rcases Nat.eq_zero_or_pos n with q | q
            · exact .inl q
            · refine .inr fun t' ht' => ?_
              cases h
              rw [List.mem_flatten]
              exact ⟨ts', List.mem_replicate.2 ⟨by omega, rfl⟩, ht'⟩
          have key : ∀ k, k ≤ n → All2 R (List.replicate k ts').flatten (cs.take (k * ts'.length)) := by
            intro k
            induction k with
            | zero => intro _; simp [All2]
            | succ k ihk =>
              intro hkn
              have h1 := ihk (by omega)
              have hx2 := hall k (by omega)
              cases hxi : xs[k]? with
              | none => rw [List.getElem?_eq_none_iff] at hxi; omega
              | some y =>
                rw [hxi] at hx2
                obtain ⟨h3, h4⟩ := ih e _ ts' m' y hts (fun t' ht' => hR t' (by
                  rcases hR' with q | q
                  · omega
                  · exact q t' ht')) hx2
                rw [← h3] at h4
                rw [List.replicate_succ', List.flatten_append, List.flatten_singleton]
                have e1 : cs.take ((k + 1) * ts'.length) = cs.take (k * ts'.length) ++ (cs.drop (k * ts'.length)).take ts'.length := by
                  rw [Nat.succ_mul, List.take_add]
                rw [e1]
                exact h1.append h4
          cases h
          refine ⟨?_, ?_⟩
          · rw [← hlen]; simp
          · have := key n (Nat.le_refl n)
            rwa [List.take_of_length_le (by omega)] at this
        · cases h
      · cases h
    · cases h
theorem rep1_of {f : Nat} : ∀ (t : TypeId) (v : Value) (m : Nat) (x : DataW H0 × List MemPlace), okT P f t = true → DataW.trod enc P w 0 (fun _ => true) held m t [v] = some x → Rep1 P w f t v := by
  induction f with
  | zero => intro t v m x h; cases h
  | succ f ih =>
    intro t v m x h hx
    unfold okT at h
    unfold Rep1
    split at h
    · rename_i k hk
      obtain ⟨n, e, _, hw⟩ := DataW.trod_int hk hx
      simp at e
      exact ⟨n, e, hw⟩
    · rename_i hk
      obtain ⟨s, e, _, hw⟩ := DataW.trod_string hk hx
      simp at e
      exact ⟨s, e, hw⟩
    · rename_i hk
      obtain ⟨b, e, _⟩ := DataW.trod_bool hk hx
      simp at e
      exact ⟨b, e⟩
    · rename_i e hk
      split at h
      · rename_i ts hts
        simp only [Bool.and_eq_true, decide_eq_true_eq, List.all_eq_true] at h
        obtain ⟨⟨h0, h1⟩, h2⟩ := h
        have hc : P.cellsOf e = ts.length := by
          unfold size? at h1
          unfold Program.cellsOf
          rw [h1]; rfl
        rcases DataW.trod_slice hk hx with ⟨hv, _⟩ | ⟨a, len, cap, elems, rest, n, _, hv, _, _, hl, hm, hlen, hel, hsp, _⟩
        · simp at hv
          exact .inl hv
        · simp at hv
          obtain ⟨hr, hrest⟩ := hsp rfl
          refine .inr ⟨a, len, cap, ts, hv, hl, hm, hts, h0, h1, fun i hi => ?_⟩
          have get : ∃ y, (w.cells? 0 (a.add (i * P.cellsOf e)) (P.cellsOf e)).bind (DataW.trod enc P w 0 (fun _ => true) held n e) = some y := by
            by_cases hil : i < len
            · rw [hel i hil]
              exact ⟨_, List.getElem?_eq_getElem (by omega)⟩
            · have := hrest (i - len) (by omega)
              rw [show len + (i - len) = i by omega] at this
              rw [this]
              exact ⟨_, List.getElem?_eq_getElem (by omega)⟩
          obtain ⟨y, hy⟩ := get
          rw [Option.bind_eq_some_iff] at hy
          obtain ⟨es, hes, hy⟩ := hy
          obtain ⟨_, hcell⟩ := cells?_get hes
          refine ⟨es, fun j u hj => ?_, (rep_cells 8 e es ts n y hts (fun t' ht' v m x hx => ih t' v m x (h2 t' ht') hx) hy).2⟩
          have := hcell j u hj
          rwa [add_add, hc] at this
      · cases h
    · cases h
end

/-! laid for the evaluator -/
def RepH1 (P : Program) (h : H) (n : Nat) : Nat → TypeId → Value → Prop
  | 0, _, _ => False
  | f + 1, t, v => match P.underlying t with
    | some (.int k) => ∃ n, v = .int k n ∧ (Lit.int k n).wf = true
    | some .string => ∃ s : ByteArray, v = .string s ∧ s.size ≤ maxLen
    | some .bool => ∃ b, v = .bool b
    | some (.slice e) => (∃ a, v = .slice a 0 0 ∧ ∀ b o, a ≠ some ⟨b, o, none⟩) ∨ ∃ b len ts cs, v = .slice (some ⟨b, 0, none⟩) len (CAP + len) ∧ cellTs P 8 e = some ts ∧ 0 < ts.length ∧ h.get b = some ⟨e, false, cs⟩ ∧ b < n ∧ cs.length = len * ts.length ∧ len ≤ maxLen ∧
        ∀ i, i < len → All2 (RepH1 P h n f) ts ((cs.drop (i * ts.length)).take ts.length)
    | _ => False
theorem RepH1.keep {P : Program} {h h' : H} {n n' : Nat} (hn : n ≤ n') (hk : ∀ b, b < n → h'.get b = h.get b) : ∀ {f : Nat} {t : TypeId} {v : Value}, RepH1 P h n f t v → RepH1 P h' n' f t v := by
  intro f
  induction f with
  | zero => intro t v x; exact x
  | succ f ih =>
    intro t v x
    unfold RepH1 at x ⊢
    split at x
    · exact x
    · exact x
    · exact x
    · rcases x with q | ⟨b, len, ts, cs, hv, ht, h0, hg, hb, hl, hm, hall⟩
      · exact .inl q
      · exact .inr ⟨b, len, ts, cs, hv, ht, h0, (hk b hb).trans hg, by omega, hl, hm, fun i hi => (hall i hi).imp fun _ _ _ q => ih q⟩
    · exact x
/-- a block that is read, of cells that the world holds -/
theorem laid_block {P : Program} {w : World} {m : Mp} {h : H} {n : Nat} (x : Laid P w m h n) {b off len cap : Nat} {cs : Array Value} {e' : TypeId} {fr : Nat × Nat} (hg : w.heap[b]? = some (.cells cs e' fr)) {e : TypeId} {sz : Nat} (he : size? P e = some sz) {vs vs' : List Value} (hv : VRs m vs vs')
    (hat : ∀ i v, vs'[i]? = some v → cs[off + i]? = some v) (hlen : vs.length = len * sz) (hl : len ≤ cap) (hc : off + cap * sz ≤ cs.size) :
    ∃ m', Laid P w m' (h.set n (some ⟨e, false, vs⟩)) (n + 1) ∧ VR m' (.slice (some ⟨n, 0, none⟩) len (CAP + len)) (.slice (some ⟨b, off, none⟩) len cap) ∧ Le m m' := by
  let m' : Mp := fun c => if c = n then some ⟨b, off, cs.size, sz, e'⟩ else m c
  have hle : Le m m' := fun c d hd => by
    by_cases ec : c = n
    · subst ec; rw [x.fresh c (Nat.le_refl c)] at hd; cases hd
    · show (if c = n then _ else _) = _; rw [if_neg ec]; exact hd
  let h' : H := h.set n (some ⟨e, false, vs⟩)
  have hn : m' n = some ⟨b, off, cs.size, sz, e'⟩ := if_pos rfl
  have hgn : h'.get n = some ⟨e, false, vs⟩ := get_eq _ _ _
  have hmul : len * sz ≤ cap * sz := Nat.mul_le_mul_right _ hl
  have hown : ∀ c C, h'.get c = some C → C.own = false := fun c C hcC => by
    by_cases ec : c = n
    · subst ec; rw [hgn] at hcC; cases hcC; rfl
    · rw [get_ne _ _ ec] at hcC; exact x.own c C hcC
  refine ⟨m', ⟨⟨?_, ?_⟩, x.gl.mono hle, fun c hc => ?_, hown, by have := x.glo; omega⟩, .slc hn (fun _ => rfl) (fun q => by unfold CAP at q; omega) (fun _ => ⟨Nat.le_refl _, by omega⟩) hl hc, hle⟩
  · intro c C hcC
    by_cases ec : c = n
    · subst ec
      rw [hgn] at hcC
      cases hcC
      refine ⟨_, cs, fr.1, fr.2, hn, hg, rfl, by show off + vs.length ≤ cs.size; omega, he, fun q => (by cases q), fun k u hu => ?_⟩
      obtain ⟨u', hu', hr⟩ := hv.get k u hu
      exact ⟨u', hat k u' hu', hr.mono hle⟩
    · rw [get_ne _ _ ec] at hcC
      obtain ⟨d, cs2, lo, hi, hm, hg2, h1, h2, h3, h4, h5⟩ := x.wr.live c C hcC
      refine ⟨d, cs2, lo, hi, hle _ _ hm, hg2, h1, h2, h3, h4, fun k u hu => ?_⟩
      obtain ⟨u', hu', hr⟩ := h5 k u hu
      exact ⟨u', hu', hr.mono hle⟩
  · intro c c' C C' d d' hcC hcC' ho
    rw [hown c C hcC, hown c' C' hcC'] at ho
    simp at ho
  · show (if c = n then _ else _) = none
    rw [if_neg (by omega)]
    exact x.fresh c (by omega)
def LayOk (P : Program) (w : World) (R : TypeId → Value → Prop) (S : H → Nat → TypeId → Value → Prop) : Prop := ∀ t v, R t v → ∀ m h n, Laid P w m h n → ∃ m' h' n' v0, Laid P w m' h' n' ∧ VR m' v0 v ∧ S h' n' t v0 ∧ Le m m' ∧ n ≤ n' ∧ ∀ b, b < n → h'.get b = h.get b
theorem VRs.mono' {m m' : Mp} (hl : Le m m') {l l' : List Value} (h : VRs m l l') : VRs m' l l' := VRs.mono hl h
theorem lay_list {P : Program} {w : World} {R : TypeId → Value → Prop} {S : H → Nat → TypeId → Value → Prop} (hk : ∀ (h h' : H) (n n' : Nat), n ≤ n' → (∀ b, b < n → h'.get b = h.get b) → ∀ t v, S h n t v → S h' n' t v) (ok : LayOk P w R S) :
    ∀ (ts : List TypeId) (vs : List Value), All2 R ts vs → ∀ m h n, Laid P w m h n → ∃ m' h' n' vs0, Laid P w m' h' n' ∧ VRs m' vs0 vs ∧ All2 (S h' n') ts vs0 ∧ Le m m' ∧ n ≤ n' ∧ ∀ b, b < n → h'.get b = h.get b
  | [], [], _, m, h, n, x => ⟨m, h, n, [], x, .nil, trivial, Le.refl _, Nat.le_refl _, fun _ _ => rfl⟩
  | t :: ts, v :: vs, hr, m, h, n, x => by
    obtain ⟨m1, h1, n1, v0, x1, hv, hs, l1, g1, k1⟩ := ok t v hr.1 m h n x
    obtain ⟨m2, h2, n2, vs0, x2, hvs, hss, l2, g2, k2⟩ := lay_list hk ok ts vs hr.2 m1 h1 n1 x1
    exact ⟨m2, h2, n2, v0 :: vs0, x2, .cons (hv.mono l2) hvs, ⟨hk _ _ _ _ g2 k2 _ _ hs, hss⟩, l1.trans l2, by omega, fun b hb => (k2 b (by omega)).trans (k1 b hb)⟩
  | [], _ :: _, hr, _, _, _, _ => hr.elim
  | _ :: _, [], hr, _, _, _, _ => hr.elim
theorem drop_take_append {α : Type} {l r : List α} {k c : Nat} (h : k + c ≤ l.length) : ((l ++ r).drop k).take c = (l.drop k).take c := by
  rw [List.drop_append_of_le_length (by omega), List.take_append_of_le_length (by simp; omega)]
theorem lay_elems {P : Program} {w : World} {R : TypeId → Value → Prop} {S : H → Nat → TypeId → Value → Prop} (hk : ∀ (h h' : H) (n n' : Nat), n ≤ n' → (∀ b, b < n → h'.get b = h.get b) → ∀ t v, S h n t v → S h' n' t v) (ok : LayOk P w R S) {ts : List TypeId} {a : Addr} :
    ∀ (len : Nat), (∀ i, i < len → ∃ es : List Value, (∀ j u, es[j]? = some u → w.cell? (a.add (i * ts.length + j)) = some u) ∧ All2 R ts es) → ∀ m h n, Laid P w m h n →
      ∃ m' h' n' vs0 vs, Laid P w m' h' n' ∧ VRs m' vs0 vs ∧ vs.length = len * ts.length ∧ (∀ i u, vs[i]? = some u → w.cell? (a.add i) = some u) ∧ (∀ i, i < len → All2 (S h' n') ts ((vs0.drop (i * ts.length)).take ts.length)) ∧ Le m m' ∧ n ≤ n' ∧ ∀ b, b < n → h'.get b = h.get b := by
  intro len
  induction len with
  | zero => intro _ m h n x; exact ⟨m, h, n, [], [], x, .nil, by simp, fun i u hu => by simp at hu, fun i hi => by omega, Le.refl _, Nat.le_refl _, fun _ _ => rfl⟩
  | succ len ih =>
    intro hel m h n x
    obtain ⟨m1, h1, n1, vs0, vs, x1, hv, hl, hc, hs, l1, g1, k1⟩ := ih (fun i hi => hel i (by omega)) m h n x
    obtain ⟨es, he1, he2⟩ := hel len (by omega)
    obtain ⟨m2, h2, n2, es0, x2, hv2, hs2, l2, g2, k2⟩ := lay_list hk ok ts es he2 m1 h1 n1 x1
    have hl0 : vs0.length = len * ts.length := by rw [hv.length, hl]
    have hel0 : es0.length = ts.length := hs2.length.symm
    have hel1 : es.length = ts.length := he2.length.symm
    refine ⟨m2, h2, n2, vs0 ++ es0, vs ++ es, x2, (hv.mono' l2).append hv2, by rw [List.length_append, hl, hel1, Nat.succ_mul], fun i u hu => ?_, fun i hi => ?_, l1.trans l2, by omega, fun b hb => (k2 b (by omega)).trans (k1 b hb)⟩
    · by_cases hi : i < vs.length
      · rw [List.getElem?_append_left hi] at hu
        exact hc i u hu
      · rw [List.getElem?_append_right (by omega)] at hu
        have := he1 _ u hu
        rwa [show len * ts.length + (i - vs.length) = i by omega] at this
    · by_cases hil : i < len
      · have hle : i * ts.length + ts.length ≤ vs0.length := by
          rw [hl0, ← Nat.succ_mul]; exact Nat.mul_le_mul_right _ hil
        rw [drop_take_append hle]
        exact (hs i hil).imp fun _ _ _ q => hk _ _ _ _ g2 k2 _ _ q
      · obtain rfl : i = len := by omega
        rw [← hl0, List.drop_left, ← hel0, List.take_length]
        exact hs2
theorem lay1 {P : Program} {w : World} : ∀ (f : Nat), LayOk P w (Rep1 P w f) (fun h n => RepH1 P h n f) := by
  intro f
  induction f with
  | zero => intro t v hr; exact hr.elim
  | succ f ih =>
    intro t v hr m h n x
    unfold Rep1 at hr
    have same : ∀ v0, VR m v0 v → RepH1 P h n (f + 1) t v0 → ∃ m' h' n' v0, Laid P w m' h' n' ∧ VR m' v0 v ∧ RepH1 P h' n' (f + 1) t v0 ∧ Le m m' ∧ n ≤ n' ∧ ∀ b, b < n → h'.get b = h.get b :=
      fun v0 h1 h2 => ⟨m, h, n, v0, x, h1, h2, Le.refl _, Nat.le_refl _, fun _ _ => rfl⟩
    split at hr
    · rename_i k hk
      obtain ⟨z, rfl, hw⟩ := hr
      exact same _ (.int k z) (by unfold RepH1; rw [hk]; exact ⟨z, rfl, hw⟩)
    · rename_i hk
      obtain ⟨z, rfl, hw⟩ := hr
      exact same _ (.string z) (by unfold RepH1; rw [hk]; exact ⟨z, rfl, hw⟩)
    · rename_i hk
      obtain ⟨z, rfl⟩ := hr
      exact same _ (.bool z) (by unfold RepH1; rw [hk]; exact ⟨z, rfl⟩)
    · rename_i e hk
      rcases hr with rfl | ⟨a, len, cap, ts, rfl, hl, hm, hts, h0, hsz, hel⟩
      · exact same _ (.snil 0 0 ⟨Nat.le_refl _, by unfold CAP; omega⟩) (by unfold RepH1; rw [hk]; exact .inl ⟨none, rfl, fun _ _ => by simp⟩)
      · by_cases hc0 : cap = 0
        · obtain rfl : len = 0 := by omega
          subst hc0
          exact same (.slice (some ⟨0, 0, some 0⟩) 0 0) (.semp 0 0 0 a) (by unfold RepH1; rw [hk]; exact .inl ⟨_, rfl, fun b o q => by simp at q⟩)
        · have first : ∃ b off, a = ⟨b, off, none⟩ ∧ ∃ cs e' fr, w.heap[b]? = some (.cells cs e' fr) ∧ off + cap * ts.length ≤ cs.size := by
            obtain ⟨es, he1, he2⟩ := hel (cap - 1) (by omega)
            obtain ⟨es', he1', he2'⟩ := hel 0 (by omega)
            have hl1 := he2.length
            have hl2 := he2'.length
            have c0 := he1' 0 es'[0] (by simp)
            obtain ⟨b, off, spot⟩ := a
            have hspot : spot = none := by simpa [Addr.add] using World.cell?_spot c0
            subst hspot
            obtain ⟨cs, e', fr, hg, _⟩ := cell_some (by rw [add0] at c0; exact c0)
            refine ⟨b, off, rfl, cs, e', fr, hg, ?_⟩
            have cl := he1 (ts.length - 1) es[ts.length - 1] (List.getElem?_eq_getElem (by omega))
            rw [add0, cell_eq w _ _ hg] at cl
            have hlt := (Array.getElem?_eq_some_iff.1 cl).1
            have hmul : (cap - 1) * ts.length + ts.length = cap * ts.length := by
              rw [← Nat.succ_mul]; congr 1; omega
            omega
          obtain ⟨b, off, rfl, cs, e', fr, hg, hfit⟩ := first
          obtain ⟨m1, h1, n1, vs0, vs, x1, hv, hvl, hcell, hs, l1, g1, k1⟩ := lay_elems (S := fun h n => RepH1 P h n f) (fun _ _ _ _ hn hk _ _ q => RepH1.keep hn hk q) ih len (fun i hi => hel i (by omega)) m h n x
          obtain ⟨m2, x2, hv2, l2⟩ := laid_block (len := len) (cap := cap) (off := off) x1 hg hsz hv (fun i u hu => by
            have := hcell i u hu
            rwa [add0, cell_eq w _ _ hg] at this) (by rw [hv.length, hvl]) hl hfit
          have kk : ∀ c, c < n1 → (h1.set n1 (some ⟨e, false, vs0⟩)).get c = h1.get c := fun c hc => get_ne _ _ (by omega)
          refine ⟨m2, _, n1 + 1, _, x2, hv2, ?_, l1.trans l2, by omega, fun c hc => (kk c (by omega)).trans (k1 c hc)⟩
          show RepH1 P _ (n1 + 1) (f + 1) t _
          unfold RepH1
          rw [hk]
          refine .inr ⟨n1, len, ts, vs0, rfl, hts, h0, get_eq _ _ _, Nat.lt_succ_self n1, by rw [hv.length, hvl], by omega, fun i hi => (hs i hi).imp fun _ _ _ q => RepH1.keep (Nat.le_succ n1) kk q⟩
    · exact hr.elim

/-! arguments -/
def isAggT (P : Program) (t : TypeId) : Bool := match P.underlying t with
  | some (.struct _) | some (.array _ _) => true
  | _ => false
/-- an argument -/
def ArgR (P : Program) (w : World) (t : TypeId) (v : Value) : Prop := ∃ ts, cellTs P 8 t = some ts ∧ All2 (Rep1 P w 8) ts v.cells.toList ∧ (isAggT P t = true → ∃ cs, v = .agg cs) ∧ (isAggT P t = false → v.cells = #[v])
def ArgH (P : Program) (h : H) (n : Nat) (t : TypeId) (v : Value) : Prop := ∃ ts, cellTs P 8 t = some ts ∧ ((isAggT P t = true ∧ ∃ cs, v = .agg cs ∧ All2 (RepH1 P h n 8) ts cs.toList) ∨ (isAggT P t = false ∧ All2 (RepH1 P h n 8) ts [v]))
def okA (P : Program) (t : TypeId) : Bool := match cellTs P 8 t with
  | some ts => ts.all (okT P 8)
  | none => false
theorem argR_of {H0 : Type} {enc : TypeId × Value → H0} {P : Program} {w : World} {held : Bool} {r : Reach} {b0 : Nat} {t : TypeId} {v : Value} {d : DataW H0} {p : List MemPlace} (ho : okA P t = true) (hv : Value.okWide P w r b0 t v) (h : DataW.Trod enc P w 0 (fun _ => true) held t v d p) : ArgR P w t v := by
  unfold okA at ho
  split at ho
  · rename_i ts hts
    rw [List.all_eq_true] at ho
    obtain ⟨m, hm⟩ := h
    have hc := rep_cells (R := Rep1 P w 8) 8 t v.cells.toList ts m _ hts (fun t' ht' u m x hx => rep1_of t' u m x (ho t' ht') hx) hm
    refine ⟨ts, hts, hc.2, fun ha => ?_, fun ha => ?_⟩
    · unfold isAggT at ha
      split at ha
      · rename_i fs hk
        obtain ⟨cs, e, _⟩ := okWide_struct hk hv
        exact ⟨cs, e⟩
      · rename_i q e hk
        simp only [Value.okWide, hk] at hv
        obtain ⟨cs, e, _⟩ := hv
        exact ⟨cs, e⟩
      · cases ha
    · have hcell : P.cellsOf t = 1 ∨ True := .inr trivial
      unfold cellTs at hts
      unfold isAggT at ha
      split at hts
      · rename_i k hk
        obtain ⟨n, e⟩ := okWide_int hk hv
        rw [e]; rfl
      · rename_i hk
        obtain ⟨n, e⟩ := okWide_string hk hv
        rw [e]; rfl
      · rename_i hk
        obtain ⟨n, e⟩ := okWide_bool hk hv
        rw [e]; rfl
      · rename_i e hk
        obtain ⟨a, l, c, e⟩ := okWide_slice hk hv
        rw [e]; rfl
      · rename_i fs hk
        rw [hk] at ha
        cases ha
      · rename_i q e hk
        rw [hk] at ha
        cases ha
      · cases hts
  · cases ho
theorem lay_arg {P : Program} {w : World} : LayOk P w (ArgR P w) (ArgH P) := by
  intro t v hr m h n x
  obtain ⟨ts, hts, hall, ha, hb⟩ := hr
  obtain ⟨m1, h1, n1, vs0, x1, hv, hs, l1, g1, k1⟩ := lay_list (S := fun h n => RepH1 P h n 8) (fun _ _ _ _ hn hk _ _ q => RepH1.keep hn hk q) (lay1 8) ts _ hall m h n x
  cases hg : isAggT P t with
  | true =>
    obtain ⟨cs, rfl⟩ := ha hg
    exact ⟨m1, h1, n1, .agg vs0.toArray, x1, .agg hv, ⟨ts, hts, .inl ⟨hg, vs0.toArray, rfl, hs⟩⟩, l1, g1, k1⟩
  | false =>
    have hc := hb hg
    rw [hc] at hv
    cases hv with
    | cons hv ht =>
      cases ht
      exact ⟨m1, h1, n1, _, x1, hv, ⟨ts, hts, .inr ⟨hg, hs⟩⟩, l1, g1, k1⟩
theorem ArgH.keep {P : Program} {h h' : H} {n n' : Nat} (hn : n ≤ n') (hk : ∀ b, b < n → h'.get b = h.get b) {t : TypeId} {v : Value} (x : ArgH P h n t v) : ArgH P h' n' t v := by
  obtain ⟨ts, hts, q⟩ := x
  rcases q with ⟨h1, cs, h2, h3⟩ | ⟨h1, h2⟩
  · exact ⟨ts, hts, .inl ⟨h1, cs, h2, h3.imp fun _ _ _ q => RepH1.keep hn hk q⟩⟩
  · exact ⟨ts, hts, .inr ⟨h1, h2.imp fun _ _ _ q => RepH1.keep hn hk q⟩⟩
/-- a statement of plain arguments, from a start that is laid -/
theorem law_of {P : Program} (hnm : okNames P = true) (hok : okProg P KN = true) (hmix : P.follows .mixedOrders = true) (hkn : Known P KN) (hd : okDsts P = true) {w : World} {gt : Nat → Hint} {lf d : Nat} {f : FuncId} {ts : List TypeId} {vs : List Value} (ha : All2 (ArgR P w) ts vs) {m0 : Mp} {h0 : H} (x0 : Laid P w m0 h0 P.globals.size)
    (r : ∀ n h vs0, P.globals.size ≤ n → (∀ b, b < P.globals.size → h.get b = h0.get b) → All2 (ArgH P h n) ts vs0 → Run (fun _ => False) n (evCall2 P gt lf d f vs0.toArray) h n fun v _ _ => v = .bool true) : Calls P f vs.toArray w fun e w' => e = .returned (.bool true) ∧ Below w.heap.size w w' := by
  obtain ⟨m1, h1, n1, vs0, x1, hv, hs, _, g1, k1⟩ := lay_list (S := ArgH P) (fun _ _ _ _ hn hk _ _ q => ArgH.keep hn hk q) lay_arg ts vs ha m0 h0 _ x0
  exact laid_call hnm hok hmix hkn hd x1 hv (r n1 h1 vs0 g1 k1 hs)

end Go.Proofs.YtmjolmggelkjlaaGreat.Ev

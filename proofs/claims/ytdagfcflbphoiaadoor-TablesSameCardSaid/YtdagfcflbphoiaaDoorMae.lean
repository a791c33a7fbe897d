/- Elements of three cells: reading one, a variable of one, rows of one's own that grow. No program in sight. -/
import Derived.Test.YtdagfcflbphoiaaDoorMad
import Derived.ProofKit
import Derived.OpenShut
import Derived.Test.YtdagfcflbphoiaaDoorRows
namespace Go.Proofs.YtdagfcflbphoiaaDoor.Ev
set_option linter.unusedVariables false
set_option linter.unusedSimpArgs false
open Go

structure Cell3 (P : Program) (t e : TypeId) (z : Value) : Prop where
  und : P.underlying t = some (.slice e)
  info : ∃ i, P.info? e = some i ∧ i.size = 3 ∧ i.bytes ≤ 64
  zero : zero? P e = some z
  zs : z.cells.size = 3
  agg : agg? P e = some true
  fill : ∀ a b c : Value, Instr.fill (fun i => some (i * 3, 3)) (zeros z (1 * 3)) [(0, .agg #[a, b, c])] = some #[a, b, c]
theorem Cell3.size {P : Program} {t e : TypeId} {z : Value} (c : Cell3 P t e z) : size? P e = some 3 := by
  obtain ⟨i, h1, h2, _⟩ := c.info
  unfold size?
  rw [h1]
  simp [h2]
abbrev V3 := Value × Value × Value
def flat3 : List V3 → List Value
  | [] => []
  | t :: l => t.1 :: t.2.1 :: t.2.2 :: flat3 l
section
variable {β : Type} {W : Nat → Prop} {n0 : Nat} {h : H} {n : Nat} {Q : β → H → Nat → Prop} {P : Program} {t e : TypeId} {z : Value}
/-- a row of one's own of such elements, that grows -/
def Own3 (h : H) (lo n : Nat) (e : TypeId) (v : Value) (ts : List V3) : Prop := (v = .slice none 0 0 ∧ ts = []) ∨ ∃ b, v = .slice (some ⟨b, 0, none⟩) ts.length (CAP + ts.length) ∧ h.get b = some ⟨e, true, flat3 ts⟩ ∧ lo ≤ b ∧ b < n
theorem Own3.nil (h : H) (lo n : Nat) (e : TypeId) : Own3 h lo n e (.slice none 0 0) [] := .inl ⟨rfl, rfl⟩
theorem Own3.keep {lo : Nat} {v : Value} {ts : List V3} {h' : H} {n' : Nat} (o : Own3 h lo n e v ts) (hn : n ≤ n') (hk : ∀ b, InBlk v b → h'.get b = h.get b) : Own3 h' lo n' e v ts := by
  rcases o with q | ⟨c, rfl, hc, h1, h2⟩
  · exact .inl q
  · exact .inr ⟨c, rfl, (hk c ⟨_, _, _, rfl⟩).trans hc, h1, by omega⟩
theorem Own3.lt {lo : Nat} {v : Value} {ts : List V3} (o : Own3 h lo n e v ts) {b : Nat} (hb : InBlk v b) : lo ≤ b ∧ b < n := by
  rcases o with ⟨rfl, _⟩ | ⟨c, rfl, _, h1, h2⟩
  · exact hb.not_nil.elim
  · rw [hb.inj]; exact ⟨h1, h2⟩
theorem Own3.len {lo : Nat} {v : Value} {ts : List V3} (o : Own3 h lo n e v ts) : ∃ a c, v = .slice a ts.length c := by
  rcases o with ⟨rfl, rfl⟩ | ⟨b, rfl, _⟩
  · exact ⟨none, 0, rfl⟩
  · exact ⟨_, _, rfl⟩
end

end Go.Proofs.YtdagfcflbphoiaaDoor.Ev
/- Arguments of plain data (numbers, texts, truths, slices, structs and arrays of them): how they lie in the world, and how they are laid for the evaluator. No program in sight. -/
namespace Go.Proofs.YtdagfcflbphoiaaDoor.Ev
set_option linter.unusedVariables false
set_option linter.unusedSimpArgs false
open Go Go.RowKit Go.WideShapes Go.ChangeShapes

def All2 {α β : Type} (R : α → β → Prop) : List α → List β → Prop
  | [], [] => True
  | a :: l, b :: m => R a b ∧ All2 R l m
  | _, _ => False
theorem All2.length {α β : Type} {R : α → β → Prop} : ∀ {l : List α} {m : List β}, All2 R l m → l.length = m.length
  | [], [], _ => rfl
  | _ :: _, _ :: _, h => by simp [All2.length h.2]
  | [], _ :: _, h => h.elim
  | _ :: _, [], h => h.elim
theorem All2.imp {α β : Type} {R S : α → β → Prop} : ∀ {l : List α} {m : List β}, (∀ a ∈ l, ∀ b, R a b → S a b) → All2 R l m → All2 S l m
  | [], [], _, _ => trivial
  | a :: _, _ :: _, h, x => ⟨h a (List.mem_cons_self ..) _ x.1, All2.imp (fun a ha => h a (List.mem_cons_of_mem _ ha)) x.2⟩
  | [], _ :: _, _, x => x.elim
  | _ :: _, [], _, x => x.elim
theorem All2.append {α β : Type} {R : α → β → Prop} : ∀ {l l' : List α} {m m' : List β}, All2 R l m → All2 R l' m' → All2 R (l ++ l') (m ++ m')
  | [], _, [], _, _, h => h
  | _ :: _, _, _ :: _, _, x, h => ⟨x.1, All2.append x.2 h⟩
  | [], _, _ :: _, _, x, _ => x.elim
  | _ :: _, _, [], _, x, _ => x.elim

/-- the types of a type's cells, one by one -/
def fieldTs (g : TypeId → Option (List TypeId)) : Nat → List Field → Option (List TypeId)
  | _, [] => some []
  | o, fd :: r => if fd.offset = o then (match g fd.type with
    | some ts => match fieldTs g (o + ts.length) r with
      | some rs => some (ts ++ rs)
      | none => none
    | none => none) else none
def cellTs (P : Program) : Nat → TypeId → Option (List TypeId)
  | 0, _ => none
  | f + 1, t => match P.underlying t with
    | some (.int _) | some .string | some .bool | some (.slice _) => if P.cellsOf t = 1 then some [t] else none
    | some (.struct fs) => match fieldTs (cellTs P f) 0 fs.toList with
      | some ts => if ts.length = P.cellsOf t then some ts else none
      | none => none
    | some (.array n e) => match cellTs P f e with
      | some ts => if n * ts.length = P.cellsOf t ∧ ts.length = P.cellsOf e then some (List.replicate n ts).flatten else none
      | none => none
    | _ => none
theorem fieldTs_some {g : TypeId → Option (List TypeId)} {o : Nat} {fd : Field} {r : List Field} {ts : List TypeId} (h : fieldTs g o (fd :: r) = some ts) : fd.offset = o ∧ ∃ a b, g fd.type = some a ∧ fieldTs g (o + a.length) r = some b ∧ ts = a ++ b := by
  unfold fieldTs at h
  split at h
  · rename_i h0
    split at h
    · rename_i a ha
      split at h
      · rename_i b hb
        cases h
        exact ⟨h0, a, b, ha, hb, rfl⟩
      · cases h
    · cases h
  · cases h
/-- how a value of one cell lies in the world -/
def Rep1 (P : Program) (w : World) : Nat → TypeId → Value → Prop
  | 0, _, _ => False
  | f + 1, t, v => match P.underlying t with
    | some (.int k) => ∃ n, v = .int k n ∧ (Lit.int k n).wf = true
    | some .string => ∃ s : ByteArray, v = .string s ∧ s.size ≤ maxLen
    | some .bool => ∃ b, v = .bool b
    | some (.slice e) => v = .slice none 0 0 ∨ ∃ a len cap ts, v = .slice (some a) len cap ∧ len ≤ cap ∧ cap ≤ maxLen ∧ cellTs P 8 e = some ts ∧ 0 < ts.length ∧ size? P e = some ts.length ∧
        ∀ i, i < cap → ∃ es : List Value, (∀ j u, es[j]? = some u → w.cell? (a.add (i * ts.length + j)) = some u) ∧ All2 (Rep1 P w f) ts es
    | _ => False
/-- types that are served -/
def okT (P : Program) : Nat → TypeId → Bool
  | 0, _ => false
  | f + 1, t => match P.underlying t with
    | some (.int _) | some .string | some .bool => true
    | some (.slice e) => match cellTs P 8 e with
      | some ts => decide (0 < ts.length) && decide (size? P e = some ts.length) && ts.all (okT P f)
      | none => false
    | _ => false
theorem cells?_get {w : World} {b : Nat} {a : Addr} {n : Nat} {es : List Value} (h : w.cells? b a n = some es) : es.length = n ∧ ∀ j u, es[j]? = some u → w.cell? (a.add j) = some u := by
  unfold World.cells? at h
  split at h
  · have hl := mapM_some_length h
    simp only [List.length_range] at hl
    refine ⟨hl, fun j u hj => ?_⟩
    have hjl := (List.getElem?_eq_some_iff.1 hj).1
    have := mapM_some_get h j j (by rw [List.getElem?_range (by omega)])
    rw [this]; exact hj
  · cases h
theorem add_add (a : Addr) (i j : Nat) : (a.add i).add j = a.add (i + j) := by
  unfold Addr.add
  by_cases hj : j = 0
  · subst hj; simp
  · by_cases hi : i = 0
    · subst hi; simp
    · have : ¬ (i + j = 0) := by omega
      simp only [hi, hj, this, if_false]
      congr 1
      omega
section
variable {H0 : Type} {enc : TypeId × Value → H0} {P : Program} {w : World} {held : Bool}
theorem fieldTs_cells {g : TypeId → Option (List TypeId)} {R : TypeId → Value → Prop} {cs : List Value} : ∀ (fs : List Field) (o : Nat) (ts : List TypeId), fieldTs g o fs = some ts → cs.length = o + ts.length →
    (∀ fd ∈ fs, ∀ a, g fd.type = some a → a.length = P.cellsOf fd.type ∧ All2 R a ((cs.drop fd.offset).take (P.cellsOf fd.type))) → All2 R ts (cs.drop o)
  | [], o, ts, h, hl, _ => by
    cases h
    rw [List.drop_eq_nil_of_le (by simp at hl; omega)]
    trivial
  | fd :: r, o, ts, h, hl, hf => by
    obtain ⟨h0, a, b, ha, hb, rfl⟩ := fieldTs_some h
    obtain ⟨hal, h2⟩ := hf fd (List.mem_cons_self ..) a ha
    have := fieldTs_cells r (o + a.length) b hb (by simp at hl; omega) fun fd hfd => hf fd (List.mem_cons_of_mem _ hfd)
    rw [h0, ← hal] at h2
    have e : cs.drop o = (cs.drop o).take a.length ++ cs.drop (o + a.length) := by rw [← List.drop_drop, List.take_append_drop]
    rw [e]
    exact h2.append this
theorem rep_cells {R : TypeId → Value → Prop} : ∀ (f : Nat) (t : TypeId) (cs : List Value) (ts : List TypeId) (m : Nat) (x : DataW H0 × List MemPlace), cellTs P f t = some ts →
    (∀ t' ∈ ts, ∀ v m x, DataW.trod enc P w 0 (fun _ => true) held m t' [v] = some x → R t' v) → DataW.trod enc P w 0 (fun _ => true) held m t cs = some x → ts.length = P.cellsOf t ∧ All2 R ts cs := by
  intro f
  induction f with
  | zero => intro t cs ts m x h; cases h
  | succ f ih =>
    intro t cs ts m x h hR hx
    unfold cellTs at h
    have one : ∀ v, cs = [v] → (if P.cellsOf t = 1 then some [t] else none) = some ts → ts.length = P.cellsOf t ∧ All2 R ts cs := by
      intro v hv hq
      subst hv
      by_cases hc : P.cellsOf t = 1
      · rw [if_pos hc] at hq
        cases hq
        exact ⟨hc.symm, hR t (List.mem_cons_self ..) v m x hx, trivial⟩
      · rw [if_neg hc] at hq; cases hq
    split at h
    · rename_i k hk
      obtain ⟨n, rfl, _⟩ := DataW.trod_int hk hx
      exact one _ rfl h
    · rename_i hk
      obtain ⟨n, rfl, _⟩ := DataW.trod_string hk hx
      exact one _ rfl h
    · rename_i hk
      obtain ⟨n, rfl, _⟩ := DataW.trod_bool hk hx
      exact one _ rfl h
    · rename_i e hk
      rcases DataW.trod_slice hk hx with ⟨rfl, _⟩ | ⟨a, len, cap, elems, rest, n, _, rfl, _⟩
      · exact one _ rfl h
      · exact one _ rfl h
    · rename_i fs hk
      split at h
      · rename_i ts' hts
        split at h
        · rename_i hlen
          cases h
          obtain ⟨xs, n, rfl, _, hcl, _, hall⟩ := DataW.trod_struct hk hx
          refine ⟨hlen, ?_⟩
          have := fieldTs_cells (P := P) (R := R) (cs := cs) fs.toList 0 ts hts (by omega) fun fd hfd a ha => ?_
          · simpa using this
          · obtain ⟨i, hi⟩ := List.mem_iff_getElem?.1 hfd
            have hi' : fs[i]? = some fd := by simpa using hi
            have hx2 := hall i fd hi'
            cases hxi : xs[i]? with
            | none => exact absurd hx2 (by
                rw [hxi]
                have := (Array.getElem?_eq_some_iff.1 hi').1
                have h3 : xs[i]? = none := hxi
                rw [List.getElem?_eq_none_iff] at h3
                omega)
            | some y =>
              rw [hxi] at hx2
              exact ih fd.type _ a n y ha (fun t' ht' => hR t' (by
                have : ∀ (l : List Field) (o : Nat) (ts : List TypeId), fieldTs (cellTs P f) o l = some ts → fd ∈ l → ∀ q ∈ a, q ∈ ts := by
                  intro l
                  induction l with
                  | nil => intro o ts _ hm; simp at hm
                  | cons g r ih2 =>
                    intro o ts hh hm q hq
                    obtain ⟨_, a2, b2, e1, e2, rfl⟩ := fieldTs_some hh
                    rcases List.mem_cons.1 hm with rfl | hm
                    · rw [ha] at e1; cases e1
                      exact List.mem_append.2 (.inl hq)
                    · exact List.mem_append.2 (.inr (ih2 _ _ e2 hm q hq))
                exact this fs.toList 0 ts hts hfd t' ht')) hx2
        · cases h
      · cases h
    · rename_i n e hk
      split at h
      · rename_i ts' hts
        split at h
        · rename_i hlen
          obtain ⟨hlen, hle⟩ := hlen
          obtain ⟨xs, m', rfl, _, hcl, hxn, hall⟩ := DataW.trod_array hk hx
          have hR' : n = 0 ∨ ∀ t' ∈ ts', t' ∈ ts := by
            rcases Nat.eq_zero_or_pos n with q | q
            · exact .inl q
            · refine .inr fun t' ht' => ?_
              cases h
              rw [List.mem_flatten]
              exact ⟨ts', List.mem_replicate.2 ⟨by omega, rfl⟩, ht'⟩
          have key : ∀ k, k ≤ n → All2 R (List.replicate k ts').flatten (cs.take (k * ts'.length)) := by
            intro k
            induction k with
            | zero => intro _; simp [All2]
            | succ k ihk =>
              intro hkn
              have h1 := ihk (by omega)
              have hx2 := hall k (by omega)
              cases hxi : xs[k]? with
              | none => rw [List.getElem?_eq_none_iff] at hxi; omega
              | some y =>
                rw [hxi] at hx2
                obtain ⟨h3, h4⟩ := ih e _ ts' m' y hts (fun t' ht' => hR t' (by
                  rcases hR' with q | q
                  · omega
                  · exact q t' ht')) hx2
                rw [← h3] at h4
                rw [List.replicate_succ', List.flatten_append, List.flatten_singleton]
                have e1 : cs.take ((k + 1) * ts'.length) = cs.take (k * ts'.length) ++ (cs.drop (k * ts'.length)).take ts'.length := by
                  rw [Nat.succ_mul, List.take_add]
                rw [e1]
                exact h1.append h4
          cases h
          refine ⟨?_, ?_⟩
          · rw [← hlen]; simp
          · have := key n (Nat.le_refl n)
            rwa [List.take_of_length_le (by omega)] at this
        · cases h
      · cases h
    · cases h
theorem rep1_of {f : Nat} : ∀ (t : TypeId) (v : Value) (m : Nat) (x : DataW H0 × List MemPlace), okT P f t = true → DataW.trod enc P w 0 (fun _ => true) held m t [v] = some x → Rep1 P w f t v := by
  induction f with
  | zero => intro t v m x h; cases h
  | succ f ih =>
    intro t v m x h hx
    unfold okT at h
    unfold Rep1
    split at h
    · rename_i k hk
      obtain ⟨n, e, _, hw⟩ := DataW.trod_int hk hx
      simp at e
      exact ⟨n, e, hw⟩
    · rename_i hk
      obtain ⟨s, e, _, hw⟩ := DataW.trod_string hk hx
      simp at e
      exact ⟨s, e, hw⟩
    · rename_i hk
      obtain ⟨b, e, _⟩ := DataW.trod_bool hk hx
      simp at e
      exact ⟨b, e⟩
    · rename_i e hk
      split at h
      · rename_i ts hts
        simp only [Bool.and_eq_true, decide_eq_true_eq, List.all_eq_true] at h
        obtain ⟨⟨h0, h1⟩, h2⟩ := h
        have hc : P.cellsOf e = ts.length := by
          unfold size? at h1
          unfold Program.cellsOf
          rw [h1]; rfl
        rcases DataW.trod_slice hk hx with ⟨hv, _⟩ | ⟨a, len, cap, elems, rest, n, _, hv, _, _, hl, hm, hlen, hel, hsp, _⟩
        · simp at hv
          exact .inl hv
        · simp at hv
          obtain ⟨hr, hrest⟩ := hsp rfl
          refine .inr ⟨a, len, cap, ts, hv, hl, hm, hts, h0, h1, fun i hi => ?_⟩
          have get : ∃ y, (w.cells? 0 (a.add (i * P.cellsOf e)) (P.cellsOf e)).bind (DataW.trod enc P w 0 (fun _ => true) held n e) = some y := by
            by_cases hil : i < len
            · rw [hel i hil]
              exact ⟨_, List.getElem?_eq_getElem (by omega)⟩
            · have := hrest (i - len) (by omega)
              rw [show len + (i - len) = i by omega] at this
              rw [this]
              exact ⟨_, List.getElem?_eq_getElem (by omega)⟩
          obtain ⟨y, hy⟩ := get
          rw [Option.bind_eq_some_iff] at hy
          obtain ⟨es, hes, hy⟩ := hy
          obtain ⟨_, hcell⟩ := cells?_get hes
          refine ⟨es, fun j u hj => ?_, (rep_cells 8 e es ts n y hts (fun t' ht' v m x hx => ih t' v m x (h2 t' ht') hx) hy).2⟩
          have := hcell j u hj
          rwa [add_add, hc] at this
      · cases h
    · cases h
end

def RepH1 (P : Program) (h : H) (n : Nat) : Nat → TypeId → Value → Prop
  | 0, _, _ => False
  | f + 1, t, v => match P.underlying t with
    | some (.int k) => ∃ n, v = .int k n ∧ (Lit.int k n).wf = true
    | some .string => ∃ s : ByteArray, v = .string s ∧ s.size ≤ maxLen
    | some .bool => ∃ b, v = .bool b
    | some (.slice e) => (∃ a, v = .slice a 0 0 ∧ ∀ b o, a ≠ some ⟨b, o, none⟩) ∨ ∃ b len ts cs, v = .slice (some ⟨b, 0, none⟩) len (CAP + len) ∧ cellTs P 8 e = some ts ∧ 0 < ts.length ∧ h.get b = some ⟨e, false, cs⟩ ∧ b < n ∧ cs.length = len * ts.length ∧ len ≤ maxLen ∧
        ∀ i, i < len → All2 (RepH1 P h n f) ts ((cs.drop (i * ts.length)).take ts.length)
    | _ => False
theorem RepH1.keep {P : Program} {h h' : H} {n n' : Nat} (hn : n ≤ n') (hk : ∀ b, b < n → h'.get b = h.get b) : ∀ {f : Nat} {t : TypeId} {v : Value}, RepH1 P h n f t v → RepH1 P h' n' f t v := by
  intro f
  induction f with
  | zero => intro t v x; exact x
  | succ f ih =>
    intro t v x
    unfold RepH1 at x ⊢
    split at x
    · exact x
    · exact x
    · exact x
    · rcases x with q | ⟨b, len, ts, cs, hv, ht, h0, hg, hb, hl, hm, hall⟩
      · exact .inl q
      · exact .inr ⟨b, len, ts, cs, hv, ht, h0, (hk b hb).trans hg, by omega, hl, hm, fun i hi => (hall i hi).imp fun _ _ _ q => ih q⟩
    · exact x
/-- a block that is read, of cells that the world holds -/
theorem laid_block {P : Program} {w : World} {m : Mp} {h : H} {n : Nat} (x : Laid P w m h n) {b off len cap : Nat} {cs : Array Value} {e' : TypeId} {fr : Nat × Nat} (hg : w.heap[b]? = some (.cells cs e' fr)) {e : TypeId} {sz : Nat} (he : size? P e = some sz) {vs vs' : List Value} (hv : VRs m vs vs')
    (hat : ∀ i v, vs'[i]? = some v → cs[off + i]? = some v) (hlen : vs.length = len * sz) (hl : len ≤ cap) (hc : off + cap * sz ≤ cs.size) :
    ∃ m', Laid P w m' (h.set n (some ⟨e, false, vs⟩)) (n + 1) ∧ VR m' (.slice (some ⟨n, 0, none⟩) len (CAP + len)) (.slice (some ⟨b, off, none⟩) len cap) ∧ Le m m' := by
  let m' : Mp := fun c => if c = n then some ⟨b, off, cs.size, sz, e'⟩ else m c
  have hle : Le m m' := fun c d hd => by
    by_cases ec : c = n
    · subst ec; rw [x.fresh c (Nat.le_refl c)] at hd; cases hd
    · show (if c = n then _ else _) = _; rw [if_neg ec]; exact hd
  let h' : H := h.set n (some ⟨e, false, vs⟩)
  have hn : m' n = some ⟨b, off, cs.size, sz, e'⟩ := if_pos rfl
  have hgn : h'.get n = some ⟨e, false, vs⟩ := get_eq _ _ _
  have hmul : len * sz ≤ cap * sz := Nat.mul_le_mul_right _ hl
  have hown : ∀ c C, h'.get c = some C → C.own = false := fun c C hcC => by
    by_cases ec : c = n
    · subst ec; rw [hgn] at hcC; cases hcC; rfl
    · rw [get_ne _ _ ec] at hcC; exact x.own c C hcC
  refine ⟨m', ⟨⟨?_, ?_⟩, x.gl.mono hle, fun c hc => ?_, hown, by have := x.glo; omega⟩, .slc hn (fun _ => rfl) (fun q => by unfold CAP at q; omega) (fun _ => ⟨Nat.le_refl _, by omega⟩) hl hc, hle⟩
  · intro c C hcC
    by_cases ec : c = n
    · subst ec
      rw [hgn] at hcC
      cases hcC
      refine ⟨_, cs, fr.1, fr.2, hn, hg, rfl, by show off + vs.length ≤ cs.size; omega, he, fun q => (by cases q), fun k u hu => ?_⟩
      obtain ⟨u', hu', hr⟩ := hv.get k u hu
      exact ⟨u', hat k u' hu', hr.mono hle⟩
    · rw [get_ne _ _ ec] at hcC
      obtain ⟨d, cs2, lo, hi, hm, hg2, h1, h2, h3, h4, h5⟩ := x.wr.live c C hcC
      refine ⟨d, cs2, lo, hi, hle _ _ hm, hg2, h1, h2, h3, h4, fun k u hu => ?_⟩
      obtain ⟨u', hu', hr⟩ := h5 k u hu
      exact ⟨u', hu', hr.mono hle⟩
  · intro c c' C C' d d' hcC hcC' ho
    rw [hown c C hcC, hown c' C' hcC'] at ho
    simp at ho
  · show (if c = n then _ else _) = none
    rw [if_neg (by omega)]
    exact x.fresh c (by omega)
def LayOk (P : Program) (w : World) (R : TypeId → Value → Prop) (S : H → Nat → TypeId → Value → Prop) : Prop := ∀ t v, R t v → ∀ m h n, Laid P w m h n → ∃ m' h' n' v0, Laid P w m' h' n' ∧ VR m' v0 v ∧ S h' n' t v0 ∧ Le m m' ∧ n ≤ n' ∧ ∀ b, b < n → h'.get b = h.get b
theorem VRs.mono' {m m' : Mp} (hl : Le m m') {l l' : List Value} (h : VRs m l l') : VRs m' l l' := VRs.mono hl h
theorem lay_list {P : Program} {w : World} {R : TypeId → Value → Prop} {S : H → Nat → TypeId → Value → Prop} (hk : ∀ (h h' : H) (n n' : Nat), n ≤ n' → (∀ b, b < n → h'.get b = h.get b) → ∀ t v, S h n t v → S h' n' t v) (ok : LayOk P w R S) :
    ∀ (ts : List TypeId) (vs : List Value), All2 R ts vs → ∀ m h n, Laid P w m h n → ∃ m' h' n' vs0, Laid P w m' h' n' ∧ VRs m' vs0 vs ∧ All2 (S h' n') ts vs0 ∧ Le m m' ∧ n ≤ n' ∧ ∀ b, b < n → h'.get b = h.get b
  | [], [], _, m, h, n, x => ⟨m, h, n, [], x, .nil, trivial, Le.refl _, Nat.le_refl _, fun _ _ => rfl⟩
  | t :: ts, v :: vs, hr, m, h, n, x => by
    obtain ⟨m1, h1, n1, v0, x1, hv, hs, l1, g1, k1⟩ := ok t v hr.1 m h n x
    obtain ⟨m2, h2, n2, vs0, x2, hvs, hss, l2, g2, k2⟩ := lay_list hk ok ts vs hr.2 m1 h1 n1 x1
    exact ⟨m2, h2, n2, v0 :: vs0, x2, .cons (hv.mono l2) hvs, ⟨hk _ _ _ _ g2 k2 _ _ hs, hss⟩, l1.trans l2, by omega, fun b hb => (k2 b (by omega)).trans (k1 b hb)⟩
  | [], _ :: _, hr, _, _, _, _ => hr.elim
  | _ :: _, [], hr, _, _, _, _ => hr.elim
theorem drop_take_append {α : Type} {l r : List α} {k c : Nat} (h : k + c ≤ l.length) : ((l ++ r).drop k).take c = (l.drop k).take c := by
  rw [List.drop_append_of_le_length (by omega), List.take_append_of_le_length (by simp; omega)]
theorem lay_elems {P : Program} {w : World} {R : TypeId → Value → Prop} {S : H → Nat → TypeId → Value → Prop} (hk : ∀ (h h' : H) (n n' : Nat), n ≤ n' → (∀ b, b < n → h'.get b = h.get b) → ∀ t v, S h n t v → S h' n' t v) (ok : LayOk P w R S) {ts : List TypeId} {a : Addr} :
    ∀ (len : Nat), (∀ i, i < len → ∃ es : List Value, (∀ j u, es[j]? = some u → w.cell? (a.add (i * ts.length + j)) = some u) ∧ All2 R ts es) → ∀ m h n, Laid P w m h n →
      ∃ m' h' n' vs0 vs, Laid P w m' h' n' ∧ VRs m' vs0 vs ∧ vs.length = len * ts.length ∧ (∀ i u, vs[i]? = some u → w.cell? (a.add i) = some u) ∧ (∀ i, i < len → All2 (S h' n') ts ((vs0.drop (i * ts.length)).take ts.length)) ∧ Le m m' ∧ n ≤ n' ∧ ∀ b, b < n → h'.get b = h.get b := by
  intro len
  induction len with
  | zero => intro _ m h n x; exact ⟨m, h, n, [], [], x, .nil, by simp, fun i u hu => by simp at hu, fun i hi => by omega, Le.refl _, Nat.le_refl _, fun _ _ => rfl⟩
  | succ len ih =>
    intro hel m h n x
    obtain ⟨m1, h1, n1, vs0, vs, x1, hv, hl, hc, hs, l1, g1, k1⟩ := ih (fun i hi => hel i (by omega)) m h n x
    obtain ⟨es, he1, he2⟩ := hel len (by omega)
    obtain ⟨m2, h2, n2, es0, x2, hv2, hs2, l2, g2, k2⟩ := lay_list hk ok ts es he2 m1 h1 n1 x1
    have hl0 : vs0.length = len * ts.length := by rw [hv.length, hl]
    have hel0 : es0.length = ts.length := hs2.length.symm
    have hel1 : es.length = ts.length := he2.length.symm
    refine ⟨m2, h2, n2, vs0 ++ es0, vs ++ es, x2, (hv.mono' l2).append hv2, by rw [List.length_append, hl, hel1, Nat.succ_mul], fun i u hu => ?_, fun i hi => ?_, l1.trans l2, by omega, fun b hb => (k2 b (by omega)).trans (k1 b hb)⟩
    · by_cases hi : i < vs.length
      · rw [List.getElem?_append_left hi] at hu
        exact hc i u hu
      · rw [List.getElem?_append_right (by omega)] at hu
        have := he1 _ u hu
        rwa [show len * ts.length + (i - vs.length) = i by omega] at this
    · by_cases hil : i < len
      · have hle : i * ts.length + ts.length ≤ vs0.length := by
          rw [hl0, ← Nat.succ_mul]; exact Nat.mul_le_mul_right _ hil
        rw [drop_take_append hle]
        exact (hs i hil).imp fun _ _ _ q => hk _ _ _ _ g2 k2 _ _ q
      · obtain rfl : i = len := by omega
        rw [← hl0, List.drop_left, ← hel0, List.take_length]
        exact hs2
theorem lay1 {P : Program} {w : World} : ∀ (f : Nat), LayOk P w (Rep1 P w f) (fun h n => RepH1 P h n f) := by
  intro f
  induction f with
  | zero => intro t v hr; exact hr.elim
  | succ f ih =>
    intro t v hr m h n x
    unfold Rep1 at hr
    have same : ∀ v0, VR m v0 v → RepH1 P h n (f + 1) t v0 → ∃ m' h' n' v0, Laid P w m' h' n' ∧ VR m' v0 v ∧ RepH1 P h' n' (f + 1) t v0 ∧ Le m m' ∧ n ≤ n' ∧ ∀ b, b < n → h'.get b = h.get b :=
      fun v0 h1 h2 => ⟨m, h, n, v0, x, h1, h2, Le.refl _, Nat.le_refl _, fun _ _ => rfl⟩
    split at hr
    · rename_i k hk
      obtain ⟨z, rfl, hw⟩ := hr
      exact same _ (.int k z) (by unfold RepH1; rw [hk]; exact ⟨z, rfl, hw⟩)
    · rename_i hk
      obtain ⟨z, rfl, hw⟩ := hr
      exact same _ (.string z) (by unfold RepH1; rw [hk]; exact ⟨z, rfl, hw⟩)
    · rename_i hk
      obtain ⟨z, rfl⟩ := hr
      exact same _ (.bool z) (by unfold RepH1; rw [hk]; exact ⟨z, rfl⟩)
    · rename_i e hk
      rcases hr with rfl | ⟨a, len, cap, ts, rfl, hl, hm, hts, h0, hsz, hel⟩
      · exact same _ (.snil 0 0 ⟨Nat.le_refl _, by unfold CAP; omega⟩) (by unfold RepH1; rw [hk]; exact .inl ⟨none, rfl, fun _ _ => by simp⟩)
      · by_cases hc0 : cap = 0
        · obtain rfl : len = 0 := by omega
          subst hc0
          exact same (.slice (some ⟨0, 0, some 0⟩) 0 0) (.semp 0 0 0 a) (by unfold RepH1; rw [hk]; exact .inl ⟨_, rfl, fun b o q => by simp at q⟩)
        · have first : ∃ b off, a = ⟨b, off, none⟩ ∧ ∃ cs e' fr, w.heap[b]? = some (.cells cs e' fr) ∧ off + cap * ts.length ≤ cs.size := by
            obtain ⟨es, he1, he2⟩ := hel (cap - 1) (by omega)
            obtain ⟨es', he1', he2'⟩ := hel 0 (by omega)
            have hl1 := he2.length
            have hl2 := he2'.length
            have c0 := he1' 0 es'[0] (by simp)
            obtain ⟨b, off, spot⟩ := a
            have hspot : spot = none := by simpa [Addr.add] using World.cell?_spot c0
            subst hspot
            obtain ⟨cs, e', fr, hg, _⟩ := cell_some (by rw [add0] at c0; exact c0)
            refine ⟨b, off, rfl, cs, e', fr, hg, ?_⟩
            have cl := he1 (ts.length - 1) es[ts.length - 1] (List.getElem?_eq_getElem (by omega))
            rw [add0, cell_eq w _ _ hg] at cl
            have hlt := (Array.getElem?_eq_some_iff.1 cl).1
            have hmul : (cap - 1) * ts.length + ts.length = cap * ts.length := by
              rw [← Nat.succ_mul]; congr 1; omega
            omega
          obtain ⟨b, off, rfl, cs, e', fr, hg, hfit⟩ := first
          obtain ⟨m1, h1, n1, vs0, vs, x1, hv, hvl, hcell, hs, l1, g1, k1⟩ := lay_elems (S := fun h n => RepH1 P h n f) (fun _ _ _ _ hn hk _ _ q => RepH1.keep hn hk q) ih len (fun i hi => hel i (by omega)) m h n x
          obtain ⟨m2, x2, hv2, l2⟩ := laid_block (len := len) (cap := cap) (off := off) x1 hg hsz hv (fun i u hu => by
            have := hcell i u hu
            rwa [add0, cell_eq w _ _ hg] at this) (by rw [hv.length, hvl]) hl hfit
          have kk : ∀ c, c < n1 → (h1.set n1 (some ⟨e, false, vs0⟩)).get c = h1.get c := fun c hc => get_ne _ _ (by omega)
          refine ⟨m2, _, n1 + 1, _, x2, hv2, ?_, l1.trans l2, by omega, fun c hc => (kk c (by omega)).trans (k1 c hc)⟩
          show RepH1 P _ (n1 + 1) (f + 1) t _
          unfold RepH1
          rw [hk]
          refine .inr ⟨n1, len, ts, vs0, rfl, hts, h0, get_eq _ _ _, Nat.lt_succ_self n1, by rw [hv.length, hvl], by omega, fun i hi => (hs i hi).imp fun _ _ _ q => RepH1.keep (Nat.le_succ n1) kk q⟩
    · exact hr.elim

def isAggT (P : Program) (t : TypeId) : Bool := match P.underlying t with
  | some (.struct _) | some (.array _ _) => true
  | _ => false
/-- an argument -/
def ArgR (P : Program) (w : World) (t : TypeId) (v : Value) : Prop := ∃ ts, cellTs P 8 t = some ts ∧ All2 (Rep1 P w 8) ts v.cells.toList ∧ (isAggT P t = true → ∃ cs, v = .agg cs) ∧ (isAggT P t = false → v.cells = #[v])
def ArgH (P : Program) (h : H) (n : Nat) (t : TypeId) (v : Value) : Prop := ∃ ts, cellTs P 8 t = some ts ∧ ((isAggT P t = true ∧ ∃ cs, v = .agg cs ∧ All2 (RepH1 P h n 8) ts cs.toList) ∨ (isAggT P t = false ∧ All2 (RepH1 P h n 8) ts [v]))
def okA (P : Program) (t : TypeId) : Bool := match cellTs P 8 t with
  | some ts => ts.all (okT P 8)
  | none => false
theorem argR_of {H0 : Type} {enc : TypeId × Value → H0} {P : Program} {w : World} {held : Bool} {r : Reach} {b0 : Nat} {t : TypeId} {v : Value} {d : DataW H0} {p : List MemPlace} (ho : okA P t = true) (hv : Value.okWide P w r b0 t v) (h : DataW.Trod enc P w 0 (fun _ => true) held t v d p) : ArgR P w t v := by
  unfold okA at ho
  split at ho
  · rename_i ts hts
    rw [List.all_eq_true] at ho
    obtain ⟨m, hm⟩ := h
    have hc := rep_cells (R := Rep1 P w 8) 8 t v.cells.toList ts m _ hts (fun t' ht' u m x hx => rep1_of t' u m x (ho t' ht') hx) hm
    refine ⟨ts, hts, hc.2, fun ha => ?_, fun ha => ?_⟩
    · unfold isAggT at ha
      split at ha
      · rename_i fs hk
        obtain ⟨cs, e, _⟩ := okWide_struct hk hv
        exact ⟨cs, e⟩
      · rename_i q e hk
        simp only [Value.okWide, hk] at hv
        obtain ⟨cs, e, _⟩ := hv
        exact ⟨cs, e⟩
      · cases ha
    · have hcell : P.cellsOf t = 1 ∨ True := .inr trivial
      unfold cellTs at hts
      unfold isAggT at ha
      split at hts
      · rename_i k hk
        obtain ⟨n, e⟩ := okWide_int hk hv
        rw [e]; rfl
      · rename_i hk
        obtain ⟨n, e⟩ := okWide_string hk hv
        rw [e]; rfl
      · rename_i hk
        obtain ⟨n, e⟩ := okWide_bool hk hv
        rw [e]; rfl
      · rename_i e hk
        obtain ⟨a, l, c, e⟩ := okWide_slice hk hv
        rw [e]; rfl
      · rename_i fs hk
        rw [hk] at ha
        cases ha
      · rename_i q e hk
        rw [hk] at ha
        cases ha
      · cases hts
  · cases ho
theorem lay_arg {P : Program} {w : World} : LayOk P w (ArgR P w) (ArgH P) := by
  intro t v hr m h n x
  obtain ⟨ts, hts, hall, ha, hb⟩ := hr
  obtain ⟨m1, h1, n1, vs0, x1, hv, hs, l1, g1, k1⟩ := lay_list (S := fun h n => RepH1 P h n 8) (fun _ _ _ _ hn hk _ _ q => RepH1.keep hn hk q) (lay1 8) ts _ hall m h n x
  cases hg : isAggT P t with
  | true =>
    obtain ⟨cs, rfl⟩ := ha hg
    exact ⟨m1, h1, n1, .agg vs0.toArray, x1, .agg hv, ⟨ts, hts, .inl ⟨hg, vs0.toArray, rfl, hs⟩⟩, l1, g1, k1⟩
  | false =>
    have hc := hb hg
    rw [hc] at hv
    cases hv with
    | cons hv ht =>
      cases ht
      exact ⟨m1, h1, n1, _, x1, hv, ⟨ts, hts, .inr ⟨hg, hs⟩⟩, l1, g1, k1⟩
theorem ArgH.keep {P : Program} {h h' : H} {n n' : Nat} (hn : n ≤ n') (hk : ∀ b, b < n → h'.get b = h.get b) {t : TypeId} {v : Value} (x : ArgH P h n t v) : ArgH P h' n' t v := by
  obtain ⟨ts, hts, q⟩ := x
  rcases q with ⟨h1, cs, h2, h3⟩ | ⟨h1, h2⟩
  · exact ⟨ts, hts, .inl ⟨h1, cs, h2, h3.imp fun _ _ _ q => RepH1.keep hn hk q⟩⟩
  · exact ⟨ts, hts, .inr ⟨h1, h2.imp fun _ _ _ q => RepH1.keep hn hk q⟩⟩
/-- a statement of plain arguments, from a start that is laid -/
theorem law_of {P : Program} (hnm : okNames P = true) (hok : okProg P KN = true) (hmix : P.follows .mixedOrders = true) (hkn : Known P KN) (hd : okDsts P = true) {w : World} {gt : Nat → List Nat} {lf d : Nat} {f : FuncId} {ts : List TypeId} {vs : List Value} (ha : All2 (ArgR P w) ts vs) {m0 : Mp} {h0 : H} (x0 : Laid P w m0 h0 P.globals.size)
    (r : ∀ n h vs0, P.globals.size ≤ n → (∀ b, b < P.globals.size → h.get b = h0.get b) → All2 (ArgH P h n) ts vs0 → Run (fun _ => False) n (evCall2 P gt lf d f vs0.toArray) h n fun v _ _ => v = .bool true) : Calls P f vs.toArray w fun e w' => e = .returned (.bool true) ∧ Below w.heap.size w w' := by
  obtain ⟨m1, h1, n1, vs0, x1, hv, hs, _, g1, k1⟩ := lay_list (S := ArgH P) (fun _ _ _ _ hn hk _ _ q => ArgH.keep hn hk q) lay_arg ts vs ha m0 h0 _ x0
  exact laid_call hnm hok hmix hkn hd x1 hv (r n1 h1 vs0 g1 k1 hs)

end Go.Proofs.YtdagfcflbphoiaaDoor.Ev
/- Texts in the second form: a text is the list of its bytes. No program in sight. -/
namespace Go.Proofs.YtdagfcflbphoiaaDoor.Ev
set_option linter.unusedVariables false
set_option linter.unusedSimpArgs false
open Go Go.RowKit

section
variable {P : Program} {t : TypeId}
end
section
variable {P : Program} {t : TypeId} {β : Type}
end

end Go.Proofs.YtdagfcflbphoiaaDoor.Ev
/- The rules that every step by simp takes, as two facts. No program in sight. -/
namespace Go.Proofs.YtdagfcflbphoiaaDoor.Ev
set_option linter.unusedVariables false
set_option linter.unusedSimpArgs false
open Go
theorem RXA : type_of% (And.intro @optK_some_eq (And.intro @nil2_ptr (And.intro @ifV_true (And.intro @ifV_false (And.intro @run_if (And.intro @run_out0 (And.intro @run_out1 (And.intro @run_out2 (And.intro @run_out3 (And.intro @optG_some (And.intro @one_int (And.intro @one_bool (And.intro @one_string (And.intro @one_slice (And.intro @one_ptr (And.intro @min2_eq (And.intro @max2_eq (And.intro @pick2_eq (And.intro @u_not (And.intro @u_neg (And.intro @cells_agg (And.intro @inside_ret (And.intro @chk_true (And.intro @get_eq (@get_ne))))))))))))))))))))))))) := And.intro @optK_some_eq (And.intro @nil2_ptr (And.intro @ifV_true (And.intro @ifV_false (And.intro @run_if (And.intro @run_out0 (And.intro @run_out1 (And.intro @run_out2 (And.intro @run_out3 (And.intro @optG_some (And.intro @one_int (And.intro @one_bool (And.intro @one_string (And.intro @one_slice (And.intro @one_ptr (And.intro @min2_eq (And.intro @max2_eq (And.intro @pick2_eq (And.intro @u_not (And.intro @u_neg (And.intro @cells_agg (And.intro @inside_ret (And.intro @chk_true (And.intro @get_eq (@get_ne))))))))))))))))))))))))
theorem RXB : type_of% (And.intro @List.getElem?_cons_zero.{0} (And.intro @List.getElem?_cons_succ.{0} (And.intro @List.set_cons_zero.{0} (And.intro @List.set_cons_succ.{0} (And.intro @List.length_cons.{0} (And.intro @List.length_nil.{0} (And.intro @Int.toNat_natCast (And.intro @Int.toNat_zero (And.intro @Nat.zero_add (And.intro @Nat.add_zero (And.intro @decide_eq_true_eq (And.intro @decide_eq_false_iff_not (And.intro @true_and (And.intro @and_true (And.intro @if_true.{1} (And.intro @if_false.{1} (And.intro @true_or (And.intro @or_true (And.intro @Bool.false_eq_true (And.intro @Bool.true_eq_false (And.intro @false_and (And.intro @and_false (And.intro @Bool.not_true (And.intro @Bool.not_false (And.intro @beq_self_eq_true.{0} (And.intro @bne_self_eq_false.{0} (And.intro @decide_true (And.intro @decide_false (And.intro @Bool.and_true (And.intro @Bool.true_and (And.intro @Bool.and_false (@Bool.false_and)))))))))))))))))))))))))))))))) := And.intro @List.getElem?_cons_zero.{0} (And.intro @List.getElem?_cons_succ.{0} (And.intro @List.set_cons_zero.{0} (And.intro @List.set_cons_succ.{0} (And.intro @List.length_cons.{0} (And.intro @List.length_nil.{0} (And.intro @Int.toNat_natCast (And.intro @Int.toNat_zero (And.intro @Nat.zero_add (And.intro @Nat.add_zero (And.intro @decide_eq_true_eq (And.intro @decide_eq_false_iff_not (And.intro @true_and (And.intro @and_true (And.intro @if_true.{1} (And.intro @if_false.{1} (And.intro @true_or (And.intro @or_true (And.intro @Bool.false_eq_true (And.intro @Bool.true_eq_false (And.intro @false_and (And.intro @and_false (And.intro @Bool.not_true (And.intro @Bool.not_false (And.intro @beq_self_eq_true.{0} (And.intro @bne_self_eq_false.{0} (And.intro @decide_true (And.intro @decide_false (And.intro @Bool.and_true (And.intro @Bool.true_and (And.intro @Bool.and_false (@Bool.false_and)))))))))))))))))))))))))))))))
end Go.Proofs.YtdagfcflbphoiaaDoor.Ev
/- Layers 8, 9 and 12: what the second form makes of the functions. -/
namespace Go.Proofs.YtdagfcflbphoiaaDoor
set_option linter.unusedVariables false
set_option linter.unusedSimpArgs false
open Go.RowKit Ev
def gtL : List (List Nat) := [[], [], [], [0, 1, 3, 4, 6, 7, 8, 9, 10, 11, 12, 13, 28, 31, 32, 33, 34, 39, 57, 58, 59, 60, 76, 96, 111, 122], [0, 1, 4, 5, 6, 8, 10, 29, 57, 59, 60, 61, 62, 73, 76, 77, 78, 79, 90], [0, 1, 4, 5, 6, 14, 26, 49, 61], [0, 1, 4, 5, 6, 17, 38], [0, 1, 2, 3, 4, 26], [], [0, 1, 3, 4, 5, 6, 7, 8, 9, 11, 12, 19, 21, 22, 23, 24, 36, 54], [0, 2, 3, 4, 5, 6, 7, 8, 9, 10, 27], [0, 1, 4, 6, 7, 8, 9, 10, 19], [0, 2, 4, 5, 6, 7, 8, 16], [0, 1, 4, 5, 6, 7, 8, 9, 10, 11, 17, 18, 19], [0, 2], [0, 1, 4, 5, 6, 7, 8, 9, 10, 11, 18, 27, 40, 41], [0, 2, 4, 6, 8, 10], [0, 2], [0, 1, 4, 5, 7, 24], [0, 2, 3, 5, 6, 7, 8, 12], [0, 1, 2, 6, 8, 9, 10, 11, 12, 22], [0, 2, 3, 5, 6, 7, 8, 9, 13], [0, 1, 4, 5, 10, 12, 13, 14, 25], [0, 1, 4, 5, 6, 7, 8, 9, 11, 14, 15, 16, 18, 19, 20, 21, 27, 36], [0, 1, 2, 3, 4], [0, 1, 2, 3, 4], [0, 1, 2], [0, 1, 4, 5, 6, 7, 9, 10, 11, 12, 13, 14, 24, 25, 26, 27, 28, 29, 42, 43, 44, 46, 47, 48, 49, 58], [0, 1, 4, 5, 10, 12, 13, 14, 24], [0, 2, 4], [0, 1, 4, 5, 14], [0, 1, 4, 5, 6, 8, 11, 12, 13, 14, 15, 25], [0, 1, 4, 5, 7, 8, 9, 10, 11, 16], [0, 2, 4], [0, 1, 4, 5, 6, 8, 14, 17, 18, 19, 20, 29], [0, 2, 3, 4, 5, 9, 10, 11], [0, 1, 4, 5, 6, 7, 8, 9, 10, 11, 12, 18, 19, 20, 29, 30, 31, 32, 42, 43, 44, 48], [0, 1, 2, 6, 7, 8, 9, 10, 12, 13, 14, 16, 18, 20, 21, 27, 28, 29, 37, 38, 39, 40, 70, 71, 72, 73], [0, 2, 3, 5, 6, 7, 8, 9, 10, 14, 15, 16], [0, 2, 3, 4, 5, 6, 7, 20, 24, 25, 26, 27, 41], [0, 2, 3, 5, 6, 7, 8, 9], [0, 1, 4, 5, 10, 12, 13, 14, 24], [0, 1, 2, 6, 7, 8, 9, 14, 15, 16, 17, 18, 30], [0, 1, 4], [0, 1, 4, 5, 6, 7, 8, 9], [0, 1, 4, 5, 6, 7, 8, 9, 10, 11, 24], [0, 2, 3, 5, 6, 7, 8, 9, 10, 14, 20, 21, 25], [0, 1, 2, 6], [0, 2], [0, 1, 4], [0, 1, 4, 5, 6, 7, 8, 9, 11, 12, 13, 14, 26], [0, 1, 4, 5, 6, 7, 22, 27, 28, 29], [0, 1, 2, 4, 5, 6], [0, 2, 3, 4, 5, 6, 11, 12, 13, 32], [0, 2, 3, 5, 6, 7, 8, 9], [0, 2, 4], [0, 2, 3, 4, 5, 9, 10, 11, 12], [0, 2, 3, 4, 5, 6, 7, 8, 9, 10, 11, 12, 13, 15, 18, 19, 20, 21, 39, 66, 67, 68, 69], [0, 2, 3, 5, 6, 7, 8, 9, 13], [0, 1, 4], [0, 2], [0, 2], [0, 1, 2, 4], [0, 1, 2, 3, 4, 12, 13, 14], [0, 2, 3, 46], [0, 1, 2], [0, 2, 3, 4, 5, 6, 7, 8, 9, 18], [0, 1, 4, 5, 6, 7, 8, 9, 10, 11, 17], [0, 1, 4, 5, 7, 8, 9, 16], [0, 1], [0, 1, 2, 5], [0, 1, 4, 5, 6, 11, 12, 13, 16, 19], [0, 1, 2, 3, 4], [0, 1, 2, 6, 7, 8, 9, 13, 30, 35, 54], [0, 2], [0, 1, 2, 3, 8, 9, 14, 34], [0, 1, 2, 3, 4, 10, 11, 12, 13, 14, 15, 16, 17, 18, 19, 20, 21, 22, 23, 24, 28, 33, 50, 58, 80, 85, 103, 110, 140, 151, 171, 185, 199, 213], [0, 1, 2, 3, 4, 10, 11, 20, 23], [0, 1, 2, 3, 10, 13], [], [], [], [], [], [], [], [], [], [], [], [], [], [], [], [], [], [], [], [], []]
def gt (f : Nat) : List Nat := gtL.getD f []
theorem okd : okDsts Tryd.prog = true := by kernel_rfl
theorem sz25 : size? Tryd.prog 25 = some 2 := by kernel_rfl
theorem len22 (a : Option Addr) (n c : Nat) : len2 Tryd.prog #[22] [.slice a n c] = some (.int .i64 n) := len_slice Tryd.underlying22 a n c
theorem nt3 : isNilT Tryd.prog 3 = false := by kernel_rfl
theorem bgtr3 (a b : Int) : bin2 Tryd.prog .gtr 3 (.int .i64 a) (.int .i64 b) = some (.bool (decide (b < a))) := b_gtr nt3 a b
theorem fa25f0 (b off : Nat) : evFieldAddr Tryd.prog 25 (.pointer (some ⟨b, off, none⟩)) 0 = some (.pointer (some ⟨b, off + 0, none⟩)) := by kernel_rfl
theorem ag23 : agg? Tryd.prog 23 = some false := by kernel_rfl
theorem ldr23 {β : Type} {W : Nat → Prop} {n0 : Nat} {h : H} {n : Nat} {Q : β → H → Nat → Prop} (b off : Nat) (k : Value → M β) (hb : b < n) : Run W n0 ((inside (evLoad Tryd.prog 23 (.pointer (some ⟨b, off, none⟩)))).bind k) h n Q ↔ optG (h.get b) fun B => Run W n0 (optK (B.cells[off]?) k) h n Q := ld_iff ag23 b off k hb
theorem len23 (a : Option Addr) (n c : Nat) : len2 Tryd.prog #[23] [.slice a n c] = some (.int .i64 n) := len_slice Tryd.underlying23 a n c
theorem fa25f1 (b off : Nat) : evFieldAddr Tryd.prog 25 (.pointer (some ⟨b, off, none⟩)) 1 = some (.pointer (some ⟨b, off + 1, none⟩)) := by kernel_rfl
theorem ag22 : agg? Tryd.prog 22 = some false := by kernel_rfl
theorem ldr22 {β : Type} {W : Nat → Prop} {n0 : Nat} {h : H} {n : Nat} {Q : β → H → Nat → Prop} (b off : Nat) (k : Value → M β) (hb : b < n) : Run W n0 ((inside (evLoad Tryd.prog 22 (.pointer (some ⟨b, off, none⟩)))).bind k) h n Q ↔ optG (h.get b) fun B => Run W n0 (optK (B.cells[off]?) k) h n Q := ld_iff ag22 b off k hb
theorem blss3 (a b : Int) : bin2 Tryd.prog .lss 3 (.int .i64 a) (.int .i64 b) = some (.bool (decide (a < b))) := b_lss nt3 a b
theorem sz22 : size? Tryd.prog 22 = some 1 := by kernel_rfl
theorem ix23 (b off n c : Nat) (k : IntKind) (i : Int) (h0 : 0 ≤ i) (h1 : i < n) : evIndexAddr Tryd.prog 23 (.slice (some ⟨b, off, none⟩) n c) (.int k i) = some (.pointer (some ⟨b, off + i.toNat, none⟩)) := (ix_slice Tryd.underlying23 sz22 b off n c k i h0 h1).trans (by rw [Nat.mul_one])
theorem badd3 (a b : Int) : bin2 Tryd.prog .add 3 (.int .i64 a) (.int .i64 b) = some (.int .i64 (IntKind.i64.wrap (a + b))) := b_add nt3 a b
theorem aga25 : agg? Tryd.prog 25 = some true := by kernel_rfl
theorem beql3 (a b : Int) : bin2 Tryd.prog .eql 3 (.int .i64 a) (.int .i64 b) = some (.bool (a == b)) := b_eql nt3 a b
theorem sz3 : size? Tryd.prog 3 = some 1 := by kernel_rfl
theorem ix22 (b off n c : Nat) (k : IntKind) (i : Int) (h0 : 0 ≤ i) (h1 : i < n) : evIndexAddr Tryd.prog 22 (.slice (some ⟨b, off, none⟩) n c) (.int k i) = some (.pointer (some ⟨b, off + i.toNat, none⟩)) := (ix_slice Tryd.underlying22 sz3 b off n c k i h0 h1).trans (by rw [Nat.mul_one])
theorem ag3 : agg? Tryd.prog 3 = some false := by kernel_rfl
theorem ldr3 {β : Type} {W : Nat → Prop} {n0 : Nat} {h : H} {n : Nat} {Q : β → H → Nat → Prop} (b off : Nat) (k : Value → M β) (hb : b < n) : Run W n0 ((inside (evLoad Tryd.prog 3 (.pointer (some ⟨b, off, none⟩)))).bind k) h n Q ↔ optG (h.get b) fun B => Run W n0 (optK (B.cells[off]?) k) h n Q := ld_iff ag3 b off k hb
theorem bgeq3 (a b : Int) : bin2 Tryd.prog .geq 3 (.int .i64 a) (.int .i64 b) = some (.bool (decide (b ≤ a))) := b_geq nt3 a b
theorem nt27 : isNilT Tryd.prog 27 = false := by kernel_rfl
theorem beql27 (a b : Int) : bin2 Tryd.prog .eql 27 (.int .i64 a) (.int .i64 b) = some (.bool (a == b)) := b_eql nt27 a b
theorem bneq27 (a b : Int) : bin2 Tryd.prog .neq 27 (.int .i64 a) (.int .i64 b) = some (.bool (a != b)) := b_neq nt27 a b
theorem bneq3 (a b : Int) : bin2 Tryd.prog .neq 3 (.int .i64 a) (.int .i64 b) = some (.bool (a != b)) := b_neq nt3 a b
theorem bquo3 (a b : Int) (h0 : b ≠ 0) : bin2 Tryd.prog .quo 3 (.int .i64 a) (.int .i64 b) = some (.int .i64 (IntKind.i64.wrap (a.tdiv b))) := b_quo nt3 a b h0
theorem bleq3 (a b : Int) : bin2 Tryd.prog .leq 3 (.int .i64 a) (.int .i64 b) = some (.bool (decide (a ≤ b))) := b_leq nt3 a b
theorem bd25x  : evBuild Tryd.prog 25 [] = M.ret (.agg #[(Go.Value.slice none 0 0), (Go.Value.slice none 0 0)]) := by kernel_rfl
theorem bd25x0 (v0a : Option Addr) (v0n v0c : Nat) : evBuild Tryd.prog 25 [(0, (Value.slice v0a v0n v0c))] = M.ret (.agg #[(Value.slice v0a v0n v0c), (Go.Value.slice none 0 0)]) := by kernel_rfl
theorem bd25x0x1 (v0a : Option Addr) (v0n v0c : Nat) (v1a : Option Addr) (v1n v1c : Nat) : evBuild Tryd.prog 25 [(0, (Value.slice v0a v0n v0c)), (1, (Value.slice v1a v1n v1c))] = M.ret (.agg #[(Value.slice v0a v0n v0c), (Value.slice v1a v1n v1c)]) := by kernel_rfl
theorem bsub3 (a b : Int) : bin2 Tryd.prog .sub 3 (.int .i64 a) (.int .i64 b) = some (.int .i64 (IntKind.i64.wrap (a - b))) := b_sub nt3 a b
theorem bmul3 (a b : Int) : bin2 Tryd.prog .mul 3 (.int .i64 a) (.int .i64 b) = some (.int .i64 (IntKind.i64.wrap (a * b))) := b_mul nt3 a b
theorem sz47 : size? Tryd.prog 47 = some 2 := by kernel_rfl
theorem fa47f1 (b off : Nat) : evFieldAddr Tryd.prog 47 (.pointer (some ⟨b, off, none⟩)) 1 = some (.pointer (some ⟨b, off + 1, none⟩)) := by kernel_rfl
theorem fa47f0 (b off : Nat) : evFieldAddr Tryd.prog 47 (.pointer (some ⟨b, off, none⟩)) 0 = some (.pointer (some ⟨b, off + 0, none⟩)) := by kernel_rfl
theorem zr47 : zero? Tryd.prog 47 = some (Go.Value.agg #[(Go.Value.slice none 0 0), (Go.Value.slice none 0 0)]) := by kernel_rfl
theorem bd47x0x1 (v0a : Option Addr) (v0n v0c : Nat) (v1a : Option Addr) (v1n v1c : Nat) : evBuild Tryd.prog 47 [(0, (Value.slice v0a v0n v0c)), (1, (Value.slice v1a v1n v1c))] = M.ret (.agg #[(Value.slice v0a v0n v0c), (Value.slice v1a v1n v1c)]) := by kernel_rfl
theorem bd47x0 (v0a : Option Addr) (v0n v0c : Nat) : evBuild Tryd.prog 47 [(0, (Value.slice v0a v0n v0c))] = M.ret (.agg #[(Value.slice v0a v0n v0c), (Go.Value.slice none 0 0)]) := by kernel_rfl
theorem aga47 : agg? Tryd.prog 47 = some true := by kernel_rfl
theorem str3 {β : Type} {W : Nat → Prop} {n0 : Nat} {h : H} {n : Nat} {Q : β → H → Nat → Prop} (b off : Nat) (v : Value) (k : Value → M β) (hb : b < n) (h1 : one v = true) : Run W n0 ((inside (evStore Tryd.prog 3 (.pointer (some ⟨b, off, none⟩)) v)).bind k) h n Q ↔ optG (h.get b) fun B => B.own = true ∧ off < B.cells.length ∧ (n0 ≤ b ∨ W b) ∧ Run W n0 (k undef) (h.set b (some ⟨B.elem, B.own, B.cells.set off v⟩)) n Q := st_iff sz3 b off v k hb h1
theorem str22 {β : Type} {W : Nat → Prop} {n0 : Nat} {h : H} {n : Nat} {Q : β → H → Nat → Prop} (b off : Nat) (v : Value) (k : Value → M β) (hb : b < n) (h1 : one v = true) : Run W n0 ((inside (evStore Tryd.prog 22 (.pointer (some ⟨b, off, none⟩)) v)).bind k) h n Q ↔ optG (h.get b) fun B => B.own = true ∧ off < B.cells.length ∧ (n0 ≤ b ∨ W b) ∧ Run W n0 (k undef) (h.set b (some ⟨B.elem, B.own, B.cells.set off v⟩)) n Q := st_iff sz22 b off v k hb h1
theorem fa72f0 (b off : Nat) : evFieldAddr Tryd.prog 72 (.pointer (some ⟨b, off, none⟩)) 0 = some (.pointer (some ⟨b, off + 0, none⟩)) := by kernel_rfl
theorem fa72f1 (b off : Nat) : evFieldAddr Tryd.prog 72 (.pointer (some ⟨b, off, none⟩)) 1 = some (.pointer (some ⟨b, off + 1, none⟩)) := by kernel_rfl
theorem beql22s (a : Addr) (n c : Nat) : bin2 Tryd.prog .eql 22 (.slice (some a) n c) (.slice none 0 0) = some (.bool false) := by kernel_rfl
theorem beql22n (n c : Nat) : bin2 Tryd.prog .eql 22 (.slice none n c) (.slice none 0 0) = some (.bool true) := by kernel_rfl
theorem bd75x0x1x2 (v0 : Int) (v1 : Int) (v2a : Option Addr) (v2n v2c : Nat) : evBuild Tryd.prog 75 [(0, (Value.int .i64 v0)), (1, (Value.int .i64 v1)), (2, (Value.slice v2a v2n v2c))] = M.ret (.agg #[(Value.int .i64 v0), (Value.int .i64 v1), (Value.slice v2a v2n v2c)]) := by kernel_rfl
theorem len73 (a : Option Addr) (n c : Nat) : len2 Tryd.prog #[73] [.slice a n c] = some (.int .i64 n) := len_slice Tryd.underlying73 a n c
theorem sz75 : size? Tryd.prog 75 = some 3 := by kernel_rfl
theorem ix73 (b off n c : Nat) (k : IntKind) (i : Int) (h0 : 0 ≤ i) (h1 : i < n) : evIndexAddr Tryd.prog 73 (.slice (some ⟨b, off, none⟩) n c) (.int k i) = some (.pointer (some ⟨b, off + i.toNat * 3, none⟩)) := ix_slice Tryd.underlying73 sz75 b off n c k i h0 h1
theorem fa75f2 (b off : Nat) : evFieldAddr Tryd.prog 75 (.pointer (some ⟨b, off, none⟩)) 2 = some (.pointer (some ⟨b, off + 2, none⟩)) := by kernel_rfl
theorem fa75f0 (b off : Nat) : evFieldAddr Tryd.prog 75 (.pointer (some ⟨b, off, none⟩)) 0 = some (.pointer (some ⟨b, off + 0, none⟩)) := by kernel_rfl
theorem bd72x0x3 (v0a : Option Addr) (v0n v0c : Nat) (v3 : Int) : evBuild Tryd.prog 72 [(0, (Value.slice v0a v0n v0c)), (3, (Value.int .i64 v3))] = M.ret (.agg #[(Value.slice v0a v0n v0c), (Go.Value.slice none 0 0), (Go.Value.slice none 0 0), (Value.int .i64 v3)]) := by kernel_rfl
theorem fa72f2 (b off : Nat) : evFieldAddr Tryd.prog 72 (.pointer (some ⟨b, off, none⟩)) 2 = some (.pointer (some ⟨b, off + 2, none⟩)) := by kernel_rfl
theorem fa72f3 (b off : Nat) : evFieldAddr Tryd.prog 72 (.pointer (some ⟨b, off, none⟩)) 3 = some (.pointer (some ⟨b, off + 3, none⟩)) := by kernel_rfl
theorem fa75f1 (b off : Nat) : evFieldAddr Tryd.prog 75 (.pointer (some ⟨b, off, none⟩)) 1 = some (.pointer (some ⟨b, off + 1, none⟩)) := by kernel_rfl
theorem cv3x84 {β : Type} (x : Int) (k : Value → M β) : conv2 Tryd.prog 3 84 (.int .i64 x) k = k (.int .u64 (IntKind.u64.wrap x)) := by kernel_rfl
theorem nt84 : isNilT Tryd.prog 84 = false := by kernel_rfl
theorem bshr84 {k' : IntKind} (a b : Int) (h0 : 0 ≤ b) : bin2 Tryd.prog .shr 84 (.int .u64 a) (.int k' b) = some (.int .u64 (a.fdiv (2 ^ (min b.toNat (IntKind.u64).bits)))) := b_shr nt84 a b h0
theorem cv84x3 {β : Type} (x : Int) (k : Value → M β) : conv2 Tryd.prog 84 3 (.int .u64 x) k = k (.int .i64 (IntKind.i64.wrap x)) := by kernel_rfl
theorem FX1 : (∀ (a : Option Addr) (n c : Nat), len2 Tryd.prog #[22] [.slice a n c] = some (.int .i64 n)) ∧ (∀ (a b : Int), bin2 Tryd.prog .gtr 3 (.int .i64 a) (.int .i64 b) = some (.bool (decide (b < a)))) ∧ (∀ (b off : Nat), evFieldAddr Tryd.prog 25 (.pointer (some ⟨b, off, none⟩)) 0 = some (.pointer (some ⟨b, off + 0, none⟩))) ∧ (∀ {β : Type} {W : Nat → Prop} {n0 : Nat} {h : H} {n : Nat} {Q : β → H → Nat → Prop} (b off : Nat) (k : Value → M β) (hb : b < n), Run W n0 ((inside (evLoad Tryd.prog 23 (.pointer (some ⟨b, off, none⟩)))).bind k) h n Q ↔ optG (h.get b) fun B => Run W n0 (optK (B.cells[off]?) k) h n Q) ∧ (∀ (a : Option Addr) (n c : Nat), len2 Tryd.prog #[23] [.slice a n c] = some (.int .i64 n)) ∧ (∀ (b off : Nat), evFieldAddr Tryd.prog 25 (.pointer (some ⟨b, off, none⟩)) 1 = some (.pointer (some ⟨b, off + 1, none⟩))) ∧ (∀ {β : Type} {W : Nat → Prop} {n0 : Nat} {h : H} {n : Nat} {Q : β → H → Nat → Prop} (b off : Nat) (k : Value → M β) (hb : b < n), Run W n0 ((inside (evLoad Tryd.prog 22 (.pointer (some ⟨b, off, none⟩)))).bind k) h n Q ↔ optG (h.get b) fun B => Run W n0 (optK (B.cells[off]?) k) h n Q) ∧ (∀ (a b : Int), bin2 Tryd.prog .lss 3 (.int .i64 a) (.int .i64 b) = some (.bool (decide (a < b)))) ∧ (∀ (b off n c : Nat) (k : IntKind) (i : Int) (h0 : 0 ≤ i) (h1 : i < n), evIndexAddr Tryd.prog 23 (.slice (some ⟨b, off, none⟩) n c) (.int k i) = some (.pointer (some ⟨b, off + i.toNat, none⟩))) ∧ (∀ (a b : Int), bin2 Tryd.prog .add 3 (.int .i64 a) (.int .i64 b) = some (.int .i64 (IntKind.i64.wrap (a + b)))) ∧ (∀ (a b : Int), bin2 Tryd.prog .eql 3 (.int .i64 a) (.int .i64 b) = some (.bool (a == b))) ∧ (∀ (b off n c : Nat) (k : IntKind) (i : Int) (h0 : 0 ≤ i) (h1 : i < n), evIndexAddr Tryd.prog 22 (.slice (some ⟨b, off, none⟩) n c) (.int k i) = some (.pointer (some ⟨b, off + i.toNat, none⟩))) ∧ (∀ {β : Type} {W : Nat → Prop} {n0 : Nat} {h : H} {n : Nat} {Q : β → H → Nat → Prop} (b off : Nat) (k : Value → M β) (hb : b < n), Run W n0 ((inside (evLoad Tryd.prog 3 (.pointer (some ⟨b, off, none⟩)))).bind k) h n Q ↔ optG (h.get b) fun B => Run W n0 (optK (B.cells[off]?) k) h n Q) ∧ (∀ (a b : Int), bin2 Tryd.prog .geq 3 (.int .i64 a) (.int .i64 b) = some (.bool (decide (b ≤ a)))) ∧ (∀ (a b : Int), bin2 Tryd.prog .eql 27 (.int .i64 a) (.int .i64 b) = some (.bool (a == b))) ∧ (∀ (a b : Int), bin2 Tryd.prog .neq 27 (.int .i64 a) (.int .i64 b) = some (.bool (a != b))) ∧ (∀ (a b : Int), bin2 Tryd.prog .neq 3 (.int .i64 a) (.int .i64 b) = some (.bool (a != b))) ∧ (∀ (a b : Int) (h0 : b ≠ 0), bin2 Tryd.prog .quo 3 (.int .i64 a) (.int .i64 b) = some (.int .i64 (IntKind.i64.wrap (a.tdiv b)))) ∧ (∀ (a b : Int), bin2 Tryd.prog .leq 3 (.int .i64 a) (.int .i64 b) = some (.bool (decide (a ≤ b)))) ∧ (evBuild Tryd.prog 25 [] = M.ret (.agg #[(Go.Value.slice none 0 0), (Go.Value.slice none 0 0)])) ∧ (∀ (v0a : Option Addr) (v0n v0c : Nat), evBuild Tryd.prog 25 [(0, (Value.slice v0a v0n v0c))] = M.ret (.agg #[(Value.slice v0a v0n v0c), (Go.Value.slice none 0 0)])) ∧ (∀ (v0a : Option Addr) (v0n v0c : Nat) (v1a : Option Addr) (v1n v1c : Nat), evBuild Tryd.prog 25 [(0, (Value.slice v0a v0n v0c)), (1, (Value.slice v1a v1n v1c))] = M.ret (.agg #[(Value.slice v0a v0n v0c), (Value.slice v1a v1n v1c)])) ∧ (∀ (a b : Int), bin2 Tryd.prog .sub 3 (.int .i64 a) (.int .i64 b) = some (.int .i64 (IntKind.i64.wrap (a - b)))) ∧ (∀ (a b : Int), bin2 Tryd.prog .mul 3 (.int .i64 a) (.int .i64 b) = some (.int .i64 (IntKind.i64.wrap (a * b)))) ∧ (∀ (b off : Nat), evFieldAddr Tryd.prog 47 (.pointer (some ⟨b, off, none⟩)) 1 = some (.pointer (some ⟨b, off + 1, none⟩))) ∧ (∀ (b off : Nat), evFieldAddr Tryd.prog 47 (.pointer (some ⟨b, off, none⟩)) 0 = some (.pointer (some ⟨b, off + 0, none⟩))) ∧ (∀ (v0a : Option Addr) (v0n v0c : Nat) (v1a : Option Addr) (v1n v1c : Nat), evBuild Tryd.prog 47 [(0, (Value.slice v0a v0n v0c)), (1, (Value.slice v1a v1n v1c))] = M.ret (.agg #[(Value.slice v0a v0n v0c), (Value.slice v1a v1n v1c)])) ∧ (∀ (v0a : Option Addr) (v0n v0c : Nat), evBuild Tryd.prog 47 [(0, (Value.slice v0a v0n v0c))] = M.ret (.agg #[(Value.slice v0a v0n v0c), (Go.Value.slice none 0 0)])) ∧ (∀ {β : Type} {W : Nat → Prop} {n0 : Nat} {h : H} {n : Nat} {Q : β → H → Nat → Prop} (b off : Nat) (v : Value) (k : Value → M β) (hb : b < n) (h1 : one v = true), Run W n0 ((inside (evStore Tryd.prog 3 (.pointer (some ⟨b, off, none⟩)) v)).bind k) h n Q ↔ optG (h.get b) fun B => B.own = true ∧ off < B.cells.length ∧ (n0 ≤ b ∨ W b) ∧ Run W n0 (k undef) (h.set b (some ⟨B.elem, B.own, B.cells.set off v⟩)) n Q) ∧ (∀ {β : Type} {W : Nat → Prop} {n0 : Nat} {h : H} {n : Nat} {Q : β → H → Nat → Prop} (b off : Nat) (v : Value) (k : Value → M β) (hb : b < n) (h1 : one v = true), Run W n0 ((inside (evStore Tryd.prog 22 (.pointer (some ⟨b, off, none⟩)) v)).bind k) h n Q ↔ optG (h.get b) fun B => B.own = true ∧ off < B.cells.length ∧ (n0 ≤ b ∨ W b) ∧ Run W n0 (k undef) (h.set b (some ⟨B.elem, B.own, B.cells.set off v⟩)) n Q) ∧ (∀ (b off : Nat), evFieldAddr Tryd.prog 72 (.pointer (some ⟨b, off, none⟩)) 0 = some (.pointer (some ⟨b, off + 0, none⟩))) ∧ (∀ (b off : Nat), evFieldAddr Tryd.prog 72 (.pointer (some ⟨b, off, none⟩)) 1 = some (.pointer (some ⟨b, off + 1, none⟩))) ∧ (∀ (a : Addr) (n c : Nat), bin2 Tryd.prog .eql 22 (.slice (some a) n c) (.slice none 0 0) = some (.bool false)) ∧ (∀ (n c : Nat), bin2 Tryd.prog .eql 22 (.slice none n c) (.slice none 0 0) = some (.bool true)) ∧ (∀ (v0 : Int) (v1 : Int) (v2a : Option Addr) (v2n v2c : Nat), evBuild Tryd.prog 75 [(0, (Value.int .i64 v0)), (1, (Value.int .i64 v1)), (2, (Value.slice v2a v2n v2c))] = M.ret (.agg #[(Value.int .i64 v0), (Value.int .i64 v1), (Value.slice v2a v2n v2c)])) ∧ (∀ (a : Option Addr) (n c : Nat), len2 Tryd.prog #[73] [.slice a n c] = some (.int .i64 n)) ∧ (∀ (b off n c : Nat) (k : IntKind) (i : Int) (h0 : 0 ≤ i) (h1 : i < n), evIndexAddr Tryd.prog 73 (.slice (some ⟨b, off, none⟩) n c) (.int k i) = some (.pointer (some ⟨b, off + i.toNat * 3, none⟩))) ∧ (∀ (b off : Nat), evFieldAddr Tryd.prog 75 (.pointer (some ⟨b, off, none⟩)) 2 = some (.pointer (some ⟨b, off + 2, none⟩))) ∧ (∀ (b off : Nat), evFieldAddr Tryd.prog 75 (.pointer (some ⟨b, off, none⟩)) 0 = some (.pointer (some ⟨b, off + 0, none⟩))) ∧ (∀ (v0a : Option Addr) (v0n v0c : Nat) (v3 : Int), evBuild Tryd.prog 72 [(0, (Value.slice v0a v0n v0c)), (3, (Value.int .i64 v3))] = M.ret (.agg #[(Value.slice v0a v0n v0c), (Go.Value.slice none 0 0), (Go.Value.slice none 0 0), (Value.int .i64 v3)])) ∧ (∀ (b off : Nat), evFieldAddr Tryd.prog 72 (.pointer (some ⟨b, off, none⟩)) 2 = some (.pointer (some ⟨b, off + 2, none⟩))) ∧ (∀ (b off : Nat), evFieldAddr Tryd.prog 72 (.pointer (some ⟨b, off, none⟩)) 3 = some (.pointer (some ⟨b, off + 3, none⟩))) ∧ (∀ (b off : Nat), evFieldAddr Tryd.prog 75 (.pointer (some ⟨b, off, none⟩)) 1 = some (.pointer (some ⟨b, off + 1, none⟩))) ∧ (∀ {β : Type} (x : Int) (k : Value → M β), conv2 Tryd.prog 3 84 (.int .i64 x) k = k (.int .u64 (IntKind.u64.wrap x))) ∧ (∀ {k' : IntKind} (a b : Int) (h0 : 0 ≤ b), bin2 Tryd.prog .shr 84 (.int .u64 a) (.int k' b) = some (.int .u64 (a.fdiv (2 ^ (min b.toNat (IntKind.u64).bits))))) ∧ (∀ {β : Type} (x : Int) (k : Value → M β), conv2 Tryd.prog 84 3 (.int .u64 x) k = k (.int .i64 (IntKind.i64.wrap x))) := ⟨@len22, @bgtr3, @fa25f0, @ldr23, @len23, @fa25f1, @ldr22, @blss3, @ix23, @badd3, @beql3, @ix22, @ldr3, @bgeq3, @beql27, @bneq27, @bneq3, @bquo3, @bleq3, @bd25x, @bd25x0, @bd25x0x1, @bsub3, @bmul3, @fa47f1, @fa47f0, @bd47x0x1, @bd47x0, @str3, @str22, @fa72f0, @fa72f1, @beql22s, @beql22n, @bd75x0x1x2, @len73, @ix73, @fa75f2, @fa75f0, @bd72x0x3, @fa72f2, @fa72f3, @fa75f1, @cv3x84, @bshr84, @cv84x3⟩

noncomputable def b_balerlaw12_TablesSame (lf d : Nat) (a0 : Value) (a1 : Value) : M Value :=
  (inside (evBox Tryd.prog 25 a0)).bind fun v2n1 =>
  (inside (evBox Tryd.prog 25 a1)).bind fun v3n2 =>
  optK (evFieldAddr Tryd.prog 25 v2n1 0) fun v5n3 =>
  (inside (evLoad Tryd.prog 23 v5n3)).bind fun v6n4 =>
  optK (len2 Tryd.prog #[23] [v6n4]) fun v7n5 =>
  optK (bin2 Tryd.prog .gtr 3 v7n5 (Value.int .i64 8)) fun v8n6 =>
  ifV v8n6 (
    (inside (evCall2 Tryd.prog gt lf d 8 #[])).bind fun v27n7 =>
    outK [v27n7]) (
    optK (evFieldAddr Tryd.prog 25 v3n2 0) fun v10n8 =>
    (inside (evLoad Tryd.prog 23 v10n8)).bind fun v11n9 =>
    optK (len2 Tryd.prog #[23] [v11n9]) fun v12n10 =>
    optK (bin2 Tryd.prog .gtr 3 v12n10 (Value.int .i64 8)) fun v13n11 =>
    ifV v13n11 (
      (inside (evCall2 Tryd.prog gt lf d 8 #[])).bind fun v27n12 =>
      outK [v27n12]) (
      optK (evFieldAddr Tryd.prog 25 v2n1 1) fun v16n13 =>
      (inside (evLoad Tryd.prog 22 v16n13)).bind fun v17n14 =>
      optK (len2 Tryd.prog #[22] [v17n14]) fun v18n15 =>
      optK (bin2 Tryd.prog .gtr 3 v18n15 (Value.int .i64 50)) fun v19n16 =>
      ifV v19n16 (
        (inside (evCall2 Tryd.prog gt lf d 8 #[])).bind fun v27n17 =>
        outK [v27n17]) (
        optK (evFieldAddr Tryd.prog 25 v3n2 1) fun v22n18 =>
        (inside (evLoad Tryd.prog 22 v22n18)).bind fun v23n19 =>
        optK (len2 Tryd.prog #[22] [v23n19]) fun v24n20 =>
        optK (bin2 Tryd.prog .gtr 3 v24n20 (Value.int .i64 50)) fun v25n21 =>
        ifV v25n21 (
          (inside (evCall2 Tryd.prog gt lf d 8 #[])).bind fun v27n22 =>
          outK [v27n22]) (
          (timed (
            (inside (evLoad Tryd.prog 25 v2n1)).bind fun v28n24 => M.ret v28n24)).bind fun vtn23 =>
          (timed (
            (inside (evLoad Tryd.prog 25 v3n2)).bind fun v29n26 => M.ret v29n26)).bind fun vtn25 =>
          (timed (
            (inside (evCall2 Tryd.prog gt lf d 24 #[vtn23.1, vtn25.1])).bind fun v30n28 => M.ret v30n28)).bind fun vtn27 =>
          (timed (
            (inside (evLoad Tryd.prog 25 v2n1)).bind fun v31n30 => M.ret v31n30)).bind fun vtn29 =>
          (timed (
            (inside (evCall2 Tryd.prog gt lf d 26 #[vtn29.1])).bind fun v32n32 => M.ret v32n32)).bind fun vtn31 =>
          (timed (
            (inside (evLoad Tryd.prog 25 v3n2)).bind fun v33n34 => M.ret v33n34)).bind fun vtn33 =>
          (timed (
            (inside (evCall2 Tryd.prog gt lf d 26 #[vtn33.1])).bind fun v34n36 => M.ret v34n36)).bind fun vtn35 =>
          (timed (
            (inside (evCall2 Tryd.prog gt lf d 25 #[vtn31.1, vtn35.1])).bind fun v35n38 => M.ret v35n38)).bind fun vtn37 =>
          optK (bin2 Tryd.prog .eql 4 vtn27.1 vtn37.1) fun v36n39 =>
          ifV v36n39 (
            (timed (
              (inside (evLoad Tryd.prog 25 v2n1)).bind fun v38n41 => M.ret v38n41)).bind fun vtn40 =>
            (timed (
              (inside (evLoad Tryd.prog 25 v2n1)).bind fun v39n43 => M.ret v39n43)).bind fun vtn42 =>
            (timed (
              (inside (evCall2 Tryd.prog gt lf d 24 #[vtn40.1, vtn42.1])).bind fun v40n45 => M.ret v40n45)).bind fun vtn44 =>
            ifV vtn44.1 (
              (timed (
                (inside (evCall2 Tryd.prog gt lf d 8 #[])).bind fun v43n47 => M.ret v43n47)).bind fun vtn46 =>
              chkT ((!(Tk.clash vtn27.2 vtn29.2) && (!(Tk.clash vtn27.2 vtn33.2) && true)) && ((!(Tk.clash vtn31.2 vtn33.2) && true) && true)) (
                outK [vtn46.1])) (
              (timed (M.ret undef)).bind fun vtn48 =>
              chkT ((!(Tk.clash vtn27.2 vtn29.2) && (!(Tk.clash vtn27.2 vtn33.2) && true)) && ((!(Tk.clash vtn31.2 vtn33.2) && true) && true)) (
                outK [(Value.bool false)]))) (
            (timed (M.ret undef)).bind fun vtn49 =>
            (timed (M.ret undef)).bind fun vtn50 =>
            (timed (M.ret undef)).bind fun vtn51 =>
            (timed (M.ret undef)).bind fun vtn52 =>
            chkT ((!(Tk.clash vtn27.2 vtn29.2) && (!(Tk.clash vtn27.2 vtn33.2) && true)) && ((!(Tk.clash vtn31.2 vtn33.2) && true) && true)) (
              outK [(Value.bool false)]))))))
theorem sh_balerlaw12_TablesSame (lf d : Nat) (a0 : Value) (a1 : Value) : evCall2 Tryd.prog gt lf (d + 1) 7 #[a0, a1] = inside (b_balerlaw12_TablesSame lf d a0 a1) := by kernel_rfl

noncomputable def lpA_tables_Cost (lf d fu : Nat) (k : Ex → Fr → M Value) (x0 : Value) (x1 : Value) (x3 : Value) (x4 : Value) (x5 : Value) (x6 : Value) (x19 : Value) (x21 : Value) (x22 : Value) (x23 : Value) : M Value := loopK (fun s1 k1 => codeK Tryd.prog (evCall2 Tryd.prog gt lf d) (gt 9) lf (codeAt (bodyOf Tryd.prog 9) [true, true, true, false, true, false, false]) s1 k1) [0, 1, 3, 4, 5, 6, 19, 21, 22, 23] fu [(0, x0), (1, x1), (3, x3), (4, x4), (5, x5), (6, x6), (19, x19), (21, x21), (22, x22), (23, x23)] k
noncomputable def kcA_tables_Cost (lf d : Nat) : Ex → Fr → M Value := contAt Tryd.prog (evCall2 Tryd.prog gt lf d) (gt 9) lf (bodyOf Tryd.prog 9) [true, true, true, false, true, false] (endK Tryd.prog (resOf Tryd.prog 9))
noncomputable def lpA_tables_Of (lf d fu : Nat) (k : Ex → Fr → M Value) (x0 : Value) (x1 : Value) (x4 : Value) (x5 : Value) (x6 : Value) (x7 : Value) (x8 : Value) (x9 : Value) (x18 : Value) (x27 : Value) (x40 : Value) : M Value := loopK (fun s1 k1 => codeK Tryd.prog (evCall2 Tryd.prog gt lf d) (gt 15) lf (codeAt (bodyOf Tryd.prog 15) [true, true, true, true, true, false, true, false, false]) s1 k1) [0, 1, 4, 5, 6, 7, 8, 9, 18, 27, 40] fu [(0, x0), (1, x1), (4, x4), (5, x5), (6, x6), (7, x7), (8, x8), (9, x9), (18, x18), (27, x27), (40, x40)] k
noncomputable def kcA_tables_Of (lf d : Nat) : Ex → Fr → M Value := contAt Tryd.prog (evCall2 Tryd.prog gt lf d) (gt 15) lf (bodyOf Tryd.prog 15) [true, true, true, true, true, false, true, false] (endK Tryd.prog (resOf Tryd.prog 15))
noncomputable def lpA_tables_Number (lf d fu : Nat) (k : Ex → Fr → M Value) (x0 : Value) (x2 : Value) (x3 : Value) (x6 : Value) (x7 : Value) : M Value := loopK (fun s1 k1 => codeK Tryd.prog (evCall2 Tryd.prog gt lf d) (gt 19) lf (codeAt (bodyOf Tryd.prog 19) [true, true, false, true, false, false]) s1 k1) [0, 2, 3, 6, 7] fu [(0, x0), (2, x2), (3, x3), (6, x6), (7, x7)] k
noncomputable def kcA_tables_Number (lf d : Nat) : Ex → Fr → M Value := contAt Tryd.prog (evCall2 Tryd.prog gt lf d) (gt 19) lf (bodyOf Tryd.prog 19) [true, true, false, true, false] (endK Tryd.prog (resOf Tryd.prog 19))
noncomputable def lpA_balerplain_Rows (lf d fu : Nat) (k : Ex → Fr → M Value) (x0 : Value) (x1 : Value) (x4 : Value) (x10 : Value) (x12 : Value) (x13 : Value) : M Value := loopK (fun s1 k1 => codeK Tryd.prog (evCall2 Tryd.prog gt lf d) (gt 22) lf (codeAt (bodyOf Tryd.prog 22) [true, true, false, true, false, false]) s1 k1) [0, 1, 4, 10, 12, 13] fu [(0, x0), (1, x1), (4, x4), (10, x10), (12, x12), (13, x13)] k
noncomputable def kcA_balerplain_Rows (lf d : Nat) : Ex → Fr → M Value := contAt Tryd.prog (evCall2 Tryd.prog gt lf d) (gt 22) lf (bodyOf Tryd.prog 22) [true, true, false, true, false] (endK Tryd.prog (resOf Tryd.prog 22))
noncomputable def b_balerplain_Rows (lf d : Nat) (a0 : Value) (a1 : Value) : M Value :=
  optK (len2 Tryd.prog #[23] [a0]) fun v7n1 =>
  optK (len2 Tryd.prog #[23] [a1]) fun v9n2 =>
  optK (bin2 Tryd.prog .neq 3 v7n1 v9n2) fun v10n3 =>
  ifV v10n3 (
    outK [(Value.bool false)]) (
    optK (len2 Tryd.prog #[23] [a0]) fun v12n4 =>
    lpA_balerplain_Rows lf d lf (kcA_balerplain_Rows lf d) a0 a1 (Value.bool false) v10n3 v12n4 (Value.int .i64 0))
theorem sh_balerplain_Rows (lf d : Nat) (a0 : Value) (a1 : Value) : evCall2 Tryd.prog gt lf (d + 1) 22 #[a0, a1] = inside (b_balerplain_Rows lf d a0 a1) := by kernel_rfl
theorem succA_balerplain_Rows (lf d fu : Nat) (k : Ex → Fr → M Value) (x0 : Value) (x1 : Value) (x4 : Value) (x10 : Value) (x12 : Value) (x13 : Value) : lpA_balerplain_Rows lf d (fu + 1) k x0 x1 x4 x10 x12 x13 =
  optK (bin2 Tryd.prog .lss 3 x13 x12) fun v14n5 =>
  ifV v14n5 (
    optK (evIndexAddr Tryd.prog 23 x0 x13) fun v18n6 =>
    (inside (evLoad Tryd.prog 22 v18n6)).bind fun v19n7 =>
    optK (evIndexAddr Tryd.prog 23 x1 x13) fun v22n8 =>
    (inside (evLoad Tryd.prog 22 v22n8)).bind fun v23n9 =>
    (inside (evCall2 Tryd.prog gt lf d 28 #[v19n7, v23n9])).bind fun v24n10 =>
    optK (un2 Tryd.prog .not v24n10) fun v25n11 =>
    ifV v25n11 (
      k Ex.ret [(0, x0), (1, x1), (4, (Value.bool false)), (5, x13), (10, x10), (12, x12), (13, x13), (14, v14n5), (25, v25n11)]) (
      optK (bin2 Tryd.prog .add 3 x13 (Value.int .i64 1)) fun v26n12 =>
      lpA_balerplain_Rows lf d fu k x0 x1 x4 x10 x12 v26n12)) (
    k (Ex.exit 0) [(0, x0), (1, x1), (4, x4), (10, x10), (12, x12), (13, x13), (14, v14n5)]) := by kernel_rfl
theorem kcAa_balerplain_Rows (lf d : Nat) (y0 : Value) (y1 : Value) (y4 : Value) (y5 : Value) (y10 : Value) (y12 : Value) (y13 : Value) (y14 : Value) (y25 : Value) : kcA_balerplain_Rows lf d Ex.ret [(0, y0), (1, y1), (4, y4), (5, y5), (10, y10), (12, y12), (13, y13), (14, y14), (25, y25)] =
  outK [y4] := by kernel_rfl
theorem kcAb_balerplain_Rows (lf d : Nat) (y0 : Value) (y1 : Value) (y4 : Value) (y10 : Value) (y12 : Value) (y13 : Value) (y14 : Value) : kcA_balerplain_Rows lf d (Ex.exit 0) [(0, y0), (1, y1), (4, y4), (10, y10), (12, y12), (13, y13), (14, y14)] =
  outK [(Value.bool true)] := by kernel_rfl

noncomputable def b_tables_Same (lf d : Nat) (a0 : Value) (a1 : Value) : M Value :=
  (inside (evBox Tryd.prog 25 a0)).bind fun v2n1 =>
  (inside (evBox Tryd.prog 25 a1)).bind fun v3n2 =>
  optK (evFieldAddr Tryd.prog 25 v2n1 1) fun v5n3 =>
  (inside (evLoad Tryd.prog 22 v5n3)).bind fun v6n4 =>
  optK (evFieldAddr Tryd.prog 25 v3n2 1) fun v7n5 =>
  (inside (evLoad Tryd.prog 22 v7n5)).bind fun v8n6 =>
  (inside (evCall2 Tryd.prog gt lf d 41 #[v6n4, v8n6])).bind fun v9n7 =>
  ifV v9n7 (
    optK (evFieldAddr Tryd.prog 25 v2n1 0) fun v11n8 =>
    (inside (evLoad Tryd.prog 23 v11n8)).bind fun v12n9 =>
    optK (evFieldAddr Tryd.prog 25 v3n2 0) fun v13n10 =>
    (inside (evLoad Tryd.prog 23 v13n10)).bind fun v14n11 =>
    (inside (evCall2 Tryd.prog gt lf d 42 #[v12n9, v14n11, (Value.func (.func 43) #[] #[])])).bind fun v15n12 =>
    outK [v15n12]) (
    outK [(Value.bool false)])
theorem sh_tables_Same (lf d : Nat) (a0 : Value) (a1 : Value) : evCall2 Tryd.prog gt lf (d + 1) 24 #[a0, a1] = inside (b_tables_Same lf d a0 a1) := by kernel_rfl

noncomputable def b_balerref12_Same (lf d : Nat) (a0 : Value) (a1 : Value) : M Value :=
  (inside (evBox Tryd.prog 47 a0)).bind fun v2n1 =>
  (inside (evBox Tryd.prog 47 a1)).bind fun v3n2 =>
  optK (evFieldAddr Tryd.prog 47 v2n1 1) fun v5n3 =>
  (inside (evLoad Tryd.prog 22 v5n3)).bind fun v6n4 =>
  optK (evFieldAddr Tryd.prog 47 v3n2 1) fun v7n5 =>
  (inside (evLoad Tryd.prog 22 v7n5)).bind fun v8n6 =>
  (inside (evCall2 Tryd.prog gt lf d 28 #[v6n4, v8n6])).bind fun v9n7 =>
  ifV v9n7 (
    optK (evFieldAddr Tryd.prog 47 v2n1 0) fun v11n8 =>
    (inside (evLoad Tryd.prog 23 v11n8)).bind fun v12n9 =>
    optK (evFieldAddr Tryd.prog 47 v3n2 0) fun v13n10 =>
    (inside (evLoad Tryd.prog 23 v13n10)).bind fun v14n11 =>
    (inside (evCall2 Tryd.prog gt lf d 22 #[v12n9, v14n11])).bind fun v15n12 =>
    outK [v15n12]) (
    outK [(Value.bool false)])
theorem sh_balerref12_Same (lf d : Nat) (a0 : Value) (a1 : Value) : evCall2 Tryd.prog gt lf (d + 1) 25 #[a0, a1] = inside (b_balerref12_Same lf d a0 a1) := by kernel_rfl

noncomputable def b_balerlaw12_ref (lf d : Nat) (a0 : Value) : M Value :=
  (inside (evBox Tryd.prog 25 a0)).bind fun v1n1 =>
  (inside (evAlloc Tryd.prog 47)).bind fun v2n2 =>
  optK (evFieldAddr Tryd.prog 25 v1n1 0) fun v3n3 =>
  (inside (evLoad Tryd.prog 23 v3n3)).bind fun v4n4 =>
  optK (evFieldAddr Tryd.prog 25 v1n1 1) fun v5n5 =>
  (inside (evLoad Tryd.prog 22 v5n5)).bind fun v6n6 =>
  (inside (evBuild Tryd.prog 47 [(0, v4n4), (1, v6n6)])).bind fun v7n7 =>
  (inside (evStore Tryd.prog 47 v2n2 v7n7)).bind fun u8 =>
  (evLoad Tryd.prog 47 v2n2).bind fun vrn9 =>
  outK [vrn9]
theorem sh_balerlaw12_ref (lf d : Nat) (a0 : Value) : evCall2 Tryd.prog gt lf (d + 1) 26 #[a0] = inside (b_balerlaw12_ref lf d a0) := by kernel_rfl

noncomputable def lpA_balerplain_Ints (lf d fu : Nat) (k : Ex → Fr → M Value) (x0 : Value) (x1 : Value) (x4 : Value) (x10 : Value) (x12 : Value) (x13 : Value) : M Value := loopK (fun s1 k1 => codeK Tryd.prog (evCall2 Tryd.prog gt lf d) (gt 28) lf (codeAt (bodyOf Tryd.prog 28) [true, true, false, true, false, false]) s1 k1) [0, 1, 4, 10, 12, 13] fu [(0, x0), (1, x1), (4, x4), (10, x10), (12, x12), (13, x13)] k
noncomputable def kcA_balerplain_Ints (lf d : Nat) : Ex → Fr → M Value := contAt Tryd.prog (evCall2 Tryd.prog gt lf d) (gt 28) lf (bodyOf Tryd.prog 28) [true, true, false, true, false] (endK Tryd.prog (resOf Tryd.prog 28))
noncomputable def b_balerplain_Ints (lf d : Nat) (a0 : Value) (a1 : Value) : M Value :=
  optK (len2 Tryd.prog #[22] [a0]) fun v7n1 =>
  optK (len2 Tryd.prog #[22] [a1]) fun v9n2 =>
  optK (bin2 Tryd.prog .neq 3 v7n1 v9n2) fun v10n3 =>
  ifV v10n3 (
    outK [(Value.bool false)]) (
    optK (len2 Tryd.prog #[22] [a0]) fun v12n4 =>
    lpA_balerplain_Ints lf d lf (kcA_balerplain_Ints lf d) a0 a1 (Value.bool false) v10n3 v12n4 (Value.int .i64 0))
theorem sh_balerplain_Ints (lf d : Nat) (a0 : Value) (a1 : Value) : evCall2 Tryd.prog gt lf (d + 1) 28 #[a0, a1] = inside (b_balerplain_Ints lf d a0 a1) := by kernel_rfl
theorem succA_balerplain_Ints (lf d fu : Nat) (k : Ex → Fr → M Value) (x0 : Value) (x1 : Value) (x4 : Value) (x10 : Value) (x12 : Value) (x13 : Value) : lpA_balerplain_Ints lf d (fu + 1) k x0 x1 x4 x10 x12 x13 =
  optK (bin2 Tryd.prog .lss 3 x13 x12) fun v14n5 =>
  ifV v14n5 (
    optK (evIndexAddr Tryd.prog 22 x0 x13) fun v18n6 =>
    (inside (evLoad Tryd.prog 3 v18n6)).bind fun v19n7 =>
    optK (evIndexAddr Tryd.prog 22 x1 x13) fun v22n8 =>
    (inside (evLoad Tryd.prog 3 v22n8)).bind fun v23n9 =>
    optK (bin2 Tryd.prog .neq 3 v19n7 v23n9) fun v24n10 =>
    ifV v24n10 (
      k Ex.ret [(0, x0), (1, x1), (4, (Value.bool false)), (5, x13), (10, x10), (12, x12), (13, x13), (14, v14n5), (24, v24n10)]) (
      optK (bin2 Tryd.prog .add 3 x13 (Value.int .i64 1)) fun v25n11 =>
      lpA_balerplain_Ints lf d fu k x0 x1 x4 x10 x12 v25n11)) (
    k (Ex.exit 0) [(0, x0), (1, x1), (4, x4), (10, x10), (12, x12), (13, x13), (14, v14n5)]) := by kernel_rfl
theorem kcAa_balerplain_Ints (lf d : Nat) (y0 : Value) (y1 : Value) (y4 : Value) (y5 : Value) (y10 : Value) (y12 : Value) (y13 : Value) (y14 : Value) (y24 : Value) : kcA_balerplain_Ints lf d Ex.ret [(0, y0), (1, y1), (4, y4), (5, y5), (10, y10), (12, y12), (13, y13), (14, y14), (24, y24)] =
  outK [y4] := by kernel_rfl
theorem kcAb_balerplain_Ints (lf d : Nat) (y0 : Value) (y1 : Value) (y4 : Value) (y10 : Value) (y12 : Value) (y13 : Value) (y14 : Value) : kcA_balerplain_Ints lf d (Ex.exit 0) [(0, y0), (1, y1), (4, y4), (10, y10), (12, y12), (13, y13), (14, y14)] =
  outK [(Value.bool true)] := by kernel_rfl

noncomputable def lpA_freq_Cost (lf d fu : Nat) (k : Ex → Fr → M Value) (x0 : Value) (x1 : Value) (x4 : Value) (x5 : Value) (x6 : Value) (x11 : Value) (x12 : Value) (x13 : Value) (x14 : Value) : M Value := loopK (fun s1 k1 => codeK Tryd.prog (evCall2 Tryd.prog gt lf d) (gt 31) lf (codeAt (bodyOf Tryd.prog 31) [true, true, true, false, true, false, false]) s1 k1) [0, 1, 4, 5, 6, 11, 12, 13, 14] fu [(0, x0), (1, x1), (4, x4), (5, x5), (6, x6), (11, x11), (12, x12), (13, x13), (14, x14)] k
noncomputable def kcA_freq_Cost (lf d : Nat) : Ex → Fr → M Value := contAt Tryd.prog (evCall2 Tryd.prog gt lf d) (gt 31) lf (bodyOf Tryd.prog 31) [true, true, true, false, true, false] (endK Tryd.prog (resOf Tryd.prog 31))
noncomputable def lpA_freq_Counts (lf d fu : Nat) (k : Ex → Fr → M Value) (x0 : Value) (x1 : Value) (x4 : Value) (x5 : Value) (x6 : Value) (x14 : Value) (x17 : Value) (x18 : Value) (x19 : Value) : M Value := loopK (fun s1 k1 => codeK Tryd.prog (evCall2 Tryd.prog gt lf d) (gt 34) lf (codeAt (bodyOf Tryd.prog 34) [true, true, true, false, true, false, false]) s1 k1) [0, 1, 4, 5, 6, 14, 17, 18, 19] fu [(0, x0), (1, x1), (4, x4), (5, x5), (6, x6), (14, x14), (17, x17), (18, x18), (19, x19)] k
noncomputable def kcA_freq_Counts (lf d : Nat) : Ex → Fr → M Value := contAt Tryd.prog (evCall2 Tryd.prog gt lf d) (gt 34) lf (bodyOf Tryd.prog 34) [true, true, true, false, true, false] (endK Tryd.prog (resOf Tryd.prog 34))
noncomputable def lpA_tables_groupsOf (lf d fu : Nat) (k : Ex → Fr → M Value) (x0 : Value) (x2 : Value) (x3 : Value) (x9 : Value) (x10 : Value) : M Value := loopK (fun s1 k1 => codeK Tryd.prog (evCall2 Tryd.prog gt lf d) (gt 35) lf (codeAt (bodyOf Tryd.prog 35) [true, true, false, true, false, false]) s1 k1) [0, 2, 3, 9, 10] fu [(0, x0), (2, x2), (3, x3), (9, x9), (10, x10)] k
noncomputable def kcA_tables_groupsOf (lf d : Nat) : Ex → Fr → M Value := contAt Tryd.prog (evCall2 Tryd.prog gt lf d) (gt 35) lf (bodyOf Tryd.prog 35) [true, true, false, true, false] (endK Tryd.prog (resOf Tryd.prog 35))
noncomputable def lpA_tables_first (lf d fu : Nat) (k : Ex → Fr → M Value) (x0 : Value) (x1 : Value) (x4 : Value) (x5 : Value) (x6 : Value) (x18 : Value) (x19 : Value) : M Value := loopK (fun s1 k1 => codeK Tryd.prog (evCall2 Tryd.prog gt lf d) (gt 36) lf (codeAt (bodyOf Tryd.prog 36) [true, true, true, false, true, false, false]) s1 k1) [0, 1, 4, 5, 6, 18, 19] fu [(0, x0), (1, x1), (4, x4), (5, x5), (6, x6), (18, x18), (19, x19)] k
noncomputable def kcA_tables_first (lf d : Nat) : Ex → Fr → M Value := contAt Tryd.prog (evCall2 Tryd.prog gt lf d) (gt 36) lf (bodyOf Tryd.prog 36) [true, true, true, false, true, false] (endK Tryd.prog (resOf Tryd.prog 36))
noncomputable def lpB_tables_first (lf d fu : Nat) (k : Ex → Fr → M Value) (x0 : Value) (x1 : Value) (x4 : Value) (x5 : Value) (x6 : Value) (x8 : Value) (x18 : Value) (x19 : Value) (x20 : Value) (x29 : Value) (x30 : Value) (x31 : Value) : M Value := loopK (fun s1 k1 => codeK Tryd.prog (evCall2 Tryd.prog gt lf d) (gt 36) lf (codeAt (bodyOf Tryd.prog 36) [true, true, true, true, true, false, true, false, false]) s1 k1) [0, 1, 4, 5, 6, 8, 18, 19, 20, 29, 30, 31] fu [(0, x0), (1, x1), (4, x4), (5, x5), (6, x6), (8, x8), (18, x18), (19, x19), (20, x20), (29, x29), (30, x30), (31, x31)] k
noncomputable def kcB_tables_first (lf d : Nat) : Ex → Fr → M Value := contAt Tryd.prog (evCall2 Tryd.prog gt lf d) (gt 36) lf (bodyOf Tryd.prog 36) [true, true, true, true, true, false, true, false] (endK Tryd.prog (resOf Tryd.prog 36))
noncomputable def lpC_tables_first (lf d fu : Nat) (k : Ex → Fr → M Value) (x0 : Value) (x1 : Value) (x4 : Value) (x5 : Value) (x6 : Value) (x8 : Value) (x9 : Value) (x10 : Value) (x11 : Value) (x18 : Value) (x19 : Value) (x20 : Value) (x29 : Value) (x30 : Value) (x31 : Value) (x32 : Value) (x42 : Value) (x43 : Value) : M Value := loopK (fun s1 k1 => codeK Tryd.prog (evCall2 Tryd.prog gt lf d) (gt 36) lf (codeAt (bodyOf Tryd.prog 36) [true, true, true, true, true, false, true, false, false, true, true, false, false, true, true, false, true, false, false]) s1 k1) [0, 1, 4, 5, 6, 8, 9, 10, 11, 18, 19, 20, 29, 30, 31, 32, 42, 43] fu [(0, x0), (1, x1), (4, x4), (5, x5), (6, x6), (8, x8), (9, x9), (10, x10), (11, x11), (18, x18), (19, x19), (20, x20), (29, x29), (30, x30), (31, x31), (32, x32), (42, x42), (43, x43)] k
noncomputable def kcC_tables_first (lf d fu : Nat) (k : Ex → Fr → M Value) : Ex → Fr → M Value := contAt Tryd.prog (evCall2 Tryd.prog gt lf d) (gt 36) lf (codeAt (bodyOf Tryd.prog 36) [true, true, true, true, true, false, true, false, false]) [true, true, false, false, true, true, false, true, false] (againK (fun s1 => loopK (fun s1 k1 => codeK Tryd.prog (evCall2 Tryd.prog gt lf d) (gt 36) lf (codeAt (bodyOf Tryd.prog 36) [true, true, true, true, true, false, true, false, false]) s1 k1) [0, 1, 4, 5, 6, 8, 18, 19, 20, 29, 30, 31] fu (s1.keep [0, 1, 4, 5, 6, 8, 18, 19, 20, 29, 30, 31]) k) k)
noncomputable def lpA_tables_round (lf d fu : Nat) (k : Ex → Fr → M Value) (x0 : Value) (x1 : Value) (x2 : Value) (x6 : Value) (x7 : Value) (x8 : Value) (x9 : Value) (x27 : Value) (x28 : Value) : M Value := loopK (fun s1 k1 => codeK Tryd.prog (evCall2 Tryd.prog gt lf d) (gt 37) lf (codeAt (bodyOf Tryd.prog 37) [true, true, true, false, true, false, false]) s1 k1) [0, 1, 2, 6, 7, 8, 9, 27, 28] fu [(0, x0), (1, x1), (2, x2), (6, x6), (7, x7), (8, x8), (9, x9), (27, x27), (28, x28)] k
noncomputable def kcA_tables_round (lf d : Nat) : Ex → Fr → M Value := contAt Tryd.prog (evCall2 Tryd.prog gt lf d) (gt 37) lf (bodyOf Tryd.prog 37) [true, true, true, false, true, false] (endK Tryd.prog (resOf Tryd.prog 37))
noncomputable def lpB_tables_round (lf d fu : Nat) (k : Ex → Fr → M Value) (x0 : Value) (x1 : Value) (x2 : Value) (x6 : Value) (x7 : Value) (x8 : Value) (x9 : Value) (x27 : Value) (x28 : Value) (x29 : Value) (x37 : Value) (x38 : Value) (x39 : Value) : M Value := loopK (fun s1 k1 => codeK Tryd.prog (evCall2 Tryd.prog gt lf d) (gt 37) lf (codeAt (bodyOf Tryd.prog 37) [true, true, true, true, false, true, false, false]) s1 k1) [0, 1, 2, 6, 7, 8, 9, 27, 28, 29, 37, 38, 39] fu [(0, x0), (1, x1), (2, x2), (6, x6), (7, x7), (8, x8), (9, x9), (27, x27), (28, x28), (29, x29), (37, x37), (38, x38), (39, x39)] k
noncomputable def kcB_tables_round (lf d : Nat) : Ex → Fr → M Value := contAt Tryd.prog (evCall2 Tryd.prog gt lf d) (gt 37) lf (bodyOf Tryd.prog 37) [true, true, true, true, false, true, false] (endK Tryd.prog (resOf Tryd.prog 37))
noncomputable def lpC_tables_round (lf d fu : Nat) (k : Ex → Fr → M Value) (x0 : Value) (x1 : Value) (x2 : Value) (x6 : Value) (x7 : Value) (x8 : Value) (x9 : Value) (x18 : Value) (x27 : Value) (x28 : Value) (x29 : Value) (x37 : Value) (x38 : Value) (x39 : Value) (x40 : Value) (x70 : Value) (x71 : Value) (x72 : Value) : M Value := loopK (fun s1 k1 => codeK Tryd.prog (evCall2 Tryd.prog gt lf d) (gt 37) lf (codeAt (bodyOf Tryd.prog 37) [true, true, true, true, true, true, false, true, false, false]) s1 k1) [0, 1, 2, 6, 7, 8, 9, 18, 27, 28, 29, 37, 38, 39, 40, 70, 71, 72] fu [(0, x0), (1, x1), (2, x2), (6, x6), (7, x7), (8, x8), (9, x9), (18, x18), (27, x27), (28, x28), (29, x29), (37, x37), (38, x38), (39, x39), (40, x40), (70, x70), (71, x71), (72, x72)] k
noncomputable def kcC_tables_round (lf d : Nat) : Ex → Fr → M Value := contAt Tryd.prog (evCall2 Tryd.prog gt lf d) (gt 37) lf (bodyOf Tryd.prog 37) [true, true, true, true, true, true, false, true, false] (endK Tryd.prog (resOf Tryd.prog 37))
noncomputable def lpA_lens_Of (lf d fu : Nat) (k : Ex → Fr → M Value) (x0 : Value) (x2 : Value) (x3 : Value) (x4 : Value) (x20 : Value) (x24 : Value) (x25 : Value) (x26 : Value) : M Value := loopK (fun s1 k1 => codeK Tryd.prog (evCall2 Tryd.prog gt lf d) (gt 39) lf (codeAt (bodyOf Tryd.prog 39) [true, true, true, false, true, false, false]) s1 k1) [0, 2, 3, 4, 20, 24, 25, 26] fu [(0, x0), (2, x2), (3, x3), (4, x4), (20, x20), (24, x24), (25, x25), (26, x26)] k
noncomputable def kcA_lens_Of (lf d : Nat) : Ex → Fr → M Value := contAt Tryd.prog (evCall2 Tryd.prog gt lf d) (gt 39) lf (bodyOf Tryd.prog 39) [true, true, true, false, true, false] (endK Tryd.prog (resOf Tryd.prog 39))
noncomputable def lpB_lens_Of (lf d fu : Nat) (k : Ex → Fr → M Value) (x0 : Value) (x2 : Value) (x3 : Value) (x4 : Value) (x20 : Value) (x24 : Value) (x25 : Value) (x26 : Value) (x27 : Value) : M Value := loopK (fun s1 k1 => codeK Tryd.prog (evCall2 Tryd.prog gt lf d) (gt 39) lf (codeAt (bodyOf Tryd.prog 39) [true, true, true, true, false, false]) s1 k1) [0, 2, 3, 4, 20, 24, 25, 26, 27] fu [(0, x0), (2, x2), (3, x3), (4, x4), (20, x20), (24, x24), (25, x25), (26, x26), (27, x27)] k
noncomputable def kcB_lens_Of (lf d : Nat) : Ex → Fr → M Value := contAt Tryd.prog (evCall2 Tryd.prog gt lf d) (gt 39) lf (bodyOf Tryd.prog 39) [true, true, true, true, false] (endK Tryd.prog (resOf Tryd.prog 39))
noncomputable def lpA_slices_Equal_int_int (lf d fu : Nat) (k : Ex → Fr → M Value) (x0 : Value) (x1 : Value) (x4 : Value) (x10 : Value) (x12 : Value) (x13 : Value) : M Value := loopK (fun s1 k1 => codeK Tryd.prog (evCall2 Tryd.prog gt lf d) (gt 41) lf (codeAt (bodyOf Tryd.prog 41) [true, true, false, true, false, false]) s1 k1) [0, 1, 4, 10, 12, 13] fu [(0, x0), (1, x1), (4, x4), (10, x10), (12, x12), (13, x13)] k
noncomputable def kcA_slices_Equal_int_int (lf d : Nat) : Ex → Fr → M Value := contAt Tryd.prog (evCall2 Tryd.prog gt lf d) (gt 41) lf (bodyOf Tryd.prog 41) [true, true, false, true, false] (endK Tryd.prog (resOf Tryd.prog 41))
noncomputable def b_slices_Equal_int_int (lf d : Nat) (a0 : Value) (a1 : Value) : M Value :=
  optK (len2 Tryd.prog #[22] [a0]) fun v7n1 =>
  optK (len2 Tryd.prog #[22] [a1]) fun v9n2 =>
  optK (bin2 Tryd.prog .neq 3 v7n1 v9n2) fun v10n3 =>
  ifV v10n3 (
    outK [(Value.bool false)]) (
    optK (len2 Tryd.prog #[22] [a0]) fun v12n4 =>
    lpA_slices_Equal_int_int lf d lf (kcA_slices_Equal_int_int lf d) a0 a1 (Value.bool false) v10n3 v12n4 (Value.int .i64 0))
theorem sh_slices_Equal_int_int (lf d : Nat) (a0 : Value) (a1 : Value) : evCall2 Tryd.prog gt lf (d + 1) 41 #[a0, a1] = inside (b_slices_Equal_int_int lf d a0 a1) := by kernel_rfl
theorem succA_slices_Equal_int_int (lf d fu : Nat) (k : Ex → Fr → M Value) (x0 : Value) (x1 : Value) (x4 : Value) (x10 : Value) (x12 : Value) (x13 : Value) : lpA_slices_Equal_int_int lf d (fu + 1) k x0 x1 x4 x10 x12 x13 =
  optK (bin2 Tryd.prog .lss 3 x13 x12) fun v14n5 =>
  ifV v14n5 (
    optK (evIndexAddr Tryd.prog 22 x0 x13) fun v18n6 =>
    (inside (evLoad Tryd.prog 3 v18n6)).bind fun v19n7 =>
    optK (evIndexAddr Tryd.prog 22 x1 x13) fun v22n8 =>
    (inside (evLoad Tryd.prog 3 v22n8)).bind fun v23n9 =>
    optK (bin2 Tryd.prog .neq 3 v19n7 v23n9) fun v24n10 =>
    ifV v24n10 (
      k Ex.ret [(0, x0), (1, x1), (4, (Value.bool false)), (5, x13), (10, x10), (12, x12), (13, x13), (14, v14n5), (24, v24n10)]) (
      optK (bin2 Tryd.prog .add 3 x13 (Value.int .i64 1)) fun v25n11 =>
      lpA_slices_Equal_int_int lf d fu k x0 x1 x4 x10 x12 v25n11)) (
    k (Ex.exit 0) [(0, x0), (1, x1), (4, x4), (10, x10), (12, x12), (13, x13), (14, v14n5)]) := by kernel_rfl
theorem kcAa_slices_Equal_int_int (lf d : Nat) (y0 : Value) (y1 : Value) (y4 : Value) (y5 : Value) (y10 : Value) (y12 : Value) (y13 : Value) (y14 : Value) (y24 : Value) : kcA_slices_Equal_int_int lf d Ex.ret [(0, y0), (1, y1), (4, y4), (5, y5), (10, y10), (12, y12), (13, y13), (14, y14), (24, y24)] =
  outK [y4] := by kernel_rfl
theorem kcAb_slices_Equal_int_int (lf d : Nat) (y0 : Value) (y1 : Value) (y4 : Value) (y10 : Value) (y12 : Value) (y13 : Value) (y14 : Value) : kcA_slices_Equal_int_int lf d (Ex.exit 0) [(0, y0), (1, y1), (4, y4), (10, y10), (12, y12), (13, y13), (14, y14)] =
  outK [(Value.bool true)] := by kernel_rfl

noncomputable def lpA_slices_EqualFunc_int_int_int_int (lf d fu : Nat) (k : Ex → Fr → M Value) (x0 : Value) (x1 : Value) (x2 : Value) (x6 : Value) (x14 : Value) (x15 : Value) (x16 : Value) (x17 : Value) : M Value := loopK (fun s1 k1 => codeK Tryd.prog (evCall2 Tryd.prog gt lf d) (gt 42) lf (codeAt (bodyOf Tryd.prog 42) [true, true, false, true, false, false]) s1 k1) [0, 1, 2, 6, 14, 15, 16, 17] fu [(0, x0), (1, x1), (2, x2), (6, x6), (14, x14), (15, x15), (16, x16), (17, x17)] k
noncomputable def kcA_slices_EqualFunc_int_int_int_int (lf d : Nat) : Ex → Fr → M Value := contAt Tryd.prog (evCall2 Tryd.prog gt lf d) (gt 42) lf (bodyOf Tryd.prog 42) [true, true, false, true, false] (endK Tryd.prog (resOf Tryd.prog 42))
noncomputable def b_slices_EqualFunc_int_int_int_int (lf d : Nat) (a0 : Value) (a1 : Value) (a2 : Value) : M Value :=
  optK (len2 Tryd.prog #[23] [a0]) fun v11n1 =>
  optK (len2 Tryd.prog #[23] [a1]) fun v13n2 =>
  optK (bin2 Tryd.prog .neq 3 v11n1 v13n2) fun v14n3 =>
  ifV v14n3 (
    outK [(Value.bool false)]) (
    optK (len2 Tryd.prog #[23] [a0]) fun v16n4 =>
    lpA_slices_EqualFunc_int_int_int_int lf d lf (kcA_slices_EqualFunc_int_int_int_int lf d) a0 a1 a2 (Value.bool false) v14n3 a0 v16n4 (Value.int .i64 0))
theorem sh_slices_EqualFunc_int_int_int_int (lf d : Nat) (a0 : Value) (a1 : Value) (a2 : Value) : evCall2 Tryd.prog gt lf (d + 1) 42 #[a0, a1, a2] = inside (b_slices_EqualFunc_int_int_int_int lf d a0 a1 a2) := by kernel_rfl
theorem succA_slices_EqualFunc_int_int_int_int (lf d fu : Nat) (k : Ex → Fr → M Value) (x0 : Value) (x1 : Value) (x2 : Value) (x6 : Value) (x14 : Value) (x15 : Value) (x16 : Value) (x17 : Value) : lpA_slices_EqualFunc_int_int_int_int lf d (fu + 1) k x0 x1 x2 x6 x14 x15 x16 x17 =
  optK (bin2 Tryd.prog .lss 3 x17 x16) fun v18n5 =>
  ifV v18n5 (
    optK (evIndexAddr Tryd.prog 23 x15 x17) fun v20n6 =>
    (inside (evLoad Tryd.prog 22 v20n6)).bind fun v21n7 =>
    optK (evIndexAddr Tryd.prog 23 x1 x17) fun v24n8 =>
    (inside (evLoad Tryd.prog 22 v24n8)).bind fun v25n9 =>
    callV Tryd.prog (evCall2 Tryd.prog gt lf d) x2 [v21n7, v25n9] fun v29n10 =>
    optK (un2 Tryd.prog .not v29n10) fun v30n11 =>
    ifV v30n11 (
      k Ex.ret [(0, x0), (1, x1), (2, x2), (6, (Value.bool false)), (7, x17), (8, v21n7), (9, v25n9), (14, x14), (15, x15), (16, x16), (17, x17), (18, v18n5), (30, v30n11)]) (
      optK (bin2 Tryd.prog .add 3 x17 (Value.int .i64 1)) fun v31n12 =>
      lpA_slices_EqualFunc_int_int_int_int lf d fu k x0 x1 x2 x6 x14 x15 x16 v31n12)) (
    k (Ex.exit 0) [(0, x0), (1, x1), (2, x2), (6, x6), (14, x14), (15, x15), (16, x16), (17, x17), (18, v18n5)]) := by kernel_rfl
theorem kcAa_slices_EqualFunc_int_int_int_int (lf d : Nat) (y0 : Value) (y1 : Value) (y2 : Value) (y6 : Value) (y7 : Value) (y8 : Value) (y9 : Value) (y14 : Value) (y15 : Value) (y16 : Value) (y17 : Value) (y18 : Value) (y30 : Value) : kcA_slices_EqualFunc_int_int_int_int lf d Ex.ret [(0, y0), (1, y1), (2, y2), (6, y6), (7, y7), (8, y8), (9, y9), (14, y14), (15, y15), (16, y16), (17, y17), (18, y18), (30, y30)] =
  outK [y6] := by kernel_rfl
theorem kcAb_slices_EqualFunc_int_int_int_int (lf d : Nat) (y0 : Value) (y1 : Value) (y2 : Value) (y6 : Value) (y14 : Value) (y15 : Value) (y16 : Value) (y17 : Value) (y18 : Value) : kcA_slices_EqualFunc_int_int_int_int lf d (Ex.exit 0) [(0, y0), (1, y1), (2, y2), (6, y6), (14, y14), (15, y15), (16, y16), (17, y17), (18, y18)] =
  outK [(Value.bool true)] := by kernel_rfl

noncomputable def b_tables_Same_1 (lf d : Nat) (a0 : Value) (a1 : Value) : M Value :=
  (inside (evCall2 Tryd.prog gt lf d 41 #[a0, a1])).bind fun v7n1 =>
  outK [v7n1]
theorem sh_tables_Same_1 (lf d : Nat) (a0 : Value) (a1 : Value) : evCall2 Tryd.prog gt lf (d + 1) 43 #[a0, a1] = inside (b_tables_Same_1 lf d a0 a1) := by kernel_rfl

noncomputable def lpA_tables_pick (lf d fu : Nat) (k : Ex → Fr → M Value) (x0 : Value) (x1 : Value) (x4 : Value) (x5 : Value) (x6 : Value) (x11 : Value) (x12 : Value) (x13 : Value) : M Value := loopK (fun s1 k1 => codeK Tryd.prog (evCall2 Tryd.prog gt lf d) (gt 50) lf (codeAt (bodyOf Tryd.prog 50) [true, true, false, true, false, false]) s1 k1) [0, 1, 4, 5, 6, 11, 12, 13] fu [(0, x0), (1, x1), (4, x4), (5, x5), (6, x6), (11, x11), (12, x12), (13, x13)] k
noncomputable def kcA_tables_pick (lf d : Nat) : Ex → Fr → M Value := contAt Tryd.prog (evCall2 Tryd.prog gt lf d) (gt 50) lf (bodyOf Tryd.prog 50) [true, true, false, true, false] (endK Tryd.prog (resOf Tryd.prog 50))
noncomputable def lpA_freq_Add (lf d fu : Nat) (k : Ex → Fr → M Value) (x0 : Value) (x1 : Value) (x4 : Value) (x5 : Value) (x6 : Value) (x22 : Value) (x27 : Value) (x28 : Value) : M Value := loopK (fun s1 k1 => codeK Tryd.prog (evCall2 Tryd.prog gt lf d) (gt 51) lf (codeAt (bodyOf Tryd.prog 51) [true, true, true, false, true, false, false]) s1 k1) [0, 1, 4, 5, 6, 22, 27, 28] fu [(0, x0), (1, x1), (4, x4), (5, x5), (6, x6), (22, x22), (27, x27), (28, x28)] k
noncomputable def kcA_freq_Add (lf d : Nat) : Ex → Fr → M Value := contAt Tryd.prog (evCall2 Tryd.prog gt lf d) (gt 51) lf (bodyOf Tryd.prog 51) [true, true, true, false, true, false] (endK Tryd.prog (resOf Tryd.prog 51))
noncomputable def lpA_lens_depths (lf d fu : Nat) (k : Ex → Fr → M Value) (x0 : Value) (x2 : Value) (x3 : Value) (x11 : Value) (x12 : Value) : M Value := loopK (fun s1 k1 => codeK Tryd.prog (evCall2 Tryd.prog gt lf d) (gt 53) lf (codeAt (bodyOf Tryd.prog 53) [true, true, false, true, false, false]) s1 k1) [0, 2, 3, 11, 12] fu [(0, x0), (2, x2), (3, x3), (11, x11), (12, x12)] k
noncomputable def kcA_lens_depths (lf d : Nat) : Ex → Fr → M Value := contAt Tryd.prog (evCall2 Tryd.prog gt lf d) (gt 53) lf (bodyOf Tryd.prog 53) [true, true, false, true, false] (endK Tryd.prog (resOf Tryd.prog 53))
noncomputable def lpB_lens_depths (lf d fu : Nat) (k : Ex → Fr → M Value) (x0 : Value) (x2 : Value) (x3 : Value) (x5 : Value) (x6 : Value) (x11 : Value) (x12 : Value) (x13 : Value) : M Value := loopK (fun s1 k1 => codeK Tryd.prog (evCall2 Tryd.prog gt lf d) (gt 53) lf (codeAt (bodyOf Tryd.prog 53) [true, true, true, true, false, true, false, false]) s1 k1) [0, 2, 3, 5, 6, 11, 12, 13] fu [(0, x0), (2, x2), (3, x3), (5, x5), (6, x6), (11, x11), (12, x12), (13, x13)] k
noncomputable def kcB_lens_depths (lf d : Nat) : Ex → Fr → M Value := contAt Tryd.prog (evCall2 Tryd.prog gt lf d) (gt 53) lf (bodyOf Tryd.prog 53) [true, true, true, true, false, true, false] (endK Tryd.prog (resOf Tryd.prog 53))
noncomputable def lpA_lens_Longest (lf d fu : Nat) (k : Ex → Fr → M Value) (x0 : Value) (x2 : Value) (x3 : Value) (x6 : Value) (x7 : Value) (x8 : Value) : M Value := loopK (fun s1 k1 => codeK Tryd.prog (evCall2 Tryd.prog gt lf d) (gt 54) lf (codeAt (bodyOf Tryd.prog 54) [true, true, false, true, false, false]) s1 k1) [0, 2, 3, 6, 7, 8] fu [(0, x0), (2, x2), (3, x3), (6, x6), (7, x7), (8, x8)] k
noncomputable def kcA_lens_Longest (lf d : Nat) : Ex → Fr → M Value := contAt Tryd.prog (evCall2 Tryd.prog gt lf d) (gt 54) lf (bodyOf Tryd.prog 54) [true, true, false, true, false] (endK Tryd.prog (resOf Tryd.prog 54))
noncomputable def lpA_lens_Halved (lf d fu : Nat) (k : Ex → Fr → M Value) (x0 : Value) (x2 : Value) (x3 : Value) (x9 : Value) (x10 : Value) (x11 : Value) : M Value := loopK (fun s1 k1 => codeK Tryd.prog (evCall2 Tryd.prog gt lf d) (gt 56) lf (codeAt (bodyOf Tryd.prog 56) [true, true, false, true, false, false]) s1 k1) [0, 2, 3, 9, 10, 11] fu [(0, x0), (2, x2), (3, x3), (9, x9), (10, x10), (11, x11)] k
noncomputable def kcA_lens_Halved (lf d : Nat) : Ex → Fr → M Value := contAt Tryd.prog (evCall2 Tryd.prog gt lf d) (gt 56) lf (bodyOf Tryd.prog 56) [true, true, false, true, false] (endK Tryd.prog (resOf Tryd.prog 56))
noncomputable def lpA_lens_treesOf (lf d fu : Nat) (k : Ex → Fr → M Value) (x0 : Value) (x1 : Value) (x2 : Value) (x3 : Value) (x12 : Value) (x13 : Value) : M Value := loopK (fun s1 k1 => codeK Tryd.prog (evCall2 Tryd.prog gt lf d) (gt 63) lf (codeAt (bodyOf Tryd.prog 63) [true, true, false, true, false, false]) s1 k1) [0, 1, 2, 3, 12, 13] fu [(0, x0), (1, x1), (2, x2), (3, x3), (12, x12), (13, x13)] k
noncomputable def kcA_lens_treesOf (lf d : Nat) : Ex → Fr → M Value := contAt Tryd.prog (evCall2 Tryd.prog gt lf d) (gt 63) lf (bodyOf Tryd.prog 63) [true, true, false, true, false] (endK Tryd.prog (resOf Tryd.prog 63))
noncomputable def lpA_slices_IndexFunc_int_int (lf d fu : Nat) (k : Ex → Fr → M Value) (x0 : Value) (x1 : Value) (x4 : Value) (x7 : Value) (x8 : Value) : M Value := loopK (fun s1 k1 => codeK Tryd.prog (evCall2 Tryd.prog gt lf d) (gt 68) lf (codeAt (bodyOf Tryd.prog 68) [true, false, true, false, false]) s1 k1) [0, 1, 4, 7, 8] fu [(0, x0), (1, x1), (4, x4), (7, x7), (8, x8)] k
noncomputable def kcA_slices_IndexFunc_int_int (lf d : Nat) : Ex → Fr → M Value := contAt Tryd.prog (evCall2 Tryd.prog gt lf d) (gt 68) lf (bodyOf Tryd.prog 68) [true, false, true, false] (endK Tryd.prog (resOf Tryd.prog 68))
noncomputable def b_lens_treesOf_1 (lf d : Nat) (a0 : Value) (a1 : Value) (a2 : Value) : M Value :=
  (inside (evLoad Tryd.prog 22 a2)).bind fun v6n1 =>
  optK (evIndexAddr Tryd.prog 22 v6n1 a0) fun v8n2 =>
  (inside (evLoad Tryd.prog 3 v8n2)).bind fun v9n3 =>
  (inside (evLoad Tryd.prog 22 a2)).bind fun v10n4 =>
  optK (evIndexAddr Tryd.prog 22 v10n4 a1) fun v12n5 =>
  (inside (evLoad Tryd.prog 3 v12n5)).bind fun v13n6 =>
  (inside (evCall2 Tryd.prog gt lf d 71 #[v9n3, v13n6])).bind fun v14n7 =>
  outK [v14n7]
theorem sh_lens_treesOf_1 (lf d : Nat) (a0 : Value) (a1 : Value) (a2 : Value) : evCall2 Tryd.prog gt lf (d + 1) 70 #[a0, a1, a2] = inside (b_lens_treesOf_1 lf d a0 a1 a2) := by kernel_rfl

noncomputable def b_cmp_Compare_int (lf d : Nat) (a0 : Value) (a1 : Value) : M Value :=
  (inside (evCall2 Tryd.prog gt lf d 74 #[a0])).bind fun v8n1 =>
  (inside (evCall2 Tryd.prog gt lf d 74 #[a1])).bind fun v10n2 =>
  ifV v8n1 (
    ifV v10n2 (
      outK [(Value.int .i64 0)]) (
      outK [(Value.int .i64 (-1))])) (
    ifV v10n2 (
      outK [(Value.int .i64 1)]) (
      optK (bin2 Tryd.prog .lss 3 a0 a1) fun v16n3 =>
      ifV v16n3 (
        outK [(Value.int .i64 (-1))]) (
        optK (bin2 Tryd.prog .gtr 3 a0 a1) fun v19n4 =>
        ifV v19n4 (
          outK [(Value.int .i64 1)]) (
          outK [(Value.int .i64 0)]))))
theorem sh_cmp_Compare_int (lf d : Nat) (a0 : Value) (a1 : Value) : evCall2 Tryd.prog gt lf (d + 1) 71 #[a0, a1] = inside (b_cmp_Compare_int lf d a0 a1) := by kernel_rfl

noncomputable def lpA_slices_stableCmpFunc_int (lf d fu : Nat) (k : Ex → Fr → M Value) (x0 : Value) (x1 : Value) (x2 : Value) (x6 : Value) (x7 : Value) (x8 : Value) : M Value := loopK (fun s1 k1 => codeK Tryd.prog (evCall2 Tryd.prog gt lf d) (gt 73) lf (codeAt (bodyOf Tryd.prog 73) [true, true, false, false, false]) s1 k1) [0, 1, 2, 6, 7, 8] fu [(0, x0), (1, x1), (2, x2), (6, x6), (7, x7), (8, x8)] k
noncomputable def kcA_slices_stableCmpFunc_int (lf d : Nat) : Ex → Fr → M Value := contAt Tryd.prog (evCall2 Tryd.prog gt lf d) (gt 73) lf (bodyOf Tryd.prog 73) [true, true, false, false] (endK Tryd.prog (resOf Tryd.prog 73))
noncomputable def lpB_slices_stableCmpFunc_int (lf d fu : Nat) (k : Ex → Fr → M Value) (x0 : Value) (x1 : Value) (x2 : Value) (x6 : Value) (x7 : Value) (x8 : Value) (x13 : Value) : M Value := loopK (fun s1 k1 => codeK Tryd.prog (evCall2 Tryd.prog gt lf d) (gt 73) lf (codeAt (bodyOf Tryd.prog 73) [true, true, true, true, false, false]) s1 k1) [0, 1, 2, 6, 7, 8, 13] fu [(0, x0), (1, x1), (2, x2), (6, x6), (7, x7), (8, x8), (13, x13)] k
noncomputable def kcB_slices_stableCmpFunc_int (lf d : Nat) : Ex → Fr → M Value := contAt Tryd.prog (evCall2 Tryd.prog gt lf d) (gt 73) lf (bodyOf Tryd.prog 73) [true, true, true, true, false] (endK Tryd.prog (resOf Tryd.prog 73))
noncomputable def lpC_slices_stableCmpFunc_int (lf d fu : Nat) (k : Ex → Fr → M Value) (x0 : Value) (x1 : Value) (x2 : Value) (x6 : Value) (x7 : Value) (x8 : Value) (x13 : Value) (x30 : Value) : M Value := loopK (fun s1 k1 => codeK Tryd.prog (evCall2 Tryd.prog gt lf d) (gt 73) lf (codeAt (bodyOf Tryd.prog 73) [true, true, true, true, false, false, true, false, true, false, false, false]) s1 k1) [0, 1, 2, 6, 7, 8, 13, 30] fu [(0, x0), (1, x1), (2, x2), (6, x6), (7, x7), (8, x8), (13, x13), (30, x30)] k
noncomputable def kcC_slices_stableCmpFunc_int (lf d fu : Nat) (k : Ex → Fr → M Value) : Ex → Fr → M Value := contAt Tryd.prog (evCall2 Tryd.prog gt lf d) (gt 73) lf (codeAt (bodyOf Tryd.prog 73) [true, true, true, true, false, false]) [true, false, true, false, false] (againK (fun s1 => loopK (fun s1 k1 => codeK Tryd.prog (evCall2 Tryd.prog gt lf d) (gt 73) lf (codeAt (bodyOf Tryd.prog 73) [true, true, true, true, false, false]) s1 k1) [0, 1, 2, 6, 7, 8, 13] fu (s1.keep [0, 1, 2, 6, 7, 8, 13]) k) k)
noncomputable def b_cmp_isNaN_int (lf d : Nat) (a0 : Value) : M Value :=
  optK (bin2 Tryd.prog .neq 3 a0 a0) fun v5n1 =>
  outK [v5n1]
theorem sh_cmp_isNaN_int (lf d : Nat) (a0 : Value) : evCall2 Tryd.prog gt lf (d + 1) 74 #[a0] = inside (b_cmp_isNaN_int lf d a0) := by kernel_rfl

noncomputable def lpA_slices_insertionSortCmpFunc_int (lf d fu : Nat) (k : Ex → Fr → M Value) (x0 : Value) (x1 : Value) (x2 : Value) (x3 : Value) (x8 : Value) : M Value := loopK (fun s1 k1 => codeK Tryd.prog (evCall2 Tryd.prog gt lf d) (gt 75) lf (codeAt (bodyOf Tryd.prog 75) [true, false, false]) s1 k1) [0, 1, 2, 3, 8] fu [(0, x0), (1, x1), (2, x2), (3, x3), (8, x8)] k
noncomputable def kcA_slices_insertionSortCmpFunc_int (lf d : Nat) : Ex → Fr → M Value := contAt Tryd.prog (evCall2 Tryd.prog gt lf d) (gt 75) lf (bodyOf Tryd.prog 75) [true, false] (endK Tryd.prog (resOf Tryd.prog 75))
noncomputable def lpB_slices_insertionSortCmpFunc_int (lf d fu : Nat) (k : Ex → Fr → M Value) (x0 : Value) (x1 : Value) (x2 : Value) (x3 : Value) (x8 : Value) (x9 : Value) (x14 : Value) : M Value := loopK (fun s1 k1 => codeK Tryd.prog (evCall2 Tryd.prog gt lf d) (gt 75) lf (codeAt (bodyOf Tryd.prog 75) [true, false, false, true, false, false, true, false, false]) s1 k1) [0, 1, 2, 3, 8, 9, 14] fu [(0, x0), (1, x1), (2, x2), (3, x3), (8, x8), (9, x9), (14, x14)] k
noncomputable def kcB_slices_insertionSortCmpFunc_int (lf d fu : Nat) (k : Ex → Fr → M Value) : Ex → Fr → M Value := contAt Tryd.prog (evCall2 Tryd.prog gt lf d) (gt 75) lf (codeAt (bodyOf Tryd.prog 75) [true, false, false]) [true, false, false, true, false] (againK (fun s1 => loopK (fun s1 k1 => codeK Tryd.prog (evCall2 Tryd.prog gt lf d) (gt 75) lf (codeAt (bodyOf Tryd.prog 75) [true, false, false]) s1 k1) [0, 1, 2, 3, 8] fu (s1.keep [0, 1, 2, 3, 8]) k) k)
theorem succB_slices_insertionSortCmpFunc_int (lf d fu : Nat) (k : Ex → Fr → M Value) (x0 : Value) (x1 : Value) (x2 : Value) (x3 : Value) (x8 : Value) (x9 : Value) (x14 : Value) : lpB_slices_insertionSortCmpFunc_int lf d (fu + 1) k x0 x1 x2 x3 x8 x9 x14 =
  optK (bin2 Tryd.prog .gtr 3 x9 x1) fun v20n3 =>
  ifV v20n3 (
    optK (evIndexAddr Tryd.prog 22 x0 x9) fun v25n4 =>
    (inside (evLoad Tryd.prog 3 v25n4)).bind fun v26n5 =>
    optK (bin2 Tryd.prog .sub 3 x9 (Value.int .i64 1)) fun v29n6 =>
    optK (evIndexAddr Tryd.prog 22 x0 v29n6) fun v30n7 =>
    (inside (evLoad Tryd.prog 3 v30n7)).bind fun v31n8 =>
    callV Tryd.prog (evCall2 Tryd.prog gt lf d) x3 [v26n5, v31n8] fun v32n9 =>
    optK (bin2 Tryd.prog .lss 3 v32n9 (Value.int .i64 0)) fun v33n10 =>
    ifV v33n10 (
      optK (bin2 Tryd.prog .sub 3 x9 (Value.int .i64 1)) fun v41n11 =>
      optK (bin2 Tryd.prog .sub 3 x9 (Value.int .i64 1)) fun v44n12 =>
      optK (evIndexAddr Tryd.prog 22 x0 v44n12) fun v45n13 =>
      (inside (evLoad Tryd.prog 3 v45n13)).bind fun v46n14 =>
      optK (evIndexAddr Tryd.prog 22 x0 x9) fun v49n15 =>
      (inside (evLoad Tryd.prog 3 v49n15)).bind fun v50n16 =>
      optK (evIndexAddr Tryd.prog 22 x0 x9) fun v51n17 =>
      (inside (evStore Tryd.prog 3 v51n17 v46n14)).bind fun u18 =>
      optK (evIndexAddr Tryd.prog 22 x0 v41n11) fun v52n19 =>
      (inside (evStore Tryd.prog 3 v52n19 v50n16)).bind fun u20 =>
      optK (bin2 Tryd.prog .sub 3 x9 (Value.int .i64 1)) fun v36n21 =>
      lpB_slices_insertionSortCmpFunc_int lf d fu k x0 x1 x2 x3 x8 v36n21 x14) (
      k (Ex.exit 2) [(0, x0), (1, x1), (2, x2), (3, x3), (8, x8), (9, x9), (14, x14), (34, v33n10)])) (
    k (Ex.exit 2) [(0, x0), (1, x1), (2, x2), (3, x3), (8, x8), (9, x9), (14, x14), (34, (Value.bool false))]) := by kernel_rfl
noncomputable def lpA_slices_symMergeCmpFunc_int (lf d fu : Nat) (k : Ex → Fr → M Value) (x0 : Value) (x1 : Value) (x2 : Value) (x3 : Value) (x4 : Value) (x10 : Value) (x11 : Value) (x28 : Value) : M Value := loopK (fun s1 k1 => codeK Tryd.prog (evCall2 Tryd.prog gt lf d) (gt 76) lf (codeAt (bodyOf Tryd.prog 76) [false, true, false, true, true, false, false, false]) s1 k1) [0, 1, 2, 3, 4, 10, 11, 28] fu [(0, x0), (1, x1), (2, x2), (3, x3), (4, x4), (10, x10), (11, x11), (28, x28)] k
noncomputable def kcA_slices_symMergeCmpFunc_int (lf d : Nat) : Ex → Fr → M Value := contAt Tryd.prog (evCall2 Tryd.prog gt lf d) (gt 76) lf (bodyOf Tryd.prog 76) [false, true, false, true, true, false, false] (endK Tryd.prog (resOf Tryd.prog 76))
noncomputable def lpB_slices_symMergeCmpFunc_int (lf d fu : Nat) (k : Ex → Fr → M Value) (x0 : Value) (x1 : Value) (x2 : Value) (x3 : Value) (x4 : Value) (x14 : Value) (x15 : Value) (x28 : Value) (x80 : Value) : M Value := loopK (fun s1 k1 => codeK Tryd.prog (evCall2 Tryd.prog gt lf d) (gt 76) lf (codeAt (bodyOf Tryd.prog 76) [true, false, true, false, true, true, false, false, false]) s1 k1) [0, 1, 2, 3, 4, 14, 15, 28, 80] fu [(0, x0), (1, x1), (2, x2), (3, x3), (4, x4), (14, x14), (15, x15), (28, x28), (80, x80)] k
noncomputable def kcB_slices_symMergeCmpFunc_int (lf d : Nat) : Ex → Fr → M Value := contAt Tryd.prog (evCall2 Tryd.prog gt lf d) (gt 76) lf (bodyOf Tryd.prog 76) [true, false, true, false, true, true, false, false] (endK Tryd.prog (resOf Tryd.prog 76))
noncomputable def lpC_slices_symMergeCmpFunc_int (lf d fu : Nat) (k : Ex → Fr → M Value) (x0 : Value) (x1 : Value) (x2 : Value) (x3 : Value) (x4 : Value) (x18 : Value) (x19 : Value) (x20 : Value) (x21 : Value) (x22 : Value) (x28 : Value) (x80 : Value) (x140 : Value) : M Value := loopK (fun s1 k1 => codeK Tryd.prog (evCall2 Tryd.prog gt lf d) (gt 76) lf (codeAt (bodyOf Tryd.prog 76) [true, true, true, true, true, true, true, false, false, false]) s1 k1) [0, 1, 2, 3, 4, 18, 19, 20, 21, 22, 28, 80, 140] fu [(0, x0), (1, x1), (2, x2), (3, x3), (4, x4), (18, x18), (19, x19), (20, x20), (21, x21), (22, x22), (28, x28), (80, x80), (140, x140)] k
noncomputable def kcC_slices_symMergeCmpFunc_int (lf d : Nat) : Ex → Fr → M Value := contAt Tryd.prog (evCall2 Tryd.prog gt lf d) (gt 76) lf (bodyOf Tryd.prog 76) [true, true, true, true, true, true, true, false, false] (endK Tryd.prog (resOf Tryd.prog 76))
noncomputable def lpD_slices_symMergeCmpFunc_int (lf d fu : Nat) (k : Ex → Fr → M Value) (x0 : Value) (x1 : Value) (x2 : Value) (x3 : Value) (x4 : Value) (x10 : Value) (x11 : Value) (x13 : Value) (x28 : Value) (x33 : Value) : M Value := loopK (fun s1 k1 => codeK Tryd.prog (evCall2 Tryd.prog gt lf d) (gt 76) lf (codeAt (bodyOf Tryd.prog 76) [false, true, false, true, true, true, false, true, false, false]) s1 k1) [0, 1, 2, 3, 4, 10, 11, 13, 28, 33] fu [(0, x0), (1, x1), (2, x2), (3, x3), (4, x4), (10, x10), (11, x11), (13, x13), (28, x28), (33, x33)] k
noncomputable def kcD_slices_symMergeCmpFunc_int (lf d : Nat) : Ex → Fr → M Value := contAt Tryd.prog (evCall2 Tryd.prog gt lf d) (gt 76) lf (bodyOf Tryd.prog 76) [false, true, false, true, true, true, false, true, false] (endK Tryd.prog (resOf Tryd.prog 76))
noncomputable def lpE_slices_symMergeCmpFunc_int (lf d fu : Nat) (k : Ex → Fr → M Value) (x0 : Value) (x1 : Value) (x2 : Value) (x3 : Value) (x4 : Value) (x14 : Value) (x15 : Value) (x17 : Value) (x28 : Value) (x80 : Value) (x85 : Value) : M Value := loopK (fun s1 k1 => codeK Tryd.prog (evCall2 Tryd.prog gt lf d) (gt 76) lf (codeAt (bodyOf Tryd.prog 76) [true, false, true, false, true, true, true, false, true, false, false]) s1 k1) [0, 1, 2, 3, 4, 14, 15, 17, 28, 80, 85] fu [(0, x0), (1, x1), (2, x2), (3, x3), (4, x4), (14, x14), (15, x15), (17, x17), (28, x28), (80, x80), (85, x85)] k
noncomputable def kcE_slices_symMergeCmpFunc_int (lf d : Nat) : Ex → Fr → M Value := contAt Tryd.prog (evCall2 Tryd.prog gt lf d) (gt 76) lf (bodyOf Tryd.prog 76) [true, false, true, false, true, true, true, false, true, false] (endK Tryd.prog (resOf Tryd.prog 76))
noncomputable def lpA_slices_rotateCmpFunc_int (lf d fu : Nat) (k : Ex → Fr → M Value) (x0 : Value) (x1 : Value) (x2 : Value) (x3 : Value) (x4 : Value) (x10 : Value) (x11 : Value) : M Value := loopK (fun s1 k1 => codeK Tryd.prog (evCall2 Tryd.prog gt lf d) (gt 77) lf (codeAt (bodyOf Tryd.prog 77) [true, true, false, false, false]) s1 k1) [0, 1, 2, 3, 4, 10, 11] fu [(0, x0), (1, x1), (2, x2), (3, x3), (4, x4), (10, x10), (11, x11)] k
noncomputable def kcA_slices_rotateCmpFunc_int (lf d : Nat) : Ex → Fr → M Value := contAt Tryd.prog (evCall2 Tryd.prog gt lf d) (gt 77) lf (bodyOf Tryd.prog 77) [true, true, false, false] (endK Tryd.prog (resOf Tryd.prog 77))
noncomputable def lpA_slices_swapRangeCmpFunc_int (lf d fu : Nat) (k : Ex → Fr → M Value) (x0 : Value) (x1 : Value) (x2 : Value) (x3 : Value) (x10 : Value) : M Value := loopK (fun s1 k1 => codeK Tryd.prog (evCall2 Tryd.prog gt lf d) (gt 78) lf (codeAt (bodyOf Tryd.prog 78) [true, false, false]) s1 k1) [0, 1, 2, 3, 10] fu [(0, x0), (1, x1), (2, x2), (3, x3), (10, x10)] k
noncomputable def kcA_slices_swapRangeCmpFunc_int (lf d : Nat) : Ex → Fr → M Value := contAt Tryd.prog (evCall2 Tryd.prog gt lf d) (gt 78) lf (bodyOf Tryd.prog 78) [true, false] (endK Tryd.prog (resOf Tryd.prog 78))
end Go.Proofs.YtdagfcflbphoiaaDoor

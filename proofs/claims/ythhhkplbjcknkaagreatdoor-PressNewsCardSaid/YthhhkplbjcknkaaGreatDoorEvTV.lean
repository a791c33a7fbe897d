/- Rows of one's own that grow; rows of numbers that are read. No program in sight. -/
import Derived.Test.YthhhkplbjcknkaaGreatDoorEvS
import Derived.ProofKit
import Derived.OpenShut
namespace Go.Proofs.YthhhkplbjcknkaaGreatDoor.Ev
set_option linter.unusedVariables false
set_option linter.unusedSimpArgs false
open Go
section
variable {β : Type} {W : Nat → Prop} {n0 : Nat} {h h1 : H} {n n1 : Nat} {Q : β → H → Nat → Prop}

def InBlk (v : Value) (b : Nat) : Prop := ∃ o l c, v = .slice (some ⟨b, o, none⟩) l c
def Own (h : H) (lo n : Nat) (e : TypeId) (v : Value) (cs : List Value) : Prop := (v = .slice none 0 0 ∧ cs = []) ∨ ∃ b, v = .slice (some ⟨b, 0, none⟩) cs.length (CAP + cs.length) ∧ h.get b = some ⟨e, true, cs⟩ ∧ lo ≤ b ∧ b < n
theorem Own.nil (h : H) (lo n : Nat) (e : TypeId) : Own h lo n e (.slice none 0 0) [] := .inl ⟨rfl, rfl⟩
theorem InBlk.inj {b c o l k : Nat} (h : InBlk (.slice (some ⟨b, o, none⟩) l k) c) : c = b := by
  obtain ⟨_, _, _, h⟩ := h
  cases h
  rfl
theorem InBlk.not_nil {l k c : Nat} (h : InBlk (.slice none l k) c) : False := by
  obtain ⟨_, _, _, h⟩ := h
  cases h
theorem Own.lt {lo : Nat} {e : TypeId} {v : Value} {cs : List Value} (o : Own h lo n e v cs) {b : Nat} (hb : InBlk v b) : lo ≤ b ∧ b < n := by
  rcases o with ⟨rfl, _⟩ | ⟨c, rfl, _, h1, h2⟩
  · exact hb.not_nil.elim
  · rw [hb.inj]; exact ⟨h1, h2⟩
theorem Own.keep {lo : Nat} {e : TypeId} {v : Value} {cs : List Value} {h' : H} {n' : Nat} (o : Own h lo n e v cs) (hn : n ≤ n') (hk : ∀ b, InBlk v b → h'.get b = h.get b) : Own h' lo n' e v cs := by
  rcases o with q | ⟨c, rfl, hc, h1, h2⟩
  · exact .inl q
  · exact .inr ⟨c, rfl, (hk c ⟨_, _, _, rfl⟩).trans hc, h1, by omega⟩
def intsV (k : IntKind) (xs : List Int) : List Value := xs.map (Value.int k)
theorem intsV_len (k : IntKind) (xs : List Int) : (intsV k xs).length = xs.length := by unfold intsV; simp
theorem intsV_at {k : IntKind} {xs : List Int} {i : Nat} (h : i < xs.length) : (intsV k xs)[i]? = some (.int k (xs.getD i 0)) := by
  unfold intsV; simp [h]
/-- a slice value that reads as numbers: empty and nowhere, or somewhere in a block -/
def Row (h : H) (n : Nat) (e : TypeId) (k : IntKind) (v : Value) (xs : List Int) : Prop :=
  (∃ a c, v = .slice a 0 c ∧ (∀ b o, a ≠ some ⟨b, o, none⟩) ∧ xs = []) ∨ ∃ b off cap o cs, v = .slice (some ⟨b, off, none⟩) xs.length cap ∧ h.get b = some ⟨e, o, cs⟩ ∧ b < n ∧ off + xs.length ≤ cs.length ∧ (cs.drop off).take xs.length = intsV k xs ∧ xs.length ≤ cap
theorem Row.keep {e : TypeId} {k : IntKind} {v : Value} {xs : List Int} {h' : H} {n' : Nat} (r : Row h n e k v xs) (hn : n ≤ n') (hk : ∀ b, b < n → h'.get b = h.get b) : Row h' n' e k v xs := by
  rcases r with q | ⟨b, off, cap, o, cs, hv, hg, hb, r⟩
  · exact .inl q
  · exact .inr ⟨b, off, cap, o, cs, hv, (hk b hb).trans hg, by omega, r⟩
theorem Row.lt {e : TypeId} {k : IntKind} {v : Value} {xs : List Int} (r : Row h n e k v xs) {b : Nat} (hb : InBlk v b) : b < n := by
  rcases r with ⟨a, c, rfl, hne, _⟩ | ⟨c, off, cap, o, cs, rfl, hg, hbn, _⟩
  · obtain ⟨o, l, k, q⟩ := hb
    cases q
    exact absurd rfl (hne b o)
  · rw [hb.inj]; exact hbn
/-- of a row that is not empty: where it lies, and its cells -/
theorem Row.some {e : TypeId} {k : IntKind} {v : Value} {xs : List Int} (r : Row h n e k v xs) (h0 : 0 < xs.length) : ∃ b off cap o cs, v = .slice (some ⟨b, off, none⟩) xs.length cap ∧ h.get b = some ⟨e, o, cs⟩ ∧ b < n ∧ off + xs.length ≤ cs.length ∧ (cs.drop off).take xs.length = intsV k xs ∧ xs.length ≤ cap ∧ ∀ i, i < xs.length → cs[off + i]? = some (.int k (xs.getD i 0)) := by
  rcases r with ⟨a, c, _, _, rfl⟩ | ⟨b, off, cap, o, cs, hv, hg, hb, hl, ht, hc⟩
  · simp at h0
  · refine ⟨b, off, cap, o, cs, hv, hg, hb, hl, ht, hc, fun i hi => ?_⟩
    have := congrArg (fun z => z[i]?) ht
    simp only [List.getElem?_take, hi, if_true, List.getElem?_drop] at this
    rw [this, intsV_at hi]
theorem Row.len {e : TypeId} {k : IntKind} {v : Value} {xs : List Int} (r : Row h n e k v xs) : ∃ a c, v = .slice a xs.length c := by
  rcases r with ⟨a, c, rfl, _, rfl⟩ | ⟨b, off, cap, o, cs, rfl, _⟩
  · exact ⟨a, c, rfl⟩
  · exact ⟨_, cap, rfl⟩
theorem Own.row {lo : Nat} {e : TypeId} {k : IntKind} {v : Value} {xs : List Int} (o : Own h lo n e v (intsV k xs)) : Row h n e k v xs := by
  rcases o with ⟨rfl, q⟩ | ⟨b, rfl, hg, _, hb⟩
  · exact .inl ⟨none, 0, rfl, fun _ _ q => (nomatch q), by unfold intsV at q; simpa using q⟩
  · rw [intsV_len]
    exact .inr ⟨b, 0, CAP + xs.length, true, _, rfl, hg, hb, by rw [intsV_len]; omega, by rw [List.drop_zero, List.take_of_length_le (by rw [intsV_len]; omega)], by omega⟩
theorem Row.src {e : TypeId} {k : IntKind} {v : Value} {xs : List Int} (r : Row h n e k v xs) (h0 : 0 < xs.length) : Src h n v (intsV k xs) := by
  obtain ⟨b, off, cap, o, cs, hv, hg, hb, hl, ht, hc, _⟩ := r.some h0
  exact ⟨b, off, cap, ⟨e, o, cs⟩, by rw [hv, intsV_len], hg, hb, by rw [intsV_len]; exact hl, by rw [intsV_len]; exact ht⟩
end

end Go.Proofs.YthhhkplbjcknkaaGreatDoor.Ev
/- From what a part of the second form does to what the call does in a world: arguments that are slices of integers. No program in sight. -/
namespace Go.Proofs.YthhhkplbjcknkaaGreatDoor.Ev
set_option linter.unusedVariables false
set_option linter.unusedSimpArgs false
open Go Go.RowKit

theorem cell_some {w : World} {b off : Nat} {v : Value} (h : w.cell? ⟨b, off, none⟩ = some v) : ∃ cs e fr, w.heap[b]? = some (.cells cs e fr) ∧ cs[off]? = some v := by
  unfold World.cell? at h
  cases ho : w.heap[b]? with
  | none => simp [ho] at h
  | some o =>
    cases o with
    | cells cs e fr => exact ⟨cs, e, fr, rfl, by simpa [ho] using h⟩
    | _ => simp [ho] at h
/-- the memory while the arguments are laid -/
structure Laid (P : Program) (w : World) (m : Mp) (h : H) (n : Nat) : Prop where
  wr : WR P m w.heap.size h w.heap
  gl : Gl P m
  fresh : ∀ b, n ≤ b → m b = none
  own : ∀ b B, h.get b = some B → B.own = false
  glo : P.globals.size ≤ n
/-- one package-level variable, with what its cells hold -/
theorem laid_one {P : Program} {w : World} {g : Nat} (hg : g < P.globals.size) {cs : Array Value} {e e' : TypeId} {fr : Nat × Nat} (hw : w.heap[g]? = some (.cells cs e' fr)) {sz : Nat} (he : size? P e = some sz) {vs : List Value} (hl : vs.length ≤ cs.size) (hv : ∀ (k : Nat) (v : Value), vs[k]? = some v → cs[k]? = some v ∧ scalar v = true) :
    ∃ m, Laid P w m (H.set .nil g (some ⟨e, false, vs⟩)) P.globals.size := by
  have only : ∀ b B, (H.set .nil g (some ⟨e, false, vs⟩)).get b = some B → b = g ∧ B = ⟨e, false, vs⟩ := fun b B hb => by
    by_cases eb : b = g
    · subst eb
      rw [get_eq] at hb
      cases hb
      exact ⟨rfl, rfl⟩
    · rw [get_ne _ _ eb] at hb
      unfold H.get at hb
      rw [Tr.get_nil] at hb
      cases hb
  refine ⟨fun c => if c < P.globals.size then some ⟨c, 0, cs.size, sz, e'⟩ else none, ⟨fun b B hb => ?_, fun b b' B B' d d' hb hb' ho => ?_⟩, fun c hc => ⟨_, if_pos hc, rfl, rfl⟩, fun b hb => if_neg (by omega), fun b B hb => ?_, Nat.le_refl _⟩
  · obtain ⟨rfl, rfl⟩ := only b B hb
    exact ⟨_, cs, fr.1, fr.2, if_pos hg, hw, rfl, by simpa using hl, he, fun q => (by cases q), fun k v hk => ⟨v, by simpa using (hv k v hk).1, VR.self (hv k v hk).2⟩⟩
  · obtain ⟨rfl, _⟩ := only b B hb
    obtain ⟨rfl, _⟩ := only b' B' hb'
    exact fun _ _ _ => rfl
  · obtain ⟨_, rfl⟩ := only b B hb
    rfl
/-- the variable that the known functions read -/
theorem laid_KG {P : Program} {w : World} (hG : GlobAt w) {g : Nat} (hg : g < P.globals.size) {e : TypeId} {sz : Nat} (he : size? P e = some sz) {vs : List Value} (h0 : 0 < vs.length) (hk : ∀ (k : Nat) (v : Value), vs[k]? = some v → (g, k, v) ∈ KG) (hs : vs.all scalar = true) :
    ∃ m, Laid P w m (H.set .nil g (some ⟨e, false, vs⟩)) P.globals.size := by
  have hc : ∀ (k : Nat) (v : Value), vs[k]? = some v → w.cell? ⟨g, k, none⟩ = some v := fun k v h => hG _ (hk k v h)
  obtain ⟨cs, e', fr, hw, _⟩ := cell_some (hc 0 vs[0] (List.getElem?_eq_getElem h0))
  have hc2 : ∀ (k : Nat) (v : Value), vs[k]? = some v → cs[k]? = some v := fun k v h => by
    have := hc k v h
    rwa [cell_eq w _ _ hw] at this
  refine laid_one hg hw he ?_ fun k v h => ⟨hc2 k v h, List.all_eq_true.1 hs v (List.mem_of_getElem? h)⟩
  have := (Array.getElem?_eq_some_iff.1 (hc2 (vs.length - 1) vs[vs.length - 1] (List.getElem?_eq_getElem (by omega)))).1
  omega
/-- a closed call, from a start that is laid -/
theorem closed_laid {P : Program} {bad : List FuncId} (hnm : okNames P = true) (hok : okProg P bad = true) (hmix : P.follows .mixedOrders = true) (hkn : Known P bad) {fuel : Nat} {f : FuncId} {w : World} {m : Mp} {h : H} (x : Laid P w m h P.globals.size) (hr : yieldsTrue (evCall P bad fuel f #[] h P.globals.size) = true) :
    Calls P f #[] w fun e w' => e = .returned (.bool true) ∧ Below w.heap.size w w' := by
  unfold yieldsTrue at hr
  split at hr
  · rename_i o ho
    obtain ⟨v, h1, n1, L⟩ := o
    simp only at hr
    split at hr
    · rename_i b hb
      subst hr
      refine (call_sim hnm hok hmix hkn fuel f #[] h P.globals.size _ h1 n1 L m w #[] ho x.wr (Nat.le_refl w.heap.size) .nil (fun b h1 _ => x.fresh b h1) x.gl).mono ?_
      rintro e w' ⟨m', v', rfl, hp, hv⟩
      refine ⟨?_, hp.below⟩
      cases hv
      rfl
    · cases hr
  · cases hr
theorem laid_call {P : Program} (hnm : okNames P = true) (hok : okProg P KN = true) (hmix : P.follows .mixedOrders = true) (hkn : Known P KN) (hd : okDsts P = true) {w : World} {m : Mp} {h : H} {n : Nat} (x : Laid P w m h n) {gt : Nat → List Nat} {lf d : Nat} {f : FuncId} {args args' : Array Value} (ha : VRs m args.toList args'.toList)
    (r : Run (fun _ => False) n (evCall2 P gt lf d f args) h n fun v _ _ => v = .bool true) : Calls P f args' w fun e w' => e = .returned (.bool true) ∧ Below w.heap.size w w' := by
  obtain ⟨v, h1, n1, L, e1, hn, _, rfl⟩ := r
  obtain ⟨f0, hf0⟩ := call2_ok hd d f args h n _ h1 n1 L e1
  refine (call_sim hnm hok hmix hkn f0 f args h n _ h1 n1 L m w args' (hf0 f0 (Nat.le_refl _)) x.wr (Nat.le_refl _) ha (fun b hb _ => x.fresh b hb) x.gl).mono ?_
  rintro e w' ⟨m', v', rfl, hp, hv⟩
  refine ⟨?_, hp.below⟩
  cases hv
  rfl
end Go.Proofs.YthhhkplbjcknkaaGreatDoor.Ev
/- Elements of three cells: reading one, a variable of one, rows of one's own that grow. No program in sight. -/
namespace Go.Proofs.YthhhkplbjcknkaaGreatDoor.Ev
set_option linter.unusedVariables false
set_option linter.unusedSimpArgs false
open Go

structure Cell3 (P : Program) (t e : TypeId) (z : Value) : Prop where
  und : P.underlying t = some (.slice e)
  info : ∃ i, P.info? e = some i ∧ i.size = 3 ∧ i.bytes ≤ 64
  zero : zero? P e = some z
  zs : z.cells.size = 3
  agg : agg? P e = some true
  fill : ∀ a b c : Value, Instr.fill (fun i => some (i * 3, 3)) (zeros z (1 * 3)) [(0, .agg #[a, b, c])] = some #[a, b, c]
theorem Cell3.size {P : Program} {t e : TypeId} {z : Value} (c : Cell3 P t e z) : size? P e = some 3 := by
  obtain ⟨i, h1, h2, _⟩ := c.info
  unfold size?
  rw [h1]
  simp [h2]
abbrev V3 := Value × Value × Value
def flat3 : List V3 → List Value
  | [] => []
  | t :: l => t.1 :: t.2.1 :: t.2.2 :: flat3 l
section
variable {β : Type} {W : Nat → Prop} {n0 : Nat} {h : H} {n : Nat} {Q : β → H → Nat → Prop} {P : Program} {t e : TypeId} {z : Value}
/-- a row of one's own of such elements, that grows -/
def Own3 (h : H) (lo n : Nat) (e : TypeId) (v : Value) (ts : List V3) : Prop := (v = .slice none 0 0 ∧ ts = []) ∨ ∃ b, v = .slice (some ⟨b, 0, none⟩) ts.length (CAP + ts.length) ∧ h.get b = some ⟨e, true, flat3 ts⟩ ∧ lo ≤ b ∧ b < n
theorem Own3.nil (h : H) (lo n : Nat) (e : TypeId) : Own3 h lo n e (.slice none 0 0) [] := .inl ⟨rfl, rfl⟩
theorem Own3.keep {lo : Nat} {v : Value} {ts : List V3} {h' : H} {n' : Nat} (o : Own3 h lo n e v ts) (hn : n ≤ n') (hk : ∀ b, InBlk v b → h'.get b = h.get b) : Own3 h' lo n' e v ts := by
  rcases o with q | ⟨c, rfl, hc, h1, h2⟩
  · exact .inl q
  · exact .inr ⟨c, rfl, (hk c ⟨_, _, _, rfl⟩).trans hc, h1, by omega⟩
theorem Own3.lt {lo : Nat} {v : Value} {ts : List V3} (o : Own3 h lo n e v ts) {b : Nat} (hb : InBlk v b) : lo ≤ b ∧ b < n := by
  rcases o with ⟨rfl, _⟩ | ⟨c, rfl, _, h1, h2⟩
  · exact hb.not_nil.elim
  · rw [hb.inj]; exact ⟨h1, h2⟩
theorem Own3.len {lo : Nat} {v : Value} {ts : List V3} (o : Own3 h lo n e v ts) : ∃ a c, v = .slice a ts.length c := by
  rcases o with ⟨rfl, rfl⟩ | ⟨b, rfl, _⟩
  · exact ⟨none, 0, rfl⟩
  · exact ⟨_, _, rfl⟩
end

end Go.Proofs.YthhhkplbjcknkaaGreatDoor.Ev

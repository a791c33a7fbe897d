/- From what a part of the second form does to what the call does in a world: arguments that are slices of integers. No program in sight. -/
import Derived.Test.YthhhkplbjcknkaaGreatDoorEvT
import Derived.ProofKit
import Derived.OpenShut
namespace Go.Proofs.YthhhkplbjcknkaaGreatDoor.Ev
set_option linter.unusedVariables false
set_option linter.unusedSimpArgs false
open Go Go.RowKit

theorem cell_some {w : World} {b off : Nat} {v : Value} (h : w.cell? ⟨b, off, none⟩ = some v) : ∃ cs e fr, w.heap[b]? = some (.cells cs e fr) ∧ cs[off]? = some v := by
  unfold World.cell? at h
  cases ho : w.heap[b]? with
  | none => simp [ho] at h
  | some o =>
    cases o with
    | cells cs e fr => exact ⟨cs, e, fr, rfl, by simpa [ho] using h⟩
    | _ => simp [ho] at h
/-- the memory while the arguments are laid -/
structure Laid (P : Program) (w : World) (m : Mp) (h : H) (n : Nat) : Prop where
  wr : WR P m w.heap.size h w.heap
  gl : Gl P m
  fresh : ∀ b, n ≤ b → m b = none
  own : ∀ b B, h.get b = some B → B.own = false
  glo : P.globals.size ≤ n
/-- one package-level variable, with what its cells hold -/
theorem laid_one {P : Program} {w : World} {g : Nat} (hg : g < P.globals.size) {cs : Array Value} {e e' : TypeId} {fr : Nat × Nat} (hw : w.heap[g]? = some (.cells cs e' fr)) {sz : Nat} (he : size? P e = some sz) {vs : List Value} (hl : vs.length ≤ cs.size) (hv : ∀ (k : Nat) (v : Value), vs[k]? = some v → cs[k]? = some v ∧ scalar v = true) :
    ∃ m, Laid P w m (H.set .nil g (some ⟨e, false, vs⟩)) P.globals.size := by
  have only : ∀ b B, (H.set .nil g (some ⟨e, false, vs⟩)).get b = some B → b = g ∧ B = ⟨e, false, vs⟩ := fun b B hb => by
    by_cases eb : b = g
    · subst eb
      rw [get_eq] at hb
      cases hb
      exact ⟨rfl, rfl⟩
    · rw [get_ne _ _ eb] at hb
      unfold H.get at hb
      rw [Tr.get_nil] at hb
      cases hb
  refine ⟨fun c => if c < P.globals.size then some ⟨c, 0, cs.size, sz, e'⟩ else none, ⟨fun b B hb => ?_, fun b b' B B' d d' hb hb' ho => ?_⟩, fun c hc => ⟨_, if_pos hc, rfl, rfl⟩, fun b hb => if_neg (by omega), fun b B hb => ?_, Nat.le_refl _⟩
  · obtain ⟨rfl, rfl⟩ := only b B hb
    exact ⟨_, cs, fr.1, fr.2, if_pos hg, hw, rfl, by simpa using hl, he, fun q => (by cases q), fun k v hk => ⟨v, by simpa using (hv k v hk).1, VR.self (hv k v hk).2⟩⟩
  · obtain ⟨rfl, _⟩ := only b B hb
    obtain ⟨rfl, _⟩ := only b' B' hb'
    exact fun _ _ _ => rfl
  · obtain ⟨_, rfl⟩ := only b B hb
    rfl
/-- the variable that the known functions read -/
theorem laid_KG {P : Program} {w : World} (hG : GlobAt w) {g : Nat} (hg : g < P.globals.size) {e : TypeId} {sz : Nat} (he : size? P e = some sz) {vs : List Value} (h0 : 0 < vs.length) (hk : ∀ (k : Nat) (v : Value), vs[k]? = some v → (g, k, v) ∈ KG) (hs : vs.all scalar = true) :
    ∃ m, Laid P w m (H.set .nil g (some ⟨e, false, vs⟩)) P.globals.size := by
  have hc : ∀ (k : Nat) (v : Value), vs[k]? = some v → w.cell? ⟨g, k, none⟩ = some v := fun k v h => hG _ (hk k v h)
  obtain ⟨cs, e', fr, hw, _⟩ := cell_some (hc 0 vs[0] (List.getElem?_eq_getElem h0))
  have hc2 : ∀ (k : Nat) (v : Value), vs[k]? = some v → cs[k]? = some v := fun k v h => by
    have := hc k v h
    rwa [cell_eq w _ _ hw] at this
  refine laid_one hg hw he ?_ fun k v h => ⟨hc2 k v h, List.all_eq_true.1 hs v (List.mem_of_getElem? h)⟩
  have := (Array.getElem?_eq_some_iff.1 (hc2 (vs.length - 1) vs[vs.length - 1] (List.getElem?_eq_getElem (by omega)))).1
  omega
/-- a closed call, from a start that is laid -/
theorem closed_laid {P : Program} {bad : List FuncId} (hnm : okNames P = true) (hok : okProg P bad = true) (hmix : P.follows .mixedOrders = true) (hkn : Known P bad) {fuel : Nat} {f : FuncId} {w : World} {m : Mp} {h : H} (x : Laid P w m h P.globals.size) (hr : yieldsTrue (evCall P bad fuel f #[] h P.globals.size) = true) :
    Calls P f #[] w fun e w' => e = .returned (.bool true) ∧ Below w.heap.size w w' := by
  unfold yieldsTrue at hr
  split at hr
  · rename_i o ho
    obtain ⟨v, h1, n1, L⟩ := o
    simp only at hr
    split at hr
    · rename_i b hb
      subst hr
      refine (call_sim hnm hok hmix hkn fuel f #[] h P.globals.size _ h1 n1 L m w #[] ho x.wr (Nat.le_refl w.heap.size) .nil (fun b h1 _ => x.fresh b h1) x.gl).mono ?_
      rintro e w' ⟨m', v', rfl, hp, hv⟩
      refine ⟨?_, hp.below⟩
      cases hv
      rfl
    · cases hr
  · cases hr
theorem laid_call {P : Program} (hnm : okNames P = true) (hok : okProg P KN = true) (hmix : P.follows .mixedOrders = true) (hkn : Known P KN) (hd : okDsts P = true) {w : World} {m : Mp} {h : H} {n : Nat} (x : Laid P w m h n) {gt : Nat → List Nat} {lf d : Nat} {f : FuncId} {args args' : Array Value} (ha : VRs m args.toList args'.toList)
    (r : Run (fun _ => False) n (evCall2 P gt lf d f args) h n fun v _ _ => v = .bool true) : Calls P f args' w fun e w' => e = .returned (.bool true) ∧ Below w.heap.size w w' := by
  obtain ⟨v, h1, n1, L, e1, hn, _, rfl⟩ := r
  obtain ⟨f0, hf0⟩ := call2_ok hd d f args h n _ h1 n1 L e1
  refine (call_sim hnm hok hmix hkn f0 f args h n _ h1 n1 L m w args' (hf0 f0 (Nat.le_refl _)) x.wr (Nat.le_refl _) ha (fun b hb _ => x.fresh b hb) x.gl).mono ?_
  rintro e w' ⟨m', v', rfl, hp, hv⟩
  refine ⟨?_, hp.below⟩
  cases hv
  rfl
end Go.Proofs.YthhhkplbjcknkaaGreatDoor.Ev

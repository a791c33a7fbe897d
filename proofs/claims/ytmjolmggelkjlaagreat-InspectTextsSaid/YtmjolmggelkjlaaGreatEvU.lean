/- From what a part of the second form does to what the call does in a world: arguments that are slices of integers. No program in sight. -/
import Derived.Test.YtmjolmggelkjlaaGreatEvT
import Derived.ProofKit
import Derived.OpenShut
namespace Go.Proofs.YtmjolmggelkjlaaGreat.Ev
set_option linter.unusedVariables false
set_option linter.unusedSimpArgs false
open Go Go.RowKit

/-- a slice of integers that is handed in -/
def ArgAt (w : World) (v : Value) (xs : List Int) : Prop :=
  (v = .slice none 0 0 ∧ xs = []) ∨ (∃ a, v = .slice (some a) 0 0 ∧ xs = []) ∨
  ∃ b off cap cs e fr, v = .slice (some ⟨b, off, none⟩) xs.length cap ∧ w.heap[b]? = some (.cells cs e fr) ∧ xs.length ≤ cap ∧ off + cap ≤ cs.size ∧ ∀ i, i < xs.length → cs[off + i]? = some (.int .i64 (xs.getD i 0))
theorem cell_some {w : World} {b off : Nat} {v : Value} (h : w.cell? ⟨b, off, none⟩ = some v) : ∃ cs e fr, w.heap[b]? = some (.cells cs e fr) ∧ cs[off]? = some v := by
  unfold World.cell? at h
  cases ho : w.heap[b]? with
  | none => simp [ho] at h
  | some o =>
    cases o with
    | cells cs e fr => exact ⟨cs, e, fr, rfl, by simpa [ho] using h⟩
    | _ => simp [ho] at h
theorem arg_of_row {W : World} {x : Addr} {len cap : Nat} {zs : List Int} (hl : len ≤ cap) (hm : cap ≤ maxLen) (hz : zs.length = cap)
    (hcell : ∀ i, i < zs.length → W.cell? (x.add i) = some (.int .i64 (zs.getD i 0))) (hwz : ∀ n ∈ zs, (Lit.int .i64 n).wf = true) :
    ∃ ys : List Int, ys.length = len ∧ ArgAt W (.slice (some x) len cap) ys ∧ (ys.length ≤ maxLen ∧ ∀ n ∈ ys, (Lit.int .i64 n).wf = true) := by
  refine ⟨zs.take len, by simp; omega, ?_, by simp; omega, fun n hn => hwz n (List.mem_of_mem_take hn)⟩
  by_cases h0 : cap = 0
  · obtain rfl : len = 0 := by omega
    subst h0
    exact .inr (.inl ⟨x, rfl, by simp⟩)
  · have hc0 := hcell 0 (by omega)
    obtain ⟨b, off, spot⟩ := x
    have hspot : spot = none := by simpa [Addr.add] using World.cell?_spot hc0
    subst hspot
    obtain ⟨cs, e, fr, hg, _⟩ := cell_some (by rw [add0] at hc0; exact hc0)
    have all : ∀ i, i < zs.length → cs[off + i]? = some (.int .i64 (zs.getD i 0)) := fun i hi => by
      have := hcell i hi
      rw [add0, cell_eq W _ _ hg] at this
      exact this
    refine .inr (.inr ⟨b, off, cap, cs, e, fr, by congr 1; simp; omega, hg, by simp; omega, ?_, fun i hi => ?_⟩)
    · have := (Array.getElem?_eq_some_iff.1 (all (cap - 1) (by omega))).1
      omega
    · have hi' : i < len := by simp at hi; omega
      rw [all i (by omega)]
      simp [List.getD_eq_getElem?_getD, List.getElem?_take, hi']

/-- the memory while the arguments are laid -/
structure Laid (P : Program) (w : World) (m : Mp) (h : H) (n : Nat) : Prop where
  wr : WR P m w.heap.size h w.heap
  gl : Gl P m
  fresh : ∀ b, n ≤ b → m b = none
  own : ∀ b B, h.get b = some B → B.own = false
  glo : P.globals.size ≤ n
theorem laid_nil (P : Program) (w : World) : ∃ m, Laid P w m .nil P.globals.size := by
  have hnil : ∀ b B, ¬ (H.get (.nil : H) b = some B) := fun b B hg => by
    unfold H.get at hg; rw [Tr.get_nil] at hg; cases hg
  exact ⟨fun g => if g < P.globals.size then some ⟨g, 0, 0, 0, 0⟩ else none, ⟨fun b B hg => absurd hg (hnil b B), fun b b' B B' d d' hg => absurd hg (hnil b B)⟩,
    fun g hg => ⟨⟨g, 0, 0, 0, 0⟩, if_pos hg, rfl, rfl⟩, fun b hb => if_neg (by omega), fun b B hg => absurd hg (hnil b B), Nat.le_refl _⟩
/-- one package-level variable, with what its cells hold -/
theorem laid_one {P : Program} {w : World} {g : Nat} (hg : g < P.globals.size) {cs : Array Value} {e e' : TypeId} {fr : Nat × Nat} (hw : w.heap[g]? = some (.cells cs e' fr)) {sz : Nat} (he : size? P e = some sz) {vs : List Value} (hl : vs.length ≤ cs.size) (hv : ∀ (k : Nat) (v : Value), vs[k]? = some v → cs[k]? = some v ∧ scalar v = true) :
    ∃ m, Laid P w m (H.set .nil g (some ⟨e, false, vs⟩)) P.globals.size := by
  have only : ∀ b B, (H.set .nil g (some ⟨e, false, vs⟩)).get b = some B → b = g ∧ B = ⟨e, false, vs⟩ := fun b B hb => by
    by_cases eb : b = g
    · subst eb
      rw [get_eq] at hb
      cases hb
      exact ⟨rfl, rfl⟩
    · rw [get_ne _ _ eb] at hb
      unfold H.get at hb
      rw [Tr.get_nil] at hb
      cases hb
  refine ⟨fun c => if c < P.globals.size then some ⟨c, 0, cs.size, sz, e'⟩ else none, ⟨fun b B hb => ?_, fun b b' B B' d d' hb hb' ho => ?_⟩, fun c hc => ⟨_, if_pos hc, rfl, rfl⟩, fun b hb => if_neg (by omega), fun b B hb => ?_, Nat.le_refl _⟩
  · obtain ⟨rfl, rfl⟩ := only b B hb
    exact ⟨_, cs, fr.1, fr.2, if_pos hg, hw, rfl, by simpa using hl, he, fun q => (by cases q), fun k v hk => ⟨v, by simpa using (hv k v hk).1, VR.self (hv k v hk).2⟩⟩
  · obtain ⟨rfl, _⟩ := only b B hb
    obtain ⟨rfl, _⟩ := only b' B' hb'
    exact fun _ _ _ => rfl
  · obtain ⟨_, rfl⟩ := only b B hb
    rfl
/-- the variable that the known functions read -/
theorem laid_KG {P : Program} {w : World} (hG : GlobAt w) {g : Nat} (hg : g < P.globals.size) {e : TypeId} {sz : Nat} (he : size? P e = some sz) {vs : List Value} (h0 : 0 < vs.length) (hk : ∀ (k : Nat) (v : Value), vs[k]? = some v → (g, k, v) ∈ KG) (hs : vs.all scalar = true) :
    ∃ m, Laid P w m (H.set .nil g (some ⟨e, false, vs⟩)) P.globals.size := by
  have hc : ∀ (k : Nat) (v : Value), vs[k]? = some v → w.cell? ⟨g, k, none⟩ = some v := fun k v h => hG _ (hk k v h)
  obtain ⟨cs, e', fr, hw, _⟩ := cell_some (hc 0 vs[0] (List.getElem?_eq_getElem h0))
  have hc2 : ∀ (k : Nat) (v : Value), vs[k]? = some v → cs[k]? = some v := fun k v h => by
    have := hc k v h
    rwa [cell_eq w _ _ hw] at this
  refine laid_one hg hw he ?_ fun k v h => ⟨hc2 k v h, List.all_eq_true.1 hs v (List.mem_of_getElem? h)⟩
  have := (Array.getElem?_eq_some_iff.1 (hc2 (vs.length - 1) vs[vs.length - 1] (List.getElem?_eq_getElem (by omega)))).1
  omega
/-- a closed call, from a start that is laid -/
theorem closed_laid {P : Program} {bad : List FuncId} (hnm : okNames P = true) (hok : okProg P bad = true) (hmix : P.follows .mixedOrders = true) (hkn : Known P bad) {fuel : Nat} {f : FuncId} {w : World} {m : Mp} {h : H} (x : Laid P w m h P.globals.size) (hr : yieldsTrue (evCall P bad fuel f #[] h P.globals.size) = true) :
    Calls P f #[] w fun e w' => e = .returned (.bool true) ∧ Below w.heap.size w w' := by
  unfold yieldsTrue at hr
  split at hr
  · rename_i o ho
    obtain ⟨v, h1, n1, L⟩ := o
    simp only at hr
    split at hr
    · rename_i b hb
      subst hr
      refine (call_sim hnm hok hmix hkn fuel f #[] h P.globals.size _ h1 n1 L m w #[] ho x.wr (Nat.le_refl w.heap.size) .nil (fun b h1 _ => x.fresh b h1) x.gl).mono ?_
      rintro e w' ⟨m', v', rfl, hp, hv⟩
      refine ⟨?_, hp.below⟩
      cases hv
      rfl
    · cases hr
  · cases hr
theorem laid_add {P : Program} {w : World} {m : Mp} {h : H} {n : Nat} (x : Laid P w m h n) {v : Value} {xs : List Int} (ha : ArgAt w v xs) {e : TypeId} (he : size? P e = some 1) :
    ∃ m' h' v0, Laid P w m' h' (n + 1) ∧ VR m' v0 v ∧ Row h' (n + 1) e .i64 v0 xs ∧ Le m m' ∧ ∀ b, b < n → h'.get b = h.get b := by
  rcases ha with ⟨rfl, rfl⟩ | ⟨a, rfl, rfl⟩ | ⟨b, off, cap, cs, e', fr, rfl, hg, hl, hc, hat⟩
  · exact ⟨m, h, .slice none 0 0, ⟨x.wr, x.gl, fun b hb => x.fresh b (by omega), x.own, by have := x.glo; omega⟩, .snil 0 0 ⟨Nat.le_refl _, by unfold CAP; omega⟩, .inl ⟨none, 0, rfl, fun _ _ => by simp, rfl⟩, Le.refl _, fun _ _ => rfl⟩
  · exact ⟨m, h, .slice (some ⟨n, 0, some 0⟩) 0 0, ⟨x.wr, x.gl, fun b hb => x.fresh b (by omega), x.own, by have := x.glo; omega⟩, .semp n 0 0 a, .inl ⟨_, 0, rfl, fun b o q => by simp at q, rfl⟩, Le.refl _, fun _ _ => rfl⟩
  · let m' : Mp := fun c => if c = n then some ⟨b, off, cs.size, 1, e'⟩ else m c
    have hle : Le m m' := fun c d hd => by
      by_cases ec : c = n
      · subst ec; rw [x.fresh c (Nat.le_refl c)] at hd; cases hd
      · show (if c = n then _ else _) = _; rw [if_neg ec]; exact hd
    let h' : H := h.set n (some ⟨e, false, intsV .i64 xs⟩)
    have hn : m' n = some ⟨b, off, cs.size, 1, e'⟩ := if_pos rfl
    have hgn : h'.get n = some ⟨e, false, intsV .i64 xs⟩ := get_eq _ _ _
    have hown : ∀ c C, h'.get c = some C → C.own = false := fun c C hcC => by
      by_cases ec : c = n
      · subst ec; rw [hgn] at hcC; cases hcC; rfl
      · rw [get_ne _ _ ec] at hcC; exact x.own c C hcC
    refine ⟨m', h', .slice (some ⟨n, 0, none⟩) xs.length (CAP + xs.length), ⟨⟨?_, ?_⟩, x.gl.mono hle, fun c hc => ?_, hown, by have := x.glo; omega⟩, ?_, .inr ⟨n, 0, _, false, _, rfl, hgn, Nat.lt_succ_self n, by rw [intsV_len]; omega, by rw [List.drop_zero, List.take_of_length_le (by rw [intsV_len]; omega)], by omega⟩, hle, fun c hc => get_ne _ _ (by omega)⟩
    · intro c C hcC
      by_cases ec : c = n
      · subst ec
        rw [hgn] at hcC
        cases hcC
        refine ⟨_, cs, fr.1, fr.2, hn, hg, rfl, by rw [intsV_len]; show off + xs.length ≤ cs.size; omega, he, fun q => (by cases q), fun k u hu => ?_⟩
        have hk : k < xs.length := by have := (List.getElem?_eq_some_iff.1 hu).1; rwa [intsV_len] at this
        simp only [intsV_at hk, Option.some.injEq] at hu
        subst hu
        exact ⟨_, hat k hk, .int _ _⟩
      · rw [get_ne _ _ ec] at hcC
        obtain ⟨d, cs2, lo, hi, hm, hg2, h1, h2, h3, h4, h5⟩ := x.wr.live c C hcC
        refine ⟨d, cs2, lo, hi, hle _ _ hm, hg2, h1, h2, h3, h4, fun k u hu => ?_⟩
        obtain ⟨u', hu', hr⟩ := h5 k u hu
        exact ⟨u', hu', hr.mono hle⟩
    · intro c c' C C' d d' hcC hcC' ho
      rw [hown c C hcC, hown c' C' hcC'] at ho
      simp at ho
    · show (if c = n then _ else _) = none
      rw [if_neg (by omega)]
      exact x.fresh c (by omega)
    · refine .slc hn (fun _ => rfl) (fun q => by unfold CAP at q; omega) (fun _ => by omega) hl ?_
      show off + cap * 1 ≤ cs.size
      omega
theorem laid_call {P : Program} (hnm : okNames P = true) (hok : okProg P KN = true) (hmix : P.follows .mixedOrders = true) (hkn : Known P KN) (hd : okDsts P = true) {w : World} {m : Mp} {h : H} {n : Nat} (x : Laid P w m h n) {gt : Nat → Hint} {lf d : Nat} {f : FuncId} {args args' : Array Value} (ha : VRs m args.toList args'.toList)
    (r : Run (fun _ => False) n (evCall2 P gt lf d f args) h n fun v _ _ => v = .bool true) : Calls P f args' w fun e w' => e = .returned (.bool true) ∧ Below w.heap.size w w' := by
  obtain ⟨v, h1, n1, L, e1, hn, _, rfl⟩ := r
  obtain ⟨f0, hf0⟩ := call2_ok hd d f args h n _ h1 n1 L e1
  refine (call_sim hnm hok hmix hkn f0 f args h n _ h1 n1 L m w args' (hf0 f0 (Nat.le_refl _)) x.wr (Nat.le_refl _) ha (fun b hb _ => x.fresh b hb) x.gl).mono ?_
  rintro e w' ⟨m', v', rfl, hp, hv⟩
  refine ⟨?_, hp.below⟩
  cases hv
  rfl
theorem law_one {P : Program} (hnm : okNames P = true) (hok : okProg P KN = true) (hmix : P.follows .mixedOrders = true) (hkn : Known P KN) (hd : okDsts P = true) {w : World} {gt : Nat → Hint} {lf d : Nat} {f : FuncId} {v : Value} {xs : List Int} (ha : ArgAt w v xs) {e : TypeId} (he : size? P e = some 1)
    (r : ∀ n h v0, P.globals.size ≤ n → Row h n e .i64 v0 xs → Run (fun _ => False) n (evCall2 P gt lf d f #[v0]) h n fun v _ _ => v = .bool true) : Calls P f #[v] w fun e w' => e = .returned (.bool true) ∧ Below w.heap.size w w' := by
  obtain ⟨m0, x0⟩ := laid_nil P w
  obtain ⟨m1, h1, v0, x1, hv, hr, _, _⟩ := laid_add x0 ha he
  exact laid_call hnm hok hmix hkn hd x1 (.cons hv .nil) (r _ _ _ x1.glo hr)
theorem law_two {P : Program} (hnm : okNames P = true) (hok : okProg P KN = true) (hmix : P.follows .mixedOrders = true) (hkn : Known P KN) (hd : okDsts P = true) {w : World} {gt : Nat → Hint} {lf d : Nat} {f : FuncId} {v v' : Value} {xs ys : List Int} (ha : ArgAt w v xs) (hb : ArgAt w v' ys) {e : TypeId} (he : size? P e = some 1)
    (r : ∀ n h v0 v1, P.globals.size ≤ n → Row h n e .i64 v0 xs → Row h n e .i64 v1 ys → Run (fun _ => False) n (evCall2 P gt lf d f #[v0, v1]) h n fun v _ _ => v = .bool true) : Calls P f #[v, v'] w fun e w' => e = .returned (.bool true) ∧ Below w.heap.size w w' := by
  obtain ⟨m0, x0⟩ := laid_nil P w
  obtain ⟨m1, h1, v0, x1, hv, hr, _, _⟩ := laid_add x0 ha he
  obtain ⟨m2, h2, v1, x2, hv1, hr1, hl, hk⟩ := laid_add x1 hb he
  exact laid_call hnm hok hmix hkn hd x2 (.cons (hv.mono hl) (.cons hv1 .nil)) (r _ _ _ _ x2.glo (hr.keep (Nat.le_succ _) hk) hr1)

end Go.Proofs.YtmjolmggelkjlaaGreat.Ev

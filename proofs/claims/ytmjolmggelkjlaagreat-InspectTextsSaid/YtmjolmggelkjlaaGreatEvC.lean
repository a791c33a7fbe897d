/- What the evaluator's memory says of a world: the relation, and how single steps keep it. No program in sight. -/
import Derived.Test.YtmjolmggelkjlaaGreatEvB
import Derived.Laws.Append
import Derived.Laws.Cells
namespace Go.Proofs.YtmjolmggelkjlaaGreat.Ev
set_option linter.unusedVariables false
set_option linter.unusedSimpArgs false
open Go Go.RowKit

theorem bind_some {α β : Type} {m : M α} {f : α → M β} {h : H} {n : Nat} {c : β} {h2 : H} {n2 : Nat} {L : List En} (hr : (m.bind f) h n = some ⟨c, h2, n2, L⟩) :
    ∃ a h1 n1 L1 L2, m h n = some ⟨a, h1, n1, L1⟩ ∧ f a h1 n1 = some ⟨c, h2, n2, L2⟩ ∧ L = L1 ++ L2 := by
  unfold M.bind at hr
  split at hr
  · rename_i a h1 n1 L1 e1
    split at hr
    · rename_i c' h2' n2' L2 e2
      simp only [Option.some.injEq, Out.mk.injEq] at hr
      obtain ⟨rfl, rfl, rfl, rfl⟩ := hr
      exact ⟨a, h1, n1, L1, L2, e1, e2, rfl⟩
    · cases hr
  · cases hr
theorem ret_some {α : Type} {a c : α} {h h2 : H} {n n2 : Nat} {L : List En} (hr : (M.ret a) h n = some ⟨c, h2, n2, L⟩) : c = a ∧ h2 = h ∧ n2 = n := by
  simp only [M.ret, Option.some.injEq, Out.mk.injEq] at hr
  exact ⟨hr.1.symm, hr.2.1.symm, hr.2.2.1.symm⟩
theorem lift_some {α : Type} {o : Option α} {c : α} {h h2 : H} {n n2 : Nat} {L : List En} (hr : (M.lift o) h n = some ⟨c, h2, n2, L⟩) : o = some c ∧ h2 = h ∧ n2 = n := by
  unfold M.lift at hr
  cases o with
  | none => cases hr
  | some a =>
    simp only [Option.some.injEq, Out.mk.injEq] at hr
    exact ⟨by rw [hr.1], hr.2.1.symm, hr.2.2.1.symm⟩

/-- where a block lies: the world's block, how far in it begins, how many cells that block has, an element's size -/
structure Ds where
  blk : Nat
  sh : Nat
  tot : Nat
  esz : Nat
  el : TypeId
abbrev Mp := Nat → Option Ds

mutual
inductive VR (m : Mp) : Value → Value → Prop
  | bool (b : Bool) : VR m (.bool b) (.bool b)
  | int (k : IntKind) (n : Int) : VR m (.int k n) (.int k n)
  | float (k : FloatKind) (n : Nat) : VR m (.float k n) (.float k n)
  | string (s : ByteArray) : VR m (.string s) (.string s)
  | pnil : VR m (.pointer none) (.pointer none)
  | ptr {b off : Nat} {d : Ds} (h : m b = some d) : VR m (.pointer (some ⟨b, off, none⟩)) (.pointer (some ⟨d.blk, d.sh + off, none⟩))
  | snil (n c : Nat) (hc : n ≤ c ∧ c < CAP) : VR m (.slice none n c) (.slice none n c)
  | slc {b off n cap cap' o' : Nat} {d : Ds} (h : m b = some d) (ho : 0 < n ∨ cap < CAP → o' = d.sh + off) (h1 : cap < CAP → cap' = cap) (h2 : CAP ≤ cap → CAP + n ≤ cap ∧ cap ≤ CAP + cap') (hn : n ≤ cap') (ht : o' + cap' * d.esz ≤ d.tot) :
      VR m (.slice (some ⟨b, off, none⟩) n cap) (.slice (some ⟨d.blk, o', none⟩) n cap')
  | semp (b off s : Nat) (a' : Addr) : VR m (.slice (some ⟨b, off, some s⟩) 0 0) (.slice (some a') 0 0)
  | func (fn : Fn) {f c f' c' : Array Value} (h1 : VRs m f.toList f'.toList) (h2 : VRs m c.toList c'.toList) : VR m (.func fn f c) (.func fn f' c')
  | nilFunc : VR m .nilFunc .nilFunc
  | agg {cs cs' : Array Value} (h : VRs m cs.toList cs'.toList) : VR m (.agg cs) (.agg cs')
  | tuple {cs cs' : Array Value} (h : VRs m cs.toList cs'.toList) : VR m (.tuple cs) (.tuple cs')
inductive VRs (m : Mp) : List Value → List Value → Prop
  | nil : VRs m [] []
  | cons {v v' : Value} {l l' : List Value} (h : VR m v v') (t : VRs m l l') : VRs m (v :: l) (v' :: l')
end

def Le (m m' : Mp) : Prop := ∀ b d, m b = some d → m' b = some d
theorem Le.refl (m : Mp) : Le m m := fun _ _ h => h
theorem Le.trans {a b c : Mp} (h : Le a b) (k : Le b c) : Le a c := fun x d e => k x d (h x d e)
mutual
theorem VR.mono {m m' : Mp} (hl : Le m m') : ∀ {v v' : Value}, VR m v v' → VR m' v v'
  | _, _, .bool b => .bool b
  | _, _, .int k n => .int k n
  | _, _, .float k n => .float k n
  | _, _, .string s => .string s
  | _, _, .pnil => .pnil
  | _, _, .ptr h => .ptr (hl _ _ h)
  | _, _, .snil n c hc => .snil n c hc
  | _, _, .slc h ho h1 h2 hn ht => .slc (hl _ _ h) ho h1 h2 hn ht
  | _, _, .semp b off s a' => .semp b off s a'
  | _, _, .func fn h1 h2 => .func fn (VRs.mono hl h1) (VRs.mono hl h2)
  | _, _, .nilFunc => .nilFunc
  | _, _, .agg h => .agg (VRs.mono hl h)
  | _, _, .tuple h => .tuple (VRs.mono hl h)
theorem VRs.mono {m m' : Mp} (hl : Le m m') : ∀ {l l' : List Value}, VRs m l l' → VRs m' l l'
  | _, _, .nil => .nil
  | _, _, .cons h t => .cons (VR.mono hl h) (VRs.mono hl t)
end
theorem VRs.length {m : Mp} : ∀ {l l' : List Value}, VRs m l l' → l.length = l'.length
  | _, _, .nil => rfl
  | _, _, .cons _ t => by simp [VRs.length t]
theorem VRs.get {m : Mp} : ∀ {l l' : List Value}, VRs m l l' → ∀ (k : Nat) (v : Value), l[k]? = some v → ∃ v', l'[k]? = some v' ∧ VR m v v'
  | _, _, .nil, k, v, h => by simp at h
  | _, _, .cons h t, k, v, hk => by
    cases k with
    | zero => simp at hk; subst hk; exact ⟨_, rfl, h⟩
    | succ k => simp at hk; simpa using VRs.get t k v hk
theorem VRs.of_get {m : Mp} : ∀ {l l' : List Value}, l.length = l'.length → (∀ (k : Nat) (v : Value), l[k]? = some v → ∃ v', l'[k]? = some v' ∧ VR m v v') → VRs m l l'
  | [], [], _, _ => .nil
  | v :: l, v' :: l', hl, h => by
    obtain ⟨u, hu, hr⟩ := h 0 v rfl
    simp at hu; subst hu
    exact .cons hr (VRs.of_get (by simpa using hl) fun k x hk => by simpa using h (k + 1) x (by simpa using hk))
theorem VRs.append {m : Mp} : ∀ {a a' b b' : List Value}, VRs m a a' → VRs m b b' → VRs m (a ++ b) (a' ++ b')
  | _, _, _, _, .nil, k => k
  | _, _, _, _, .cons h t, k => .cons h (VRs.append t k)
theorem VRs.set {m : Mp} : ∀ {a a' : List Value} (k : Nat) {v v' : Value}, VRs m a a' → VR m v v' → VRs m (a.set k v) (a'.set k v')
  | _, _, _, _, _, .nil, _ => .nil
  | _, _, 0, _, _, .cons _ t, h => .cons h t
  | _, _, k + 1, _, _, .cons u t, h => .cons u (VRs.set k t h)
theorem VRs.map {m : Mp} {α : Type} {f g : α → Value} : ∀ (l : List α), (∀ x, VR m (f x) (g x)) → VRs m (l.map f) (l.map g)
  | [], _ => .nil
  | x :: l, h => .cons (h x) (VRs.map l h)
theorem VR.scalar {m : Mp} {v v' : Value} (h : VR m v v') (hs : Ev.scalar v = true) : v' = v := by
  cases h <;> first | rfl | cases hs
theorem VR.self {m : Mp} {v : Value} (hs : Ev.scalar v = true) : VR m v v := by
  cases v <;> first | exact .bool _ | exact .int _ _ | exact .string _ | cases hs
theorem VR.one {m : Mp} {v v' : Value} (h : VR m v v') : Ev.one v' = Ev.one v := by cases h <;> rfl
theorem VR.cells {m : Mp} {v v' : Value} (h : VR m v v') : VRs m v.cells.toList v'.cells.toList := by
  cases h with
  | agg h => exact h
  | bool b => exact .cons (.bool b) .nil
  | int k n => exact .cons (.int k n) .nil
  | float k n => exact .cons (.float k n) .nil
  | string s => exact .cons (.string s) .nil
  | pnil => exact .cons .pnil .nil
  | ptr h => exact .cons (.ptr h) .nil
  | snil n c hc => exact .cons (.snil n c hc) .nil
  | slc h ho h1 h2 hn ht => exact .cons (.slc h ho h1 h2 hn ht) .nil
  | semp b off s a' => exact .cons (.semp b off s a') .nil
  | func fn h1 h2 => exact .cons (.func fn h1 h2) .nil
  | nilFunc => exact .cons .nilFunc .nil
  | tuple h => exact .cons (.tuple h) .nil
theorem VR.undef {m : Mp} : VR m Go.undef Go.undef := .tuple .nil
theorem VR.cells_size {m : Mp} {v v' : Value} (h : VR m v v') : v.cells.size = v'.cells.size := by
  have := h.cells.length
  simpa using this

/-- the evaluator's memory and the world's -/
structure WR (P : Program) (m : Mp) (base : Nat) (h : H) (hp : Array Obj) : Prop where
  live : ∀ b B, h.get b = some B → ∃ d cs lo hi, m b = some d ∧ hp[d.blk]? = some (.cells cs d.el (lo, hi)) ∧ cs.size = d.tot ∧ d.sh + B.cells.length ≤ d.tot ∧
    size? P B.elem = some d.esz ∧ (B.own = true → d.el = B.elem ∧ base ≤ d.blk ∧ ∀ k, k < d.tot → ¬ (lo ≤ k ∧ k < hi)) ∧ ∀ k v, B.cells[k]? = some v → ∃ v', cs[d.sh + k]? = some v' ∧ VR m v v'
  inj : ∀ b b' B B' d d', h.get b = some B → h.get b' = some B' → (B.own = true ∨ B'.own = true) → m b = some d → m b' = some d' → d.blk = d'.blk → b = b'

theorem WR.of_get {P : Program} {m : Mp} {base : Nat} {h h' : H} {hp : Array Obj} (x : WR P m base h hp) (e : ∀ b, h'.get b = h.get b) : WR P m base h' hp :=
  ⟨fun b B hb => x.live b B (by rw [← e]; exact hb), fun b b' B B' d d' hb hb' => x.inj b b' B B' d d' (by rw [← e]; exact hb) (by rw [← e]; exact hb')⟩
theorem WR.lt {P : Program} {m : Mp} {base : Nat} {h : H} {hp : Array Obj} (x : WR P m base h hp) {b : Nat} {B : AB} (hb : h.get b = some B) : ∃ d, m b = some d ∧ d.blk < hp.size := by
  obtain ⟨d, cs, lo, hi, hm, hg, _⟩ := x.live b B hb
  exact ⟨d, hm, (Array.getElem?_eq_some_iff.1 hg).1⟩

/-- what a part leaves behind -/
structure Post (P : Program) (m : Mp) (base n n1 : Nat) (w : World) (h1 : H) (m' : Mp) (w' : World) : Prop where
  le : Le m m'
  out : ∀ b, ¬ (n ≤ b ∧ b < n1) → m' b = m b
  wr : WR P m' base h1 w'.heap
  below : Below base w w'
theorem Post.refl {P : Program} {m : Mp} {base n : Nat} {w : World} {h : H} (x : WR P m base h w.heap) : Post P m base n n w h m w :=
  ⟨Le.refl _, fun _ _ => rfl, x, Below.refl _ _⟩
theorem Post.trans {P : Program} {m m' m'' : Mp} {base n n1 n2 : Nat} {w w' w'' : World} {h1 h2 : H} (h01 : n ≤ n1) (h12 : n1 ≤ n2) (x : Post P m base n n1 w h1 m' w') (y : Post P m' base n1 n2 w' h2 m'' w'') : Post P m base n n2 w h2 m'' w'' :=
  ⟨x.le.trans y.le, fun b hb => (y.out b (by omega)).trans (x.out b (by omega)), y.wr, x.below.trans y.below⟩
def Fresh (m : Mp) (n n1 : Nat) : Prop := ∀ b, n ≤ b → b < n1 → m b = none
theorem Fresh.after {P : Program} {m m' : Mp} {base n n1 n2 : Nat} {w w' : World} {h1 : H} (f : Fresh m n n2) (hn : n ≤ n1) (x : Post P m base n n1 w h1 m' w') : Fresh m' n1 n2 :=
  fun b h1 h2 => by rw [x.out b (by omega)]; exact f b (by omega) h2
theorem Fresh.first {m : Mp} {n n1 n2 : Nat} (f : Fresh m n n2) (h : n1 ≤ n2) : Fresh m n n1 := fun b h1 h2 => f b h1 (by omega)

theorem add0 (b o i : Nat) : (⟨b, o, none⟩ : Addr).add i = ⟨b, o + i, none⟩ := by
  unfold Addr.add
  split
  · rename_i h; subst h; rfl
  · rfl
theorem cell_eq (w : World) (c o : Nat) {cs : Array Value} {e : TypeId} {f : Nat × Nat} (h : w.heap[c]? = some (.cells cs e f)) : w.cell? ⟨c, o, none⟩ = cs[o]? := by
  unfold World.cell?
  simp [h]

/-- reading -/
theorem rd_at {P : Program} {m : Mp} {base : Nat} {h h1 : H} {w : World} {b k n n1 : Nat} {v : Value} {L : List En} (x : WR P m base h w.heap) (hr : rd b k h n = some ⟨v, h1, n1, L⟩) :
    h1 = h ∧ n1 = n ∧ ∃ d v', m b = some d ∧ w.cell? ⟨d.blk, d.sh + k, none⟩ = some v' ∧ VR m v v' := by
  unfold rd at hr
  split at hr
  · split at hr
    · rename_i B hB
      split at hr
      · rename_i u hu
        simp only [Option.some.injEq, Out.mk.injEq] at hr
        obtain ⟨rfl, rfl, rfl, _⟩ := hr
        obtain ⟨d, cs, lo, hi, hm, hg, _, _, _, _, hc⟩ := x.live b B hB
        obtain ⟨v', hv', hr⟩ := hc k u hu
        exact ⟨rfl, rfl, d, v', hm, by rw [cell_eq w _ _ hg]; exact hv', hr⟩
      · cases hr
    · cases hr
  · cases hr
theorem rdN_at {P : Program} {m : Mp} {base : Nat} {h : H} {w : World} {b n : Nat} (x : WR P m base h w.heap) {d : Ds} (hd : m b = some d) : ∀ {c k n1 : Nat} {vs : List Value} {h1 : H} {L : List En}, rdN b k c h n = some ⟨vs, h1, n1, L⟩ →
    h1 = h ∧ n1 = n ∧ vs.length = c ∧ ∃ vs', VRs m vs vs' ∧ ∀ j v, vs'[j]? = some v → w.cell? ⟨d.blk, d.sh + k + j, none⟩ = some v := by
  intro c
  induction c with
  | zero =>
    intro k n1 vs h1 L hr
    simp only [rdN, M.ret, Option.some.injEq, Out.mk.injEq] at hr
    obtain ⟨rfl, rfl, rfl, _⟩ := hr
    exact ⟨rfl, rfl, rfl, [], .nil, fun j v hv => by simp at hv⟩
  | succ c ih =>
    intro k n1 vs h1 L hr
    obtain ⟨v, h2, n2, L1, L2, e2, e3, _⟩ := bind_some (m := rd b k) hr
    obtain ⟨rfl, rfl, d', v', hd', hc, hv⟩ := rd_at x e2
    rw [hd] at hd'
    cases hd'
    obtain ⟨ws, h4, n4, L3, L4, e4, e5, _⟩ := bind_some (m := rdN b (k + 1) c) e3
    obtain ⟨rfl, rfl, hl, vs', hvs, hcs⟩ := ih e4
    obtain ⟨rfl, rfl, rfl⟩ := ret_some e5
    refine ⟨rfl, rfl, by simp [hl], v' :: vs', .cons hv hvs, fun j u hu => ?_⟩
    cases j with
    | zero => simp at hu; subst hu; exact hc
    | succ j =>
      have := hcs j u (by simpa using hu)
      rw [show d.sh + k + (j + 1) = d.sh + (k + 1) + j by omega]
      exact this
theorem run_loadCells_of {P : Program} {w : World} {c o : Nat} {vs : List Value} (h : ∀ j v, vs[j]? = some v → w.cell? ⟨c, o + j, none⟩ = some v) : (loadCells ⟨c, o, none⟩ vs.length).run P w = .ok vs.toArray w := by
  have := run_loadCells_list (P := P) (w := w) ⟨c, o, none⟩ vs (fun j v hv => by rw [add0]; exact h j v hv)
  simpa using this

theorem hdr_at {P : Program} {m : Mp} {base : Nat} {h h1 : H} {w : World} {b n n1 : Nat} {e : TypeId} {L : List En} (x : WR P m base h w.heap) (hr : hdr b h n = some ⟨e, h1, n1, L⟩) :
    h1 = h ∧ n1 = n ∧ ∃ d, m b = some d ∧ size? P e = some d.esz ∧ ∃ B, h.get b = some B ∧ B.elem = e := by
  unfold hdr at hr
  split at hr
  · split at hr
    · rename_i B hB
      simp only [Option.some.injEq, Out.mk.injEq] at hr
      obtain ⟨rfl, rfl, rfl, _⟩ := hr
      obtain ⟨d, cs, lo, hi, hm, _, _, _, hs, _⟩ := x.live b B hB
      exact ⟨rfl, rfl, d, hm, hs, B, hB, rfl⟩
    · cases hr
  · cases hr
/-- writing one cell -/
theorem getElem?_modify_ne {α : Type} (a : Array α) (f : α → α) {i j : Nat} (h : i ≠ j) : (a.modify i f)[j]? = a[j]? := by
  rw [Array.getElem?_modify, if_neg h]
theorem wr_at {P : Program} {m : Mp} {base : Nat} {h h1 : H} {w : World} {b k n n1 : Nat} {v v' : Value} {L : List En} (x : WR P m base h w.heap) (hr : wr b k v h n = some ⟨(), h1, n1, L⟩) (hv : VR m v v') {d : Ds} (hd : m b = some d) :
    n1 = n ∧ (w.cell? ⟨d.blk, d.sh + k, none⟩).isSome = true ∧ w.frozen? ⟨d.blk, d.sh + k, none⟩ = false ∧ Ev.one v' = true ∧ base ≤ d.blk ∧ WR P m base h1 (w.setCell ⟨d.blk, d.sh + k, none⟩ v').heap := by
  unfold wr at hr
  split at hr
  · split at hr
    · rename_i B hB
      split at hr
      · rename_i hc
        simp only [Bool.and_eq_true, decide_eq_true_eq] at hc
        obtain ⟨⟨hown, hk⟩, hone⟩ := hc
        simp only [Option.some.injEq, Out.mk.injEq] at hr
        obtain ⟨_, rfl, rfl, _⟩ := hr
        obtain ⟨d0, cs, lo, hi, hm, hg, hsz, hlen, hesz, ho, hc⟩ := x.live b B hB
        rw [hd] at hm; cases hm
        obtain ⟨hel, hbase, hfr⟩ := ho hown
        have hlt : d.sh + k < cs.size := by omega
        have hset : (w.setCell ⟨d.blk, d.sh + k, none⟩ v').heap[d.blk]? = some (.cells (cs.setIfInBounds (d.sh + k) v') d.el (lo, hi)) := by
          simp only [World.setCell, Array.getElem?_modify, if_true, hg]
          simp
        refine ⟨rfl, by rw [cell_eq w _ _ hg]; simp [hlt], ?_, by rw [hv.one]; exact hone, hbase, ?_⟩
        · unfold World.frozen?
          simp only [hg]
          have := hfr (d.sh + k) (by omega)
          simp only [Bool.and_eq_false_iff, decide_eq_false_iff_not]
          omega
        · constructor
          · intro b2 B2 hb2
            rw [set_cell hB v b2 0] at hb2
            by_cases e : b2 = b
            · subst e
              rw [if_pos rfl] at hb2
              cases hb2
              refine ⟨d, _, lo, hi, hd, hset, by simpa using hsz, by simpa using hlen, hesz, fun _ => ⟨hel, hbase, hfr⟩, fun j u hu => ?_⟩
              by_cases e2 : k = j
              · subst e2
                simp [hk] at hu
                subst hu
                exact ⟨v', by simp [hlt], hv⟩
              · rw [List.getElem?_set_ne e2] at hu
                obtain ⟨u', hu', hr⟩ := hc j u hu
                exact ⟨u', by rw [Array.getElem?_setIfInBounds_ne (by omega)]; exact hu', hr⟩
            · rw [if_neg e] at hb2
              obtain ⟨d2, cs2, lo2, hi2, hm2, hg2, r⟩ := x.live b2 B2 hb2
              have hne : d.blk ≠ d2.blk := fun e3 => e (x.inj b2 b B2 B d2 d hb2 hB (.inr hown) hm2 hd e3.symm)
              refine ⟨d2, cs2, lo2, hi2, hm2, ?_, r⟩
              rw [Below.heap_setCell w _ _ _ (Ne.symm hne)]
              exact hg2
          · intro b2 b3 B2 B3 d2 d3 hb2 hb3 hoo
            have key : ∀ c C, (h.set b (some { B with cells := B.cells.set k v })).get c = some C → ∃ C', h.get c = some C' ∧ C'.own = C.own := by
              intro c C hcC
              rw [set_cell hB v c 0] at hcC
              by_cases e : c = b
              · subst e
                rw [if_pos rfl] at hcC
                cases hcC
                exact ⟨B, hB, rfl⟩
              · rw [if_neg e] at hcC; exact ⟨C, hcC, rfl⟩
            obtain ⟨C2, h2, g2⟩ := key b2 B2 hb2
            obtain ⟨C3, h3, g3⟩ := key b3 B3 hb3
            exact x.inj b2 b3 C2 C3 d2 d3 h2 h3 (by rw [g2, g3]; exact hoo)
      · cases hr
    · cases hr
  · cases hr
theorem run_store_one {P : Program} {α : Type} {w : World} {p : Addr} {v : Value} {k : Sem α} (h1 : (w.cell? p).isSome = true) (h2 : w.frozen? p = false) (h3 : Ev.one v = true) : (Sem.store .plain p v k).run P w = k.run P (w.setCell p v) := by
  obtain ⟨u, hu⟩ := Option.isSome_iff_exists.1 h1
  cases v <;> first | (simp [Ev.one] at h3; done) | simp [Sem.run, hu, h2]
theorem wrN_at {P : Program} {m : Mp} {base : Nat} {b : Nat} {d : Ds} (hd : m b = some d) : ∀ {vs vs' : List Value} (_ : VRs m vs vs') {k i n n1 : Nat} {h h1 : H} {w : World} {L : List En} (o : Nat), o + i = d.sh + k → WR P m base h w.heap → wrN b k vs h n = some ⟨(), h1, n1, L⟩ →
    n1 = n ∧ ∃ w', (storeCells ⟨d.blk, o, none⟩ vs' i).run P w = .ok () w' ∧ WR P m base h1 w'.heap ∧ Below base w w' := by
  intro vs vs' hvs
  induction hvs using VRs.rec (motive_1 := fun _ _ _ => True) with
  | nil =>
    intro k i n n1 h h1 w L o _ x hr
    simp only [wrN, M.ret, Option.some.injEq, Out.mk.injEq] at hr
    obtain ⟨_, rfl, rfl, _⟩ := hr
    exact ⟨rfl, w, rfl, x, Below.refl _ _⟩
  | cons hv _ _ ih =>
    intro k i n n1 h h1 w L o ho x hr
    obtain ⟨u, h2, n2, L1, L2, e2, e3, _⟩ := bind_some (m := wr b k _) hr
    cases u
    obtain ⟨rfl, c1, c2, c3, hb, x2⟩ := wr_at x e2 hv hd
    obtain ⟨rfl, w', hw', x3, hbl⟩ := ih (i := i + 1) o (by omega) x2 e3
    refine ⟨rfl, w', ?_, x3, ((Below.refl base w).setCell (p := ⟨d.blk, d.sh + k, none⟩) hb _).trans hbl⟩
    unfold storeCells
    rw [add0, ho]
    show (Sem.bind (store _ _) _).run P w = _
    unfold store
    simp only [Sem.bind]
    rw [run_store_one c1 c2 c3]
    exact hw'
  | _ => trivial

/-- a new block -/
theorem newB_at {P : Program} {m : Mp} {base : Nat} {h h1 : H} {w : World} {n n1 r : Nat} {e : TypeId} {cs : List Value} {L : List En} (x : WR P m base h w.heap) (hr : newB e cs h n = some ⟨r, h1, n1, L⟩) (hf : Fresh m n n1) (hbase : base ≤ w.heap.size)
    {cs' : Array Value} (hlen : cs.length ≤ cs'.size) (hcs : ∀ (k : Nat) (v : Value), cs[k]? = some v → ∃ v', cs'[k]? = some v' ∧ VR m v v') {esz : Nat} (he : size? P e = some esz) :
    r = n ∧ n1 = n + 1 ∧ ∃ m', m' n = some ⟨w.heap.size, 0, cs'.size, esz, e⟩ ∧ Post P m base n n1 w h1 m' (w.alloc (.cells cs' e)) := by
  unfold newB at hr
  split at hr
  · rename_i hn
    simp only [Option.some.injEq, Out.mk.injEq] at hr
    obtain ⟨rfl, rfl, rfl, _⟩ := hr
    have hn0 : m n = none := hf n (Nat.le_refl _) (by omega)
    have hle : Le m (fun b => if b = n then some ⟨w.heap.size, 0, cs'.size, esz, e⟩ else m b) := by
      intro b d hb
      by_cases e : b = n
      · subst e; rw [hn0] at hb; cases hb
      · simp [e, hb]
    refine ⟨rfl, rfl, fun b => if b = n then some ⟨w.heap.size, 0, cs'.size, esz, e⟩ else m b, by simp, hle, fun b hb => by rw [if_neg (by omega)], ?_, (Below.refl _ _).alloc hbase _⟩
    constructor
    · intro b B hb
      rw [H.get_set _ _] at hb
      by_cases eb : b = n
      · subst eb
        rw [if_pos rfl] at hb
        cases hb
        refine ⟨_, cs', 0, 0, if_pos rfl, ?_, rfl, by simpa using hlen, he, fun _ => ⟨rfl, hbase, fun k _ => by omega⟩, fun k v hk => ?_⟩
        · exact heap_alloc_new w _
        · obtain ⟨v', hv', hr⟩ := hcs k v hk
          exact ⟨v', by simpa using hv', hr.mono hle⟩
      · rw [if_neg eb] at hb
        obtain ⟨d, cs2, lo, hi, hm, hg, h1, h2, hsz, h3, h4⟩ := x.live b B hb
        refine ⟨d, cs2, lo, hi, by simp [eb, hm], ?_, h1, h2, hsz, h3, fun k v hk => ?_⟩
        · rw [Below.heap_alloc w _ _ (Array.getElem?_eq_some_iff.1 hg).1]; exact hg
        · obtain ⟨v', hv', hr⟩ := h4 k v hk
          exact ⟨v', hv', hr.mono hle⟩
    · intro b b' B B' d d' hb hb' hoo hm hm' he
      rw [H.get_set _ _] at hb hb'
      by_cases eb : b = n
      · by_cases eb' : b' = n
        · rw [eb, eb']
        · rw [if_neg eb'] at hb' hm'
          rw [if_pos eb] at hm
          obtain ⟨d2, h2, hlt⟩ := x.lt hb'
          rw [hm'] at h2
          cases h2; cases hm
          simp at he
          omega
      · rw [if_neg eb] at hb hm
        by_cases eb' : b' = n
        · rw [if_pos eb'] at hm'
          obtain ⟨d2, h2, hlt⟩ := x.lt hb
          rw [hm] at h2
          cases h2; cases hm'
          simp at he
          omega
        · rw [if_neg eb'] at hb' hm'
          exact x.inj b b' B B' d d' hb hb' hoo hm hm' he
  · cases hr
/-- a block is given up -/
theorem WR.kill {P : Program} {m : Mp} {base : Nat} {h : H} {hp : Array Obj} (x : WR P m base h hp) {b : Nat} {B : AB} (hB : h.get b = some B) : WR P m base (h.set b none) hp := by
  have key : ∀ c C, (h.set b none).get c = some C → c ≠ b ∧ h.get c = some C := by
    intro c C hc
    rw [H.get_set _ _] at hc
    by_cases e : c = b
    · rw [if_pos e] at hc; cases hc
    · rw [if_neg e] at hc; exact ⟨e, hc⟩
  exact ⟨fun c C hc => x.live c C (key c C hc).2, fun c c' C C' d d' hc hc' => x.inj c c' C C' d d' (key c C hc).2 (key c' C' hc').2⟩

end Go.Proofs.YtmjolmggelkjlaaGreat.Ev

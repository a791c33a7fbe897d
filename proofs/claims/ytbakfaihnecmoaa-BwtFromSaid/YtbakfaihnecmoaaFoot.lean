/- What is left of the memory when a set of blocks may have been written; rows of natural numbers that are known whole. No program in sight. -/
import Derived.Test.YtbakfaihnecmoaaGrew
namespace Go.Proofs.Ytbakfaihnecmoaa
set_option linter.unusedVariables false
set_option linter.unusedSimpArgs false
open Go.RowKit

/-- every block that was there, but for those of F, is as it was -/
structure Keeps (F : Nat → Prop) (a b : World) : Prop where
  os : b.os = a.os
  tape : b.tape = a.tape
  output : b.output = a.output
  size : a.heap.size ≤ b.heap.size
  block : ∀ i, i < a.heap.size → ¬ F i → b.heap[i]? = a.heap[i]?

section
variable {F G : Nat → Prop} {a b c : World}
theorem Keeps.refl (F : Nat → Prop) (a : World) : Keeps F a a := ⟨rfl, rfl, rfl, Nat.le_refl _, fun _ _ _ => rfl⟩
theorem Keeps.of_below (h : Below a.heap.size a b) : Keeps F a b := ⟨h.os, h.tape, h.output, h.size, fun i hi _ => h.block i hi⟩
theorem Keeps.trans (h : Keeps F a b) (k : Keeps G b c) (hs : ∀ i, i < a.heap.size → G i → F i) : Keeps F a c :=
  ⟨k.os.trans h.os, k.tape.trans h.tape, k.output.trans h.output, Nat.le_trans h.size k.size, fun i hi hn => (k.block i (Nat.lt_of_lt_of_le hi h.size) (fun hg => hn (hs i hi hg))).trans (h.block i hi hn)⟩
theorem Keeps.mono (h : Keeps F a b) (hs : ∀ i, i < a.heap.size → F i → G i) : Keeps G a b := ⟨h.os, h.tape, h.output, h.size, fun i hi hn => h.block i hi (fun hf => hn (hs i hi hf))⟩
theorem Keeps.below (h : Keeps F a b) {B : Nat} (hB : B ≤ a.heap.size) (hF : ∀ i, F i → B ≤ i) : Below B a b := ⟨h.os, h.tape, h.output, h.size, fun i hi => h.block i (Nat.lt_of_lt_of_le hi hB) (fun hf => by have := hF i hf; omega)⟩
theorem Keeps.alloc (h : Keeps F a b) (o : Obj) : Keeps F a (b.alloc o) := h.trans (Keeps.of_below (F := F) (ka (kr _) o)) fun _ _ h => h
theorem Keeps.drewN (h : Keeps F a b) (n : Nat) : Keeps F a (b.drewN n) := h.trans (Keeps.of_below (F := F) (kd (kr _) n)) fun _ _ h => h
theorem Keeps.then (h : Keeps F a b) (k : Below b.heap.size b c) : Keeps F a c := h.trans (Keeps.of_below (F := F) k) fun _ _ h => h
theorem Keeps.set (h : Keeps F a b) {p : Addr} (hp : a.heap.size ≤ p.block ∨ F p.block) (u : Value) : Keeps F a (b.setCell p u) :=
  ⟨h.os, h.tape, h.output, by have := h.size; simpa [World.setCell] using this, fun i hi hn => (Below.heap_setCell b p u i (by rintro rfl; rcases hp with h1 | h1; omega; exact hn h1)).trans (h.block i hi hn)⟩
theorem Blk.keeps {g : Nat} {t : TypeId} {cs : Array Value} (h : Blk a g t cs) (k : Keeps F a b) (hn : ¬ F g) : Blk b g t cs := (k.block g h.lt hn).trans h
theorem NumsAt.keeps {k : IntKind} {A : Option Addr} {xs : List Int} (h : NumsAt k a A xs) (hk : Keeps F a b) (hn : ∀ p : Addr, A = Option.some p → 0 < xs.length → ¬ F p.block) : NumsAt k b A xs := fun j hj => by
  obtain ⟨p, off, e, hc⟩ := h j hj
  refine ⟨p, off, e, ?_⟩
  exact (World.cell?_of_block (w := a) (hk.block p (World.block_lt_of_cell? a _ hc) (hn _ e (by omega)))).trans hc
end

/-! rows of natural numbers -/
def natRow (xs : List Nat) : Array Value := (xs.map fun (v : Nat) => Value.int .i64 v).toArray
theorem natRow_set (xs : List Nat) (i v : Nat) : (natRow xs).setIfInBounds i (.int .i64 v) = natRow (xs.set i v) := by
  unfold natRow
  simp [List.map_set]
theorem natRow_at {w : World} {g : Nat} {t : TypeId} {xs : List Nat} (h : Blk w g t (natRow xs)) {i : Nat} (hi : i < xs.length) : w.cell? ⟨g, i, none⟩ = some (.int .i64 (xs.getD i 0 : Nat)) := by
  rw [h.cell i]
  simp [natRow, hi]
theorem Blk.ne {w : World} {g g' : Nat} {t t' : TypeId} {cs cs' : Array Value} (h : Blk w g t cs) (h' : Blk w g' t' cs') (hne : t ≠ t') : g ≠ g' := by
  rintro rfl
  unfold Blk at h h'
  rw [h] at h'
  cases h'
  exact hne rfl
theorem Blk.keepsOne {w w' : World} {g g' : Nat} {t : TypeId} {cs : Array Value} (h : Blk w g t cs) (k : Keeps (fun i => i = g') w w') (hn : g ≠ g') : Blk w' g t cs := h.keeps k hn
theorem owns_keeps {F : Nat → Prop} {w w' : World} {base : Nat} {e : TypeId} {size : Nat} {v : Value} {n : Nat} {xs : List Value} (h : w.ownsRow base e size v n xs) (hb : Keeps F w w') (hn : ∀ b, v.ownBlock = some b → ¬ F b) : w'.ownsRow base e size v n xs := by
  refine ⟨h.1, ?_⟩
  rcases h.2 with hn' | ⟨g, cap, cur, rfl, hbg, hgg, rest⟩
  · exact .inl hn'
  · refine .inr ⟨g, cap, cur, rfl, hbg, ?_, rest⟩
    rw [hb.block g (Array.getElem?_eq_some_iff.1 hgg).1 (hn g rfl)]
    exact hgg
theorem owns_ne {w : World} {base : Nat} {e : TypeId} {size : Nat} {v : Value} {n : Nat} {xs : List Value} (h : w.ownsRow base e size v n xs) {g : Nat} {t : TypeId} {cs : Array Value} (hb : Blk w g t cs) (hne : e ≠ t) : v.ownBlock ≠ some g := by
  rcases h.2 with ⟨rfl, _⟩ | ⟨g', cap, cur, rfl, _, hh, _⟩
  · simp [Value.ownBlock]
  · intro he
    have : g' = g := by simpa [Value.ownBlock] using he
    subst this
    unfold Blk at hb
    rw [hb] at hh
    cases hh
    exact hne rfl
/-- the last element is taken off an owned row -/
theorem owns_pop {w : World} {base : Nat} {e : TypeId} {size : Nat} {a : Option Addr} {n m cap : Nat} {xs ys : List Value} (h : w.ownsRow base e size (.slice a n cap) n xs) (hm : m ≤ n) (hy : ys = xs.take (m * size)) (ha : a ≠ none) : w.ownsRow base e size (.slice a m cap) m ys := by
  have hx := h.1
  refine ⟨by rw [hy, List.length_take, hx, Nat.min_eq_left (Nat.mul_le_mul_right _ hm)], ?_⟩
  rcases h.2 with ⟨h1, _⟩ | ⟨g, cap', cur, h1, hbg, hgg, h2, h3, h4, h5⟩
  · cases h1; exact absurd rfl ha
  · cases h1
    refine .inr ⟨g, cap, cur, rfl, hbg, hgg, by omega, h3, h4, ?_⟩
    rw [hy, ← h5, List.take_take, Nat.min_eq_left (Nat.mul_le_mul_right _ hm)]
end Go.Proofs.Ytbakfaihnecmoaa

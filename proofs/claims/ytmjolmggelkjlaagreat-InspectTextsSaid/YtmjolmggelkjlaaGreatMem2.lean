/- Appending a slice of numbers to one that the call has made; a block that is known whole; what is left when one block may have been written. No program in sight. -/
import Derived.Test.YtmjolmggelkjlaaGreatMem
namespace Go.Proofs.YtmjolmggelkjlaaGreat
set_option linter.unusedVariables false
set_option linter.unusedSimpArgs false
open Go.RowKit

theorem add_plain (b off j : Nat) : (⟨b, off, none⟩ : Addr).add j = ⟨b, off + j, none⟩ := by unfold Addr.add; split <;> simp_all

/-- 'xs = append(xs, ys...)' -/
theorem run_app_nums {P : Program} (w : World) {t ty e : TypeId} {k : IntKind} {bytes : Nat} (ht : P.underlying t = some (.slice e)) (hinfo : (P.info? e).map (fun i => (i.zero, i.size, i.bytes)) = some (some (.int k 0), 1, bytes))
    {base : Nat} {v : Value} {xs : List Int} {A : Option Addr} {c : Nat} {ys : List Int} (hown : OwnsNums k e base w v xs) (hr : NumsAt k w A ys)
    (hby : bytes ≤ 64) (hlen : xs.length + ys.length ≤ 1099511627776) (hbase : base ≤ w.heap.size) :
    ∃ v' w', (Builtin.append_ #[t, t] ty #[v, .slice A ys.length c]).run P w = .ok v' w' ∧ OwnsNums k e base w' v' (xs ++ ys) ∧ Below base w w' := by
  obtain ⟨i0, hi, hz0, hz1, hz2⟩ := info_parts hinfo
  have hm : (xs.length + ys.length) * bytes ≤ 140737488355328 := Nat.le_trans (Nat.mul_le_mul hlen hby) (by decide)
  rcases A with _ | ad
  · have h0 : ys = [] := by
      cases ys with
      | nil => rfl
      | cons y l => obtain ⟨b, off, h, _⟩ := hr 0 (by simp); cases h
    subst h0
    refine ⟨v, w, ?_, by simpa using hown, Below.refl _ _⟩
    rcases hown.2 with ⟨rfl, hx⟩ | ⟨g, cap, cur, rfl, _, _, hnc, _⟩
    · simp [Builtin.append_, run_underlying ht, sizeOf, typeInfo, hi, Builtin.lenOf, Builtin.firstCells]
    · simp [Builtin.append_, run_underlying ht, sizeOf, typeInfo, hi, Builtin.lenOf, Builtin.firstCells, hnc, storeCells]
  · have hcells : ∀ j u, (ys.map (Value.int k))[j]? = some u → w.cell? (ad.add j) = some u := by
      intro j u hu
      have hj : j < ys.length := by
        have := (List.getElem?_eq_some_iff.1 hu).1; simpa using this
      obtain ⟨b, off, h, hc⟩ := hr j hj
      cases h
      rw [add_plain, hc]
      rw [List.getElem?_map, List.getElem?_eq_getElem hj] at hu
      simpa [List.getD_eq_getElem?_getD, hj] using hu
    obtain ⟨v', w', hrun, h2, h3, _⟩ := run_append_own (P := P) w base t ty e i0 (.int k 0) 1 bytes ht hi hz0 hz1 hz2 rfl (by decide) v xs.length (xs.map (Value.int k)) hown ad ys.length c (ys.map (Value.int k)) (by simp) hcells
      (fun u hu => by obtain ⟨n, _, rfl⟩ := List.mem_map.1 hu; rfl) (by unfold maxLen; omega) hm hbase
    refine ⟨v', w', hrun, ?_, below_of_grown hown hbase h3⟩
    unfold OwnsNums
    simpa using h2

theorem app_nums {P : Program} {w : World} {ops : Array Oper} {rest : List Oper} {o : Oper} {a : Act} {Q : Exit → Act → World → Prop} (hgd : o.guard = none) (s x : Operand) (t e : TypeId)
    (ho : o.op = .call { callee := .builtin .append, args := #[s, x], argTypes := #[t, t] }) {k : IntKind} {bytes : Nat} (ht : P.underlying t = some (.slice e)) (hinfo : (P.info? e).map (fun i => (i.zero, i.size, i.bytes)) = some (some (.int k 0), 1, bytes))
    {base : Nat} {v : Value} {xs : List Int} {A : Option Addr} {c : Nat} {ys : List Int} (hown : OwnsNums k e base w v xs) (hr : NumsAt k w A ys) (hs : a.eval s = v) (hx : a.eval x = .slice A ys.length c)
    (hby : bytes ≤ 64) (hlen : xs.length + ys.length ≤ 1099511627776) (hbase : base ≤ w.heap.size)
    (h : ∀ v' w', OwnsNums k e base w' v' (xs ++ ys) → Below base w w' → wpList P ops Q rest (a.put o.dst v') w') : wpList P ops Q (o :: rest) a w := by
  refine wpList_plain hgd fun K hK => ?_
  obtain ⟨v', w', hrun, h2, h3⟩ := run_app_nums (P := P) w (ty := o.type) (c := c) ht hinfo hown hr hby hlen hbase
  unfold Oper.wp execOp
  simp only [ho, resolve, invoke, builtin, Sem.run_bind, Sem.run_pure, Result.andThen_ok, List.map_toArray, List.map_cons, List.map_nil, hs, hx, hrun]
  exact hK _ _ (h v' w' h2 h3)

/-! a block that is known whole -/
def Blk (w : World) (g : Nat) (t : TypeId) (cs : Array Value) : Prop := w.heap[g]? = some (.cells cs t (0, 0))
section
variable {w w' : World} {g : Nat} {t : TypeId} {cs : Array Value}
theorem Blk.lt (h : Blk w g t cs) : g < w.heap.size := (Array.getElem?_eq_some_iff.1 h).1
theorem Blk.cell (h : Blk w g t cs) (i : Nat) : w.cell? ⟨g, i, none⟩ = cs[i]? := cell_of_row w g i cs t (0, 0) h
theorem Blk.free (h : Blk w g t cs) (i : Nat) : w.frozen? ⟨g, i, none⟩ = false := by
  unfold Blk at h
  simp [World.frozen?, h]
theorem Blk.new (w : World) (t : TypeId) (cs : Array Value) : Blk (w.alloc (.cells cs t)) w.heap.size t cs := heap_alloc_new w _
theorem Blk.drewN (h : Blk w g t cs) (n : Nat) : Blk (w.drewN n) g t cs := h
theorem Blk.alloc (h : Blk w g t cs) (o : Obj) : Blk (w.alloc o) g t cs := (Below.heap_alloc w o g h.lt).trans h
theorem Blk.put (h : Blk w g t cs) (i : Nat) (u : Value) : Blk (w.setCell ⟨g, i, none⟩ u) g t (cs.setIfInBounds i u) := by
  unfold Blk at h ⊢
  simp [World.setCell, Array.getElem?_modify, h]
theorem Blk.far (h : Blk w g t cs) {p : Addr} (hp : g ≠ p.block) (u : Value) : Blk (w.setCell p u) g t cs := (Below.heap_setCell w p u g hp).trans h
theorem Blk.below {B : Nat} (h : Blk w g t cs) (hb : Below B w w') (hg : g < B) : Blk w' g t cs := (hb.block g hg).trans h
theorem Blk.kept (h : Blk w g t cs) (hb : Below w.heap.size w w') : Blk w' g t cs := h.below hb h.lt
end

/-! one block may have been written, and new ones made: 'only' -/
def Only (g : Nat) (a w : World) : Prop := a.grownBy w (some g)
section
variable {a b c : World} {g : Nat}
theorem Only.refl (g : Nat) (a : World) : Only g a a := ⟨rfl, rfl, rfl, Nat.le_refl _, fun _ _ _ => rfl⟩
theorem Only.of_below (h : Below a.heap.size a b) : Only g a b := ⟨h.os, h.tape, h.output, h.size, fun i hi _ => h.block i hi⟩
theorem Only.size (h : Only g a b) : a.heap.size ≤ b.heap.size := World.grownBy.size h
theorem Only.trans (h : Only g a b) (k : Only g b c) : Only g a c :=
  ⟨k.os.trans h.os, k.tape.trans h.tape, k.output.trans h.output, Nat.le_trans (World.grownBy.size h) (World.grownBy.size k), fun i hi hn => (k.block i (Nat.lt_of_lt_of_le hi (World.grownBy.size h)) hn).trans (h.block i hi hn)⟩
theorem Only.below (h : Only g a b) (k : Below b.heap.size b c) : Only g a c := h.trans (.of_below k)
theorem Only.drewN (h : Only g a b) (n : Nat) : Only g a (b.drewN n) := ⟨h.os, h.tape, h.output, h.size, h.block⟩
theorem Only.alloc (h : Only g a b) (o : Obj) : Only g a (b.alloc o) := h.below ((Below.refl _ _).alloc (Nat.le_refl _) o)
theorem Only.set (h : Only g a b) (i : Nat) (u : Value) : Only g a (b.setCell ⟨g, i, none⟩ u) :=
  ⟨h.os, h.tape, h.output, by simpa [World.setCell] using h.size, fun i hi hne => (Below.heap_setCell b _ u i (by rintro rfl; exact hne rfl)).trans (h.block i hi hne)⟩
/-- the block that was written is one of the call's own: nothing that was there has changed -/
theorem Only.gone {B : Nat} {w : World} (h : Only g a b) (hB : Below B w a) (hg : B ≤ g) (hs : B ≤ a.heap.size) : Below B w b :=
  hB.trans ⟨h.os, h.tape, h.output, h.size, fun k hk => h.block k (by omega) (by intro e; cases e; omega)⟩
theorem Only.blk {g' : Nat} {t : TypeId} {cs : Array Value} (h : Only g a b) (hb : Blk a g' t cs) (hne : g' ≠ g) : Blk b g' t cs := (h.block g' hb.lt (by intro e; cases e; exact hne rfl)).trans hb
theorem Only.nums {k : IntKind} {A : Option Addr} {xs : List Int} (h : Only g a b) (hr : NumsAt k a A xs) (hne : ∀ p, A = some p → p.block ≠ g) : NumsAt k b A xs := fun j hj => by
  obtain ⟨p, off, e, hc⟩ := hr j hj
  refine ⟨p, off, e, ?_⟩
  have hp := World.block_lt_of_cell? a _ hc
  exact (World.cell?_of_block (w := a) (h.block p hp (by intro e'; cases e'; exact hne _ e rfl))).trans hc
end

end Go.Proofs.YtmjolmggelkjlaaGreat

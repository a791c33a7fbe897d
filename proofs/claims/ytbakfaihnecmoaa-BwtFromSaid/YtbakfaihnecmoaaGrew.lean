/- Appending, and what else stays: other blocks of other types, other slices of numbers. No program in sight. -/
import Derived.Test.YtbakfaihnecmoaaQ
import Derived.Maps.AppendAt
namespace Go.Proofs.Ytbakfaihnecmoaa
set_option linter.unusedVariables false
set_option linter.unusedSimpArgs false
open Go.RowKit

/-- w' is w with new blocks and with writes to v's own block alone; v' lies where v lay, or in a new block -/
structure Grew (w : World) (v : Value) (w' : World) (v' : Value) : Prop where
  grown : w.grownBy w' v.ownBlock
  own : v'.ownBlock = v.ownBlock ∨ ∃ b, v'.ownBlock = some b ∧ w.heap.size ≤ b

/-- v's own block is not where the slice lies -/
def Apart (v : Value) (A : Option Addr) (ys : List Int) : Prop := ∀ p, A = some p → 0 < ys.length → v.ownBlock ≠ some p.block

section
variable {k : IntKind} {e : TypeId} {base : Nat} {w w' : World} {v v' : Value} {xs : List Int}
theorem Grew.size (h : Grew w v w' v') : w.heap.size ≤ w'.heap.size := h.grown.size
theorem Grew.below (h : Grew w v w' v') (hown : OwnsNums k e base w v xs) (hb : base ≤ w.heap.size) : Below base w w' := below_of_grown hown hb h.grown
theorem Grew.blk (h : Grew w v w' v') (hown : OwnsNums k e base w v xs) {g : Nat} {t : TypeId} {cs : Array Value} (hb : Blk w g t cs) (hne : e ≠ t) : Blk w' g t cs := by
  refine (h.grown.block g hb.lt ?_).trans hb
  rcases hown.2 with ⟨rfl, _⟩ | ⟨g', cap, cur, rfl, _, hh, _⟩
  · simp [Value.ownBlock]
  · intro he
    have hg : g = g' := by simpa [Value.ownBlock] using he
    subst hg
    unfold Blk at hb
    rw [hb] at hh
    cases hh
    exact hne rfl
theorem Grew.nums (h : Grew w v w' v') {k' : IntKind} {A : Option Addr} {ys : List Int} (hr : NumsAt k' w A ys) (ha : Apart v A ys) : NumsAt k' w' A ys ∧ Apart v' A ys := by
  constructor
  · intro j hj
    obtain ⟨b, off, e', hc⟩ := hr j hj
    refine ⟨b, off, e', ?_⟩
    exact (World.cell?_of_block (w := w) (h.grown.block b (World.block_lt_of_cell? w _ hc) (fun e2 => ha _ e' (by omega) e2.symm))).trans hc
  · intro p hp hy
    obtain ⟨b, off, e', hc⟩ := hr 0 hy
    rw [hp] at e'
    cases e'
    have hlt : b < w.heap.size := World.block_lt_of_cell? w _ hc
    rcases h.own with h2 | ⟨b', h2, h3⟩
    · rw [h2]; exact ha _ hp hy
    · rw [h2]; intro h4; simp at h4; omega
theorem OwnsNums.own_lt (h : OwnsNums k e base w v xs) {b : Nat} (hb : v.ownBlock = some b) : b < w.heap.size := (World.ownsRow.lt h b hb).2
/-- a slice that a call has just made, or the one that was there -/
theorem Apart.fresh {A A' : Option Addr} {ys ys' : List Int} (h : OwnsNums k e base w v xs) (ha : Apart v A ys) (hf : ∀ p, A' = some p → A = some p ∧ ys' = ys ∨ w.heap.size ≤ p.block) : Apart v A' ys' := by
  intro p hp h0 he
  have hlt := h.own_lt he
  rcases hf p hp with ⟨h1, h2⟩ | h1
  · subst h2; exact ha p h1 h0 he
  · omega
end

theorem app_new1g {P : Program} {w : World} {ops : Array Oper} {rest : List Oper} {o : Oper} {a : Act} {Q : Exit → Act → World → Prop} (hgd : o.guard = none) (s x : Operand) (t e : TypeId)
    (ho : o.op = .call { callee := .builtin .append, args := #[s, x], argTypes := #[t, t] }) {k : IntKind} {bytes : Nat} (ht : P.underlying t = some (.slice e)) (hinfo : (P.info? e).map (fun i => (i.zero, i.size, i.bytes)) = some (some (.int k 0), 1, bytes))
    {base : Nat} {v : Value} {xs : List Int} {y : Int} (hown : OwnsNums k e base w v xs) (hs : a.eval s = v) (hx : a.eval x = .slice (some ⟨w.heap.size, 0, none⟩) 1 1)
    (hby : bytes ≤ 64) (hlen : xs.length ≤ 1099511627776) (hbase : base ≤ w.heap.size)
    (h : ∀ v' w', OwnsNums k e base w' v' (xs ++ [y]) → Grew w v w' v' → wpList P ops Q rest (a.put o.dst v') w') : wpList P ops Q (o :: rest) a (w.alloc (.cells #[.int k y] e)) := by
  obtain ⟨i0, hi, hz0, hz1, hz2⟩ := info_parts hinfo
  have hm : (xs.length + 1) * bytes ≤ 140737488355328 := Nat.le_trans (Nat.mul_le_mul (show xs.length + 1 ≤ 1099511627777 by omega) hby) (by decide)
  refine wpList_plain hgd fun K hK => ?_
  obtain ⟨v', w', hrun, h2, h3, _, h5⟩ := run_append_own_at (P := P) (w.alloc (.cells #[.int k y] e)) base t o.type e i0 (.int k 0) 1 bytes ht hi hz0 hz1 hz2 rfl (by decide) v xs.length (xs.map (Value.int k)) (World.ownsRow.alloc hown _) ⟨w.heap.size, 0, none⟩ 1 1 [.int k y] rfl (cell_one_new _ _ _)
    (fun u hu => by simp at hu; subst hu; rfl) (by unfold maxLen; omega) hm (by simp; omega)
  unfold Oper.wp execOp
  simp only [ho, resolve, invoke, builtin, Sem.run_bind, Sem.run_pure, Result.andThen_ok, List.map_toArray, List.map_cons, List.map_nil, hs, hx, hrun]
  refine hK _ _ (h v' w' (by unfold OwnsNums; simpa using h2) ⟨?_, ?_⟩)
  · exact (World.grownBy_alloc w _ v.ownBlock).trans h3
  · rcases h5 with h5 | h5
    · exact .inl h5
    · exact .inr ⟨_, h5, by simp⟩

end Go.Proofs.Ytbakfaihnecmoaa

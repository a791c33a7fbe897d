/- Readings of slices of numbers in a world, and how they last; no program in sight. -/
import Derived.WalkKit
import Derived.WalkSpells
import Derived.WalkLawsBesides
import Derived.Lib.Hide
namespace Go.Proofs.YtmjolmggelkjlaaGreat
set_option linter.unusedVariables false
set_option linter.unusedSimpArgs false
open Go.RowKit

theorem ret_int {k : IntKind} {a b : Int} (h : a = b) : Ending.returned (.int k a) = .returned (.int k b) := by rw [h]
theorem ret_bool {a b : Bool} (h : a = b) : Ending.returned (.bool a) = .returned (.bool b) := by rw [h]

theorem natCast_beq (a b : Nat) : ((a : Int) == (b : Int)) = (a == b) := by
  rw [Bool.eq_iff_iff]; simp only [beq_iff_eq]; omega
theorem size_list (s : ByteArray) : s.data.toList.length = s.size := by rw [Array.length_toList]; rfl
theorem empty_of (s : ByteArray) (h : s.size = 0) : s.toList.isEmpty = true := by
  rw [ByteArray.toList_eq, List.isEmpty_iff_length_eq_zero, size_list]; exact h
theorem nonempty_of (s : ByteArray) (h : 1 ≤ s.size) : s.toList.isEmpty = false := by
  rw [ByteArray.toList_eq]
  have hl := size_list s
  cases hh : s.data.toList with
  | nil => rw [hh] at hl; simp at hl; omega
  | cons a b => rfl

/-- the numbers of a slice that begins at a -/
def NumsAt (k : IntKind) (w : World) (a : Option Addr) (xs : List Int) : Prop :=
  ∀ j, j < xs.length → ∃ b off, a = some ⟨b, off, none⟩ ∧ w.cell? ⟨b, off + j, none⟩ = some (.int k (xs.getD j 0))

theorem NumsAt.nil (k : IntKind) (w : World) (a : Option Addr) : NumsAt k w a [] := fun j h => absurd h (Nat.not_lt_zero _)

theorem cell_below {w w' : World} {p : Addr} {v : Value} (h : w.cell? p = some v) (hb : Below w.heap.size w w') : w'.cell? p = some v :=
  (hb.cell (World.block_lt_of_cell? w p h)).trans h

theorem NumsAt.below {k : IntKind} {w w' : World} {a : Option Addr} {xs : List Int} (h : NumsAt k w a xs) (hb : Below w.heap.size w w') : NumsAt k w' a xs :=
  fun j hj => let ⟨b, off, ha, hc⟩ := h j hj; ⟨b, off, ha, cell_below hc hb⟩

/-- of a slice that is not empty: where it lies -/
theorem NumsAt.some {k : IntKind} {w : World} {a : Option Addr} {xs : List Int} (h : NumsAt k w a xs) (h0 : 0 < xs.length) :
    ∃ b off, a = .some ⟨b, off, none⟩ ∧ ∀ j, j < xs.length → w.cell? ⟨b, off + j, none⟩ = .some (.int k (xs.getD j 0)) := by
  obtain ⟨b, off, ha, hc⟩ := h 0 h0
  refine ⟨b, off, ha, fun j hj => ?_⟩
  obtain ⟨b', off', ha', hc'⟩ := h j hj
  rw [ha] at ha'
  cases ha'
  exact hc'

/-- what the call owns it reads -/
theorem NumsAt.of_owns {k : IntKind} {w : World} {base : Nat} {e : TypeId} {v : Value} {n : Nat} {xs : List Int}
    (h : w.ownsRow base e 1 v n (xs.map (Value.int k))) : n = xs.length ∧ ∃ a cap, v = .slice a xs.length cap ∧ NumsAt k w a xs := by
  have hn : n = xs.length := by have := h.1; simpa using this.symm
  subst hn
  refine ⟨rfl, ?_⟩
  rcases h.2 with ⟨rfl, hx⟩ | ⟨g, cap, cur, rfl, hb, hg, hnc, hcm, hcs, htake⟩
  · have : xs = [] := by simpa using hx
    subst this
    exact ⟨.none, 0, rfl, NumsAt.nil _ _ _⟩
  · refine ⟨_, cap, rfl, fun j hj => ⟨g, 0, rfl, ?_⟩⟩
    have hc := World.ownsRow.cells h (g := g) rfl j (.int k (xs.getD j 0)) (by rw [List.getElem?_map, List.getElem?_eq_getElem hj]; simp [List.getD_eq_getElem?_getD, hj])
    have hadd : (⟨g, 0, none⟩ : Addr).add j = ⟨g, 0 + j, none⟩ := by unfold Addr.add; split <;> simp_all
    rw [hadd] at hc
    exact hc

/-- a block that has just been laid -/
theorem NumsAt.new (k : IntKind) (w : World) (cs : Array Value) (e : TypeId) (xs : List Int) (h : cs = (xs.map (Value.int k)).toArray) : NumsAt k (w.alloc (.cells cs e)) (.some ⟨w.heap.size, 0, none⟩) xs := by
  subst h
  refine fun j hj => ⟨w.heap.size, 0, rfl, ?_⟩
  rw [cell_of_row _ w.heap.size (0 + j) _ e (0, 0) (heap_alloc_new w _)]
  simp [hj]

/-! what a call leaves of the memory that was there, step by step -/
theorem kt {a b c : World} (h : Below a.heap.size a b) (k : Below b.heap.size b c) : Below a.heap.size a c := h.trans (k.mono h.size)
theorem ka {a b : World} (h : Below a.heap.size a b) (o : Obj) : Below a.heap.size a (b.alloc o) := h.alloc h.size o
theorem kd {a b : World} (h : Below a.heap.size a b) (n : Nat) : Below a.heap.size a (b.drewN n) := below_drewN h n
theorem kr (a : World) : Below a.heap.size a a := Below.refl _ _

/-! slices of numbers that the call itself makes and appends to -/
def OwnsNums (k : IntKind) (e : TypeId) (base : Nat) (w : World) (v : Value) (xs : List Int) : Prop := w.ownsRow base e 1 v xs.length (xs.map (Value.int k))
theorem OwnsNums.nil (k : IntKind) (e : TypeId) (base : Nat) (w : World) : OwnsNums k e base w (.slice none 0 0) [] := World.ownsRow_nil _ _ _ _
theorem OwnsNums.reads {k : IntKind} {e : TypeId} {base : Nat} {w : World} {v : Value} {xs : List Int} (h : OwnsNums k e base w v xs) : ∃ a cap, v = .slice a xs.length cap ∧ NumsAt k w a xs :=
  (NumsAt.of_owns h).2
theorem owns_below {w w' : World} {base B : Nat} {e : TypeId} {size : Nat} {v : Value} {n : Nat} {xs : List Value} (h : w.ownsRow base e size v n xs) (hb : Below B w w') (hB : w.heap.size ≤ B) : w'.ownsRow base e size v n xs := by
  refine ⟨h.1, ?_⟩
  rcases h.2 with hn | ⟨g, cap, cur, rfl, hbg, hgg, rest⟩
  · exact .inl hn
  · refine .inr ⟨g, cap, cur, rfl, hbg, ?_, rest⟩
    rw [hb.block g (Nat.lt_of_lt_of_le (Array.getElem?_eq_some_iff.1 hgg).1 hB)]
    exact hgg
theorem OwnsNums.below {k : IntKind} {e : TypeId} {base : Nat} {w w' : World} {v : Value} {xs : List Int} (h : OwnsNums k e base w v xs) (hb : Below w.heap.size w w') : OwnsNums k e base w' v xs :=
  owns_below h hb (Nat.le_refl _)
theorem below_of_grown {w w' : World} {base : Nat} {e : TypeId} {size : Nat} {v : Value} {n : Nat} {xs : List Value} (hown : w.ownsRow base e size v n xs) (hbase : base ≤ w.heap.size) (hg : w.grownBy w' v.ownBlock) : Below base w w' :=
  (Below.refl base w).grown hg hbase (fun k hk => (hown.lt k hk).1)
theorem cell_new1 (w : World) (y : Value) (e : TypeId) : (w.alloc (.cells #[y] e)).cell? ⟨w.heap.size, 0, none⟩ = some y := by
  rw [cell_of_row _ w.heap.size 0 _ e (0, 0) (heap_alloc_new w _)]; rfl

/-- 'xs = append(xs, y)': one number, out of a block of one cell that has just been laid -/
theorem app_new1 {P : Program} {w : World} {ops : Array Oper} {rest : List Oper} {o : Oper} {a : Act} {Q : Exit → Act → World → Prop} (hgd : o.guard = none) (s x : Operand) (t e : TypeId)
    (ho : o.op = .call { callee := .builtin .append, args := #[s, x], argTypes := #[t, t] }) {k : IntKind} {bytes : Nat} (ht : P.underlying t = some (.slice e)) (hinfo : (P.info? e).map (fun i => (i.zero, i.size, i.bytes)) = some (some (.int k 0), 1, bytes))
    {base : Nat} {v : Value} {xs : List Int} {y : Int} (hown : OwnsNums k e base w v xs) (hs : a.eval s = v) (hx : a.eval x = .slice (some ⟨w.heap.size, 0, none⟩) 1 1)
    (hby : bytes ≤ 64) (hlen : xs.length ≤ 1099511627776) (hbase : base ≤ w.heap.size)
    (h : ∀ v' w', OwnsNums k e base w' v' (xs ++ [y]) → Below base w w' → wpList P ops Q rest (a.put o.dst v') w') : wpList P ops Q (o :: rest) a (w.alloc (.cells #[.int k y] e)) := by
  obtain ⟨i0, hi, hz0, hz1, hz2⟩ := info_parts hinfo
  have hm : (xs.length + 1) * bytes ≤ 140737488355328 := Nat.le_trans (Nat.mul_le_mul (show xs.length + 1 ≤ 1099511627777 by omega) hby) (by decide)
  refine wpList_append_own _ hgd s x t ho base e i0 (.int k 0) 1 bytes ht hi hz0 hz1 hz2 rfl (by decide) v xs.length (xs.map (Value.int k)) hs (World.ownsRow.alloc hown _) ⟨w.heap.size, 0, none⟩ 1 1 [.int k y] hx rfl (cell_one_new _ _ _) (fun u hu => by simp at hu; subst hu; rfl) (by unfold maxLen; omega) hm (by simp; omega) ?_
  intro v' w' hown' hg _
  refine h v' w' ?_ ?_
  · unfold OwnsNums
    simpa using hown'
  · exact ((Below.refl base w).alloc hbase _).trans (below_of_grown (World.ownsRow.alloc hown _) (by simp; omega) hg)

end Go.Proofs.YtmjolmggelkjlaaGreat

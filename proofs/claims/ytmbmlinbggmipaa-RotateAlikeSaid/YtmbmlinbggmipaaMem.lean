/- Readings of slices of numbers in a world, and how they last; no program in sight. -/
import Derived.WalkKit
import Derived.WalkSpells
import Derived.WalkLawsBesides
import Derived.Lib.Hide
namespace Go.Proofs.Ytmbmlinbggmipaa
open Go.RowKit

theorem ret_int {k : IntKind} {a b : Int} (h : a = b) : Ending.returned (.int k a) = .returned (.int k b) := by rw [h]
theorem ret_bool {a b : Bool} (h : a = b) : Ending.returned (.bool a) = .returned (.bool b) := by rw [h]

theorem natCast_beq (a b : Nat) : ((a : Int) == (b : Int)) = (a == b) := by
  rw [Bool.eq_iff_iff]; simp only [beq_iff_eq]; omega
theorem size_list (s : ByteArray) : s.data.toList.length = s.size := by rw [Array.length_toList]; rfl
theorem empty_of (s : ByteArray) (h : s.size = 0) : s.toList.isEmpty = true := by
  rw [ByteArray.toList_eq, List.isEmpty_iff_length_eq_zero, size_list]; exact h
theorem nonempty_of (s : ByteArray) (h : 1 ≤ s.size) : s.toList.isEmpty = false := by
  rw [ByteArray.toList_eq]
  have hl := size_list s
  cases hh : s.data.toList with
  | nil => rw [hh] at hl; simp at hl; omega
  | cons a b => rfl

/-- the numbers of a slice that begins at a -/
def NumsAt (k : IntKind) (w : World) (a : Option Addr) (xs : List Int) : Prop :=
  ∀ j, j < xs.length → ∃ b off, a = some ⟨b, off, none⟩ ∧ w.cell? ⟨b, off + j, none⟩ = some (.int k (xs.getD j 0))

theorem NumsAt.nil (k : IntKind) (w : World) (a : Option Addr) : NumsAt k w a [] := fun j h => absurd h (Nat.not_lt_zero _)

theorem cell_below {w w' : World} {p : Addr} {v : Value} (h : w.cell? p = some v) (hb : Below w.heap.size w w') : w'.cell? p = some v :=
  (hb.cell (World.block_lt_of_cell? w p h)).trans h

theorem NumsAt.below {k : IntKind} {w w' : World} {a : Option Addr} {xs : List Int} (h : NumsAt k w a xs) (hb : Below w.heap.size w w') : NumsAt k w' a xs :=
  fun j hj => let ⟨b, off, ha, hc⟩ := h j hj; ⟨b, off, ha, cell_below hc hb⟩

/-- of a slice that is not empty: where it lies -/
theorem NumsAt.some {k : IntKind} {w : World} {a : Option Addr} {xs : List Int} (h : NumsAt k w a xs) (h0 : 0 < xs.length) :
    ∃ b off, a = .some ⟨b, off, none⟩ ∧ ∀ j, j < xs.length → w.cell? ⟨b, off + j, none⟩ = .some (.int k (xs.getD j 0)) := by
  obtain ⟨b, off, ha, hc⟩ := h 0 h0
  refine ⟨b, off, ha, fun j hj => ?_⟩
  obtain ⟨b', off', ha', hc'⟩ := h j hj
  rw [ha] at ha'
  cases ha'
  exact hc'

/-- what the call owns it reads -/
theorem NumsAt.of_owns {k : IntKind} {w : World} {base : Nat} {e : TypeId} {v : Value} {n : Nat} {xs : List Int}
    (h : w.ownsRow base e 1 v n (xs.map (Value.int k))) : n = xs.length ∧ ∃ a cap, v = .slice a xs.length cap ∧ NumsAt k w a xs := by
  have hn : n = xs.length := by have := h.1; simpa using this.symm
  subst hn
  refine ⟨rfl, ?_⟩
  rcases h.2 with ⟨rfl, hx⟩ | ⟨g, cap, cur, rfl, hb, hg, hnc, hcm, hcs, htake⟩
  · have : xs = [] := by simpa using hx
    subst this
    exact ⟨.none, 0, rfl, NumsAt.nil _ _ _⟩
  · refine ⟨_, cap, rfl, fun j hj => ⟨g, 0, rfl, ?_⟩⟩
    have hc := World.ownsRow.cells h (g := g) rfl j (.int k (xs.getD j 0)) (by rw [List.getElem?_map, List.getElem?_eq_getElem hj]; simp [List.getD_eq_getElem?_getD, hj])
    have hadd : (⟨g, 0, none⟩ : Addr).add j = ⟨g, 0 + j, none⟩ := by unfold Addr.add; split <;> simp_all
    rw [hadd] at hc
    exact hc

/-- a block that has just been laid -/
theorem NumsAt.new (k : IntKind) (w : World) (cs : Array Value) (e : TypeId) (xs : List Int) (h : cs = (xs.map (Value.int k)).toArray) : NumsAt k (w.alloc (.cells cs e)) (.some ⟨w.heap.size, 0, none⟩) xs := by
  subst h
  refine fun j hj => ⟨w.heap.size, 0, rfl, ?_⟩
  rw [cell_of_row _ w.heap.size (0 + j) _ e (0, 0) (heap_alloc_new w _)]
  simp [hj]

/-! what a call leaves of the memory that was there, step by step -/
theorem kt {a b c : World} (h : Below a.heap.size a b) (k : Below b.heap.size b c) : Below a.heap.size a c := h.trans (k.mono h.size)
theorem ka {a b : World} (h : Below a.heap.size a b) (o : Obj) : Below a.heap.size a (b.alloc o) := h.alloc h.size o
theorem kd {a b : World} (h : Below a.heap.size a b) (n : Nat) : Below a.heap.size a (b.drewN n) := below_drewN h n
theorem kr (a : World) : Below a.heap.size a a := Below.refl _ _

end Go.Proofs.Ytmbmlinbggmipaa

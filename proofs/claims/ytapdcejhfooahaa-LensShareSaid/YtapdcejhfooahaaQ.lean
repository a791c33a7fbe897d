/- Calls that only read, inside a region whose order is drawn. No program in sight. -/
import Derived.Test.YtapdcejhfooahaaMem2
import Derived.Deep.QuietTactic
import Derived.BigQuiet
import Derived.Deep.RegionHeld3
namespace Go.Proofs.Ytapdcejhfooahaa
set_option linter.unusedVariables false
set_option linter.unusedSimpArgs false
open Go.RowKit
theorem q_left {P : Program} {f : FuncId} {args : Array Value} {w : World} {n : Nat} {v : Value}
    (h : Calls P f args (w.drewN n) fun e w' => e = .returned v ∧ w.drewN n = w') : Calls P f args (w.drewN n) fun e w'' => e = .returned v ∧ ∃ m, w'' = w.drewN m :=
  h.mono fun _ _ ⟨he, hm⟩ => ⟨he, n, hm.symm⟩
theorem q_add {P : Program} {f : FuncId} {args : Array Value} {w : World} {a n : Nat} {v : Value}
    (h : Calls P f args (w.drewN (a + n)) fun e w' => e = .returned v ∧ ∃ m, w' = (w.drewN (a + n)).drewN m) :
    Calls P f args (w.drewN (a + n)) fun e w'' => e = .returned v ∧ ∃ m, w'' = w.drewN (a + m) :=
  h.mono fun _ _ ⟨he, m, hm⟩ => ⟨he, n + m, by rw [hm, World.drewN_drewN, Nat.add_assoc]⟩
theorem q_addleft {P : Program} {f : FuncId} {args : Array Value} {w : World} {a n : Nat} {v : Value}
    (h : Calls P f args (w.drewN (a + n)) fun e w' => e = .returned v ∧ w.drewN (a + n) = w') :
    Calls P f args (w.drewN (a + n)) fun e w'' => e = .returned v ∧ ∃ m, w'' = w.drewN (a + m) :=
  h.mono fun _ _ ⟨he, hm⟩ => ⟨he, n, hm.symm⟩
theorem NumsAt.drewN {k : IntKind} {w : World} {a : Option Addr} {xs : List Int} (h : NumsAt k w a xs) (n : Nat) : NumsAt k (w.drewN n) a xs := h
theorem NumsAt.alloc {k : IntKind} {w : World} {a : Option Addr} {xs : List Int} (h : NumsAt k w a xs) (o : Obj) : NumsAt k (w.alloc o) a xs := h.below (ka (kr _) o)
theorem bcell {B : Nat} {W w1 : World} (hb : Below B W w1) : (∀ b o, b < B → w1.cell? ⟨b, o, none⟩ = W.cell? ⟨b, o, none⟩) ∧ (∀ b o, b < B → w1.frozen? ⟨b, o, none⟩ = W.frozen? ⟨b, o, none⟩) :=
  ⟨fun b o h => hb.cell (p := ⟨b, o, none⟩) h, fun b o h => hb.frozen (p := ⟨b, o, none⟩) h⟩
theorem kdr {a b : World} (h : Below a.heap.size a b) : Below a.heap.size a b.drew := h.drew
theorem ks {a b : World} (h : Below a.heap.size a b) {p : Addr} (hp : a.heap.size ≤ p.block) (u : Value) : Below a.heap.size a (b.setCell p u) := h.setCell hp u
theorem Blk.at_ {w : World} {g : Nat} {t : TypeId} {cs : Array Value} (h : Blk w g t cs) (i : Nat) {v : Value} (hv : cs.toList[i]? = some v) : w.cell? ⟨g, i, none⟩ = some v := by
  rw [h.cell i, ← Array.getElem?_toList]; exact hv
theorem NumsAt.set {k : IntKind} {w : World} {A : Option Addr} {xs : List Int} (h : NumsAt k w A xs) {q : Addr} (hne : ∀ p : Addr, A = Option.some p → p.block ≠ q.block) (u : Value) : NumsAt k (w.setCell q u) A xs := fun j hj => by
  obtain ⟨b, off, e, hc⟩ := h j hj
  refine ⟨b, off, e, ?_⟩
  rw [World.cell?_setCell_other w q _ u (by intro e'; have := hne _ e; apply this; rw [e'])]
  exact hc
theorem OwnsNums.far {k : IntKind} {e : TypeId} {base : Nat} {w : World} {A : Option Addr} {n cap : Nat} {xs : List Int} (h : OwnsNums k e base w (.slice A n cap) xs) : ∀ p, A = some p → base ≤ p.block := by
  intro p hp
  subst hp
  rcases h.2 with ⟨h1, _⟩ | ⟨g, cap', cur, h1, hb, _⟩
  · cases h1
  · cases h1; exact hb
end Go.Proofs.Ytapdcejhfooahaa

/- Layer 47: what parts have together. -/
import Derived.Test.YtmjolmggelkjlaaGreatIF
namespace Go.Proofs.YtmjolmggelkjlaaGreat
set_option linter.unusedVariables false
set_option linter.unusedSimpArgs false
open Go.RowKit Ev Ip

structure Tot where
  streams : Nat
  blocks : Nat
  last : Int
  len : Int
  bits : Int
def Tot.cells (t : Tot) : List Value := [.int .i64 (t.streams : Int), .int .i64 (t.blocks : Int), .int .i64 t.last, .int .i64 t.len, .int .i64 t.bits]
def mst (x : Int) : Int := let y := if x < 0 then 0 else x; if 1099511627776 < y then 1099511627776 else y
theorem mst_b (x : Int) : 0 ≤ mst x ∧ mst x ≤ 1099511627776 := by
  unfold mst
  simp only
  repeat' split
  all_goals omega
def tog (a b : Int) : Int := mst (a + mst b)
def Tot.add (t : Tot) (p : Pt) : Tot :=
  if p.what = 2 then { t with blocks := t.blocks + 1, last := tog t.last p.last, len := tog t.len p.len }
  else if p.what = 3 then { t with streams := t.streams + 1 } else t
def tot0 : Tot := ⟨0, 0, 0, 0, 0⟩
structure Tot.Ok (t : Tot) (i : Nat) : Prop where
  s : t.streams ≤ i
  b : t.blocks ≤ i
  l0 : 0 ≤ t.last
  l1 : t.last ≤ 1099511627776
  n0 : 0 ≤ t.len
  n1 : t.len ≤ 1099511627776
theorem tot0_ok : tot0.Ok 0 := ⟨Nat.le_refl _, Nat.le_refl _, Int.le_refl _, by decide, Int.le_refl _, by decide⟩
theorem Tot.Ok.add {t : Tot} {i : Nat} (x : t.Ok i) (p : Pt) : (t.add p).Ok (i + 1) := by
  obtain ⟨a, b, c, d, e, f⟩ := x
  have h1 := mst_b (t.last + mst p.last)
  have h2 := mst_b (t.len + mst p.len)
  unfold Tot.add
  split
  · exact ⟨Nat.le_succ_of_le a, by show t.blocks + 1 ≤ i + 1; omega, h1.1, h1.2, h2.1, h2.2⟩
  · split
    · exact ⟨by show t.streams + 1 ≤ i + 1; omega, Nat.le_succ_of_le b, c, d, e, f⟩
    · exact ⟨Nat.le_succ_of_le a, Nat.le_succ_of_le b, c, d, e, f⟩
def totTo (l : List Pt) (i : Nat) : Tot := (l.take i).foldl Tot.add tot0
theorem totTo_succ {l : List Pt} {i : Nat} {p : Pt} (h : l[i]? = some p) : totTo l (i + 1) = (totTo l i).add p := by
  obtain ⟨hi, e⟩ := List.getElem?_eq_some_iff.1 h
  unfold totTo
  rw [List.take_succ_eq_append_getElem hi, List.foldl_append, e]
  rfl
theorem totTo_ok (l : List Pt) : ∀ i, i ≤ l.length → (totTo l i).Ok i
  | 0, _ => by unfold totTo; exact tot0_ok
  | i + 1, h => by
    rw [totTo_succ (p := l[i]) (List.getElem?_eq_getElem (by omega))]
    exact (totTo_ok l i (by omega)).add _
theorem mst_eq (x : Int) {β : Type} (k : Value → M β) : (kma (.int .i64 x) (.int .i64 0) fun b => kmi b (.int .i64 1099511627776) k) = k (.int .i64 (mst x)) := by
  unfold kma kmi mst
  simp only [ilt_eq]
  by_cases h1 : x < 0
  · simp [h1]
  · by_cases h2 : (1099511627776 : Int) < x
    · simp [h1, h2]
    · simp [h1, h2]
theorem mst_mi {x : Int} (h : 0 ≤ x) {β : Type} (k : Value → M β) : kmi (.int .i64 x) (.int .i64 1099511627776) k = k (.int .i64 (mst x)) := by
  have h1 : ¬ x < 0 := by omega
  unfold kmi mst
  simp only [ilt_eq]
  by_cases h2 : (1099511627776 : Int) < x
  · simp [h1, h2]
  · simp [h1, h2]
section
variable {lf d : Nat}
theorem s_together (n : Nat) (h : H) {a b : Int} (h0 : 0 ≤ a) (h1 : a ≤ 1099511627776) : Run (fun _ => False) n (evCall2 Tryz.prog gt lf (d + 1) 71 #[.int .i64 a, .int .i64 b]) h n fun v h' n' => v = .int .i64 (tog a b) ∧ h' = h ∧ n' = n := by
  have hb := mst_b b
  have w1 : IntKind.i64.wrap (a + mst b) = a + mst b := wrap_id (by omega) (by omega)
  have e1 := fun (k : Value → M Value) => mst_mi (x := a + mst b) (by omega) k
  have e2 := fun (k : Value → M Value) => mst_eq b k
  rw [shOf (fun _ => st_inspect_together) rfl]
  refine Run.inside_ ?_
  unfold b_inspect_together
  rw [e2]
  have e3 : ∀ K : Value → M Value, kad (.int .i64 a) (.int .i64 (mst b)) K = K (.int .i64 (a + mst b)) := fun K => by
    try simp (disch := first | omega | assumption | exact Int.natCast_nonneg _) only [RXA, RXB, Nat.reduceAdd, Nat.reduceLT, wrap_id, wrap_succ, wrap_pred, zr33, zr34, zr43, zr51, zr60, zr67, zr73, zr85, zr87, zr98, zr107, zr120, zr126, zr132, zr134, zr139, zr142, zr144, zr150, zr152, zr157, zr159, zr168, zr171, zr185, zr188, zr207, zr212, zr224, zr228, zr233, zr235, zr243, zr252, zr255, zr269, zr280, zr282, zr299, zr317, zr328, zr333, w1]
  rw [e3, e1, run_out1]
  exact ⟨rfl, rfl, rfl⟩
theorem s_most (n : Nat) (h : H) (a : Int) : Run (fun _ => False) n (evCall2 Tryz.prog gt lf (d + 1) 22 #[.int .i64 a]) h n fun v h' n' => v = .int .i64 (mst a) ∧ h' = h ∧ n' = n := by
  have e2 := fun (k : Value → M Value) => mst_eq a k
  rw [shOf (fun _ => st_balerlaw47_most) rfl]
  refine Run.inside_ ?_
  unfold b_balerlaw47_most
  rw [e2, run_out1]
  exact ⟨rfl, rfl, rfl⟩
end
end Go.Proofs.YtmjolmggelkjlaaGreat

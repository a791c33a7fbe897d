import Derived.Test.YtdagfcflbphoiaaGreatDoorMbb
namespace Go.Proofs.YtdagfcflbphoiaaGreatDoor
set_option linter.unusedVariables false
set_option linter.unusedSimpArgs false
open Go.RowKit Ev Cn

section
variable {lf d n : Nat} {h : H}
theorem zcfc (a b : List Bool) (hb : b.length ≤ 1000000000) : Run (fun _ => False) n (zaac Tryz.prog gt lf (d + 1) 90 #[tx a, tx b]) h n fun v' h' n' => v' = .bool (decide (b.length ≤ a.length ∧ a.take b.length = b)) ∧ h' = h ∧ n' = n := by
  rw [zbds]
  refine Run.inside_ ?_
  unfold zarr
  by_cases c : b.length ≤ a.length
  · have c1 : ((b.length : Nat) : Int) ≤ ((a.length : Nat) : Int) := by omega
    have s1 := fun (k : Value → M Value) => tx_hi a .i64 ((b.length : Nat) : Int) k (by omega) (by omega)
    rw [Int.toNat_natCast] at s1
    try simp (disch := first | omega | assumption | exact zaae _ _ | exact zaab _ _ _ | exact zaaf _ | exact zaad _ | exact zaaa _) only [Nat.reduceAdd, Nat.reduceLT, RZ, zacs, c1, s1, zbsi]
    by_cases e : a.take b.length = b
    · rw [decide_eq_true e, decide_eq_true ⟨c, e⟩]
    · rw [decide_eq_false e, decide_eq_false fun q => e q.2]
  · have c1 : ¬ ((b.length : Nat) : Int) ≤ ((a.length : Nat) : Int) := by omega
    try simp (disch := first | omega | assumption | exact zaae _ _ | exact zaab _ _ _ | exact zaaf _ | exact zaad _ | exact zaaa _) only [Nat.reduceAdd, Nat.reduceLT, RZ, zacs, c1]
    rw [decide_eq_false fun q => c q.1]
theorem zbqk {ln : List Nat} (w : Wh ln) {bs : List Bool} {i : Nat} (hi : i < ln.length) : Mt ln bs i ↔ ((fieldB (codeC ln i) (ln.getD i 0)).length ≤ bs.length ∧ bs.take (fieldB (codeC ln i) (ln.getD i 0)).length = fieldB (codeC ln i) (ln.getD i 0)) := by
  rw [zabh]
  constructor
  · rintro ⟨_, h2, h3⟩
    refine ⟨h2, ?_⟩
    have := zaqk h3
    rw [List.length_take, Nat.min_eq_left h2] at this
    exact this
  · rintro ⟨h2, h3⟩
    exact ⟨hi, h2, by rw [h3, zayv (w.code_lt hi)]⟩
theorem zcax {ln : List Nat} {i : Nat} (hi : i < ln.length) : (txC ln)[i]? = some (tx (fieldB (codeC ln i) (ln.getD i 0))) := by
  unfold txC
  rw [List.getElem?_map, List.getElem?_range hi]
  rfl
def getI (o : Option Nat) : Int := match o with
  | none => -1
  | some s => (s : Int)
theorem zcju {b : Nat} {o : Bool} {ln : List Nat} (w : Wh ln) (bs : List Bool) (g : h.get b = some ⟨9, o, txC ln⟩) (hb : b < n) (hl : ln.length ≤ 258) (hlf : 1000 ≤ lf) : Run (fun _ => False) n (zaac Tryz.prog gt lf (d + 2) 55 #[.slice (some ⟨b, 0, none⟩) ln.length ln.length, tx bs]) h n fun v' h' n' => v' = .int .i64 (getI (getC ln bs)) ∧ h' = h ∧ n' = n := by
  rw [zbjs]
  refine Run.inside_ ?_
  unfold zaxc
  try simp (disch := first | omega | assumption | exact zaae _ _ | exact zaab _ _ _ | exact zaaf _ | exact zaad _ | exact zaaa _) only [Nat.reduceAdd, Nat.reduceLT, RZ]
  refine zafq ln.length (fun fu i (_ : Unit) => zaih lf (d + 1) fu (zahp lf (d + 1)) (.slice (some ⟨b, 0, none⟩) ln.length ln.length) (tx bs) (.int .i64 0) (.slice (some ⟨b, 0, none⟩) ln.length ln.length) (.int .i64 (ln.length : Int)) (.int .i64 (i : Nat))) (fun i _ h' n' => (h' = h ∧ n' = n) ∧ ∀ j, j < i → ¬ Mt ln bs j) ?_ ?_ lf 0 () h n (Nat.zero_le _) (by omega) ⟨⟨rfl, rfl⟩, fun j hj => absurd hj (Nat.not_lt_zero j)⟩
  · rintro fu _ h' n' ⟨⟨rfl, rfl⟩, hn⟩
    rw [zaqq]
    try simp (disch := first | omega | assumption | exact zaae _ _ | exact zaab _ _ _ | exact zaaf _ | exact zaad _ | exact zaaa _) only [Nat.reduceAdd, Nat.reduceLT, RZ, Int.lt_irrefl]
    rw [zbgi]
    try simp (disch := first | omega | assumption | exact zaae _ _ | exact zaab _ _ _ | exact zaaf _ | exact zaad _ | exact zaaa _) only [Nat.reduceAdd, Nat.reduceLT, RZ]
    rw [zbqq fun i m => hn i m.1 m]
    rfl
  · rintro fu i _ h' n' hi ⟨⟨rfl, rfl⟩, hn⟩ next
    rw [zaqq]
    have c1 : ((i : Nat) : Int) < ((ln.length : Nat) : Int) := by omega
    have ht := zcax hi
    try simp (disch := first | omega | assumption | exact zaae _ _ | exact zaab _ _ _ | exact zaaf _ | exact zaad _ | exact zaaa _) only [Nat.reduceAdd, Nat.reduceLT, RZ, c1, g, ht]
    have hle := (w.at hi).2
    refine zaaw (zcfc (lf := lf) (d := d) bs (fieldB (codeC ln i) (ln.getD i 0)) (by rw [zabh]; omega)) (Nat.le_refl _) (fun _ _ h => h.elim) ?_
    by_cases m : Mt ln bs i
    · rw [decide_eq_true ((zbqk w hi).1 m)]
      try simp (disch := first | omega | assumption | exact zaae _ _ | exact zaab _ _ _ | exact zaaf _ | exact zaad _ | exact zaaa _) only [Nat.reduceAdd, Nat.reduceLT, RZ]
      rw [zbgl]
      try simp (disch := first | omega | assumption | exact zaae _ _ | exact zaab _ _ _ | exact zaaf _ | exact zaad _ | exact zaaa _) only [Nat.reduceAdd, Nat.reduceLT, RZ]
      rw [zbhy m]
      rfl
    · rw [decide_eq_false fun q => m ((zbqk w hi).2 q)]
      try simp (disch := first | omega | assumption | exact zaae _ _ | exact zaab _ _ _ | exact zaaf _ | exact zaad _ | exact zaaa _) only [Nat.reduceAdd, Nat.reduceLT, RZ]
      exact next () h' n' ⟨⟨rfl, rfl⟩, fun j hj => by
        rcases Nat.lt_succ_iff_lt_or_eq.1 hj with q | q
        · exact hn j q
        · exact q ▸ m⟩
end
end Go.Proofs.YtdagfcflbphoiaaGreatDoor

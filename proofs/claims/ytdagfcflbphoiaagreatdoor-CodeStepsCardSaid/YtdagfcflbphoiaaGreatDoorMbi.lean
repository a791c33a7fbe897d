import Derived.Test.YtdagfcflbphoiaaGreatDoorMbh
namespace Go.Proofs.YtdagfcflbphoiaaGreatDoor
set_option linter.unusedVariables false
set_option linter.unusedSimpArgs false
open Go.RowKit Ev Cn

section
variable {lf d n z p : Nat} {h : H} {c : Cd} {m : Cm}
theorem zcgr (y : CAt h n z p c m) (hf : c.pk.fin = true) (hs : c.size ≤ 258) (hcl : c.codes.length ≤ 6) : Run (fun _ => False) n (zaac Tryz.prog gt lf (d + 3) 31 #[.pointer (some ⟨z, 0, none⟩)]) h n fun v' h' n' => v' = .int .i64 ((c.pk.picks.length + c.size * c.codes.length : Nat) : Int) := by
  have g := y.get
  have hz := y.lt
  unfold cdB at g
  have hf2 := hf
  unfold Pk.fin at hf2
  rw [Bool.and_eq_true, decide_eq_true_eq, decide_eq_true_eq] at hf2
  have hcnt := y.pk.cnt
  obtain ⟨ca, cc, hcv⟩ : ∃ a cc, m.cv = .slice a c.codes.length cc := by
    rcases y.cs with ⟨e1, e2⟩ | ⟨b, e1, _⟩
    · have : m.iv = [] := by rw [List.map_eq_nil_iff] at e2; exact e2
      have h9 := y.ivl
      rw [this] at h9
      exact ⟨none, 0, by rw [e1, ← h9]; rfl⟩
    · rw [List.length_map, y.ivl] at e1
      exact ⟨_, _, e1⟩
  rw [hcv] at g
  rw [zbfu]
  refine Run.inside_ ?_
  unfold zaut
  have hm : c.size * c.codes.length ≤ 258 * 6 := Nat.mul_le_mul hs hcl
  have hil := zadn c.pk.picks
  have w1 : IntKind.i64.wrap ((c.size : Int) * (c.codes.length : Int)) = ((c.size * c.codes.length : Nat) : Int) := by
    rw [show (c.size : Int) * (c.codes.length : Int) = ((c.size * c.codes.length : Nat) : Int) by push_cast; rfl, zaav (by omega) (by omega)]
  have w2 : IntKind.i64.wrap ((((iN c.pk.picks).length : Nat) : Int) + ((c.size * c.codes.length : Nat) : Int)) = ((c.pk.picks.length + c.size * c.codes.length : Nat) : Int) := by rw [zaav (by omega) (by omega)]; omega
  try simp (disch := first | omega | assumption | exact zaae _ _ | exact zaab _ _ _ | exact zaaf _ | exact zaad _ | exact zaaa _) only [Nat.reduceAdd, Nat.reduceLT, RZ]
  refine zafi ag97 z 1 _ g hz (Nat.le_refl _) rfl fun T1 t1 => ?_
  try simp (disch := first | omega | assumption | exact zaae _ _ | exact zaab _ _ _ | exact zaaf _ | exact zaad _ | exact zaaa _) only [Nat.reduceAdd, Nat.reduceLT, RZ]
  refine zafa okd (zbsn (lf := lf) (d := d) y.pk (by omega) (by omega)) (Nat.le_refl _) fun v2 h2 n2 T2 hn2 fr2 hq2 t2 => ?_
  obtain ⟨r2, _⟩ := hq2
  obtain ⟨a2, c2, rfl⟩ := r2.len
  have g2 := (fr2 z hz).trans g
  try simp (disch := first | omega | assumption | exact zaae _ _ | exact zaab _ _ _ | exact zaaf _ | exact zaad _ | exact zaaa _) only [Nat.reduceAdd, Nat.reduceLT, RZ]
  refine zafi ag3 z 0 _ g2 hz hn2 rfl fun T3 t3 => ?_
  try simp (disch := first | omega | assumption | exact zaae _ _ | exact zaab _ _ _ | exact zaaf _ | exact zaad _ | exact zaaa _) only [Nat.reduceAdd, Nat.reduceLT, RZ]
  refine zafi ag70 z 4 _ g2 hz hn2 rfl fun T4 t4 => ?_
  try simp (disch := first | omega | assumption | exact zaae _ _ | exact zaab _ _ _ | exact zaaf _ | exact zaad _ | exact zaaa _) only [Nat.reduceAdd, Nat.reduceLT, RZ, w1, w2, t2.clash t3, t2.clash t4, Bool.not_false, Bool.and_self, zaew]
end
end Go.Proofs.YtdagfcflbphoiaaGreatDoor

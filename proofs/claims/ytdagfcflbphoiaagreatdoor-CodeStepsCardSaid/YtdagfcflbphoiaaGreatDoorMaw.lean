import Derived.Test.YtdagfcflbphoiaaGreatDoorMav
namespace Go.Proofs.YtdagfcflbphoiaaGreatDoor
set_option linter.unusedVariables false
set_option linter.unusedSimpArgs false
open Go.RowKit Ev Cn

inductive Rs
  | err (e : Int)
  | ok (out : List Int) (a : Nat)
def runC : Nat → Cd → List Bool → Int → List Int → Nat → Rs
  | 0, _, _, _, _, _ => .err 3
  | N + 1, c, bs, most, out, a => if c.done = true then .ok out a else match stepC c bs with
    | .short => .err 3
    | .bad e => .err e
    | .ok (sym, c') u => if sym = -1 then runC N c' (bs.drop u) most out (a + u) else if (out.length : Int) = most then .err 2 else runC N c' (bs.drop u) most (out ++ [sym]) (a + u)
theorem zbsd {size : Nat} (h3 : 3 ≤ size) (h258 : size ≤ 258) : COk (cd0 size) := ⟨⟨fun _ => ⟨rfl, rfl⟩, fun j hj => absurd hj (Nat.not_lt_zero j), fun x hx => absurd hx (by simp [cd0]), fun e => absurd rfl e, fun e => absurd rfl e⟩, Nat.zero_le _, rfl, fun _ => ⟨rfl, rfl⟩, fun e => absurd (show false = true from e) (by decide), Nat.zero_le _, ⟨Nat.zero_le _, Nat.zero_le _, fun x hx => absurd hx (by simp [cd0])⟩, (by show 0 < size; omega), fun l hl => absurd hl (by simp [cd0]), h3, h258, rfl, rfl⟩
def cm0 (n : Nat) : Cm := ⟨n + 3, .slice none 0 0, .slice none 0 0, n, .slice none 0 0, .slice none 0 0, false, false, []⟩
theorem zayb {b : Nat} : ¬ InBlk (.slice none 0 0) b := fun ⟨_, _, _, e⟩ => by cases e
theorem cm0_F {n b : Nat} (h : (cm0 n).F (n + 4) b) : n ≤ b := by
  rcases h with h | h | h | h | h | h
  · omega
  · have : b = n + 3 := h
    omega
  · have : b = n := h
    omega
  · exact absurd h zayb
  · exact absurd h zayb
  · exact absurd h zayb
section
variable {lf d n z p : Nat} {h : H} {S : List UInt8} {D A : Nat} {c : Cd} {m : Cm}
theorem zchh {size : Nat} (h3 : 3 ≤ size) (h258 : size ≤ 258) (hlf : 100 ≤ lf) (p : Nat) : Run (fun _ => False) n (zaac Tryz.prog gt lf (d + 3) 28 #[.int .i64 (size : Int)]) h n fun v h' n' => v = .tuple #[.pointer (some ⟨n + 4, 0, none⟩), .int .i64 0] ∧ n' = n + 5 ∧ CAt h' n' (n + 4) p (cd0 size) (cm0 n) := by
  rw [zbjn]
  refine Run.inside_ ?_
  unfold zayx
  have z0 : ((0 : Int) != 0) = false := rfl
  refine zaay okd (zcep (lf := lf) (d := d) h3 h258) (Nat.le_refl _) (fun _ _ h => h.elim) fun v1 h1 n1 hn1 fr1 hq1 => ?_
  obtain ⟨rfl, rfl, de⟩ := hq1
  try simp (disch := first | omega | assumption | exact zaae _ _ | exact zaab _ _ _ | exact zaaf _ | exact zaad _ | exact zaaa _) only [Nat.reduceAdd, Nat.reduceLT, RZ, ext0, ext1, z0]
  refine zaay okd (zcja (lf := lf) (d := d) hlf) (by omega) (fun _ _ h => h.elim) fun v2 h2 n2 hn2 fr2 hq2 => ?_
  obtain ⟨rfl, rfl, pk⟩ := hq2
  try simp (disch := first | omega | assumption | exact zaae _ _ | exact zaab _ _ _ | exact zaaf _ | exact zaad _ | exact zaaa _) only [Nat.reduceAdd, Nat.reduceLT, RZ]
  refine zawv sz100 _ _ ?_
  try simp (disch := first | omega | assumption | exact zaae _ _ | exact zaab _ _ _ | exact zaaf _ | exact zaad _ | exact zaaa _) only [Nat.reduceAdd, Nat.reduceLT, RZ]
  have un : ∀ (B : Option AB) b, b < n + 1 → (h2.set (n + 1 + 3) B).get b = h1.get b := fun B b hb => by rw [zaar _ _ (by omega), fr2 b hb id]
  exact
    { get := zaaz _ _ _
      lt := by omega
      pk := ⟨(zaar _ _ (by show n + 3 ≠ _; omega)).trans pk.get, Nat.zero_le _, by show n + 3 < _; omega, Own.nil _ _ _ _, rfl, Nat.zero_le _, (by decide : 0 < 32768)⟩
      de := ⟨(un _ n (by omega)).trans de.get, Nat.zero_le _, by show n < _; omega, Own.nil _ _ _ _⟩
      took := (Own.nil _ 0 _ _ : Own _ 0 _ _ _ (intsV .i64 (iN []))).row
      tap := fun b hb => absurd hb zayb
      vap := fun b hb => absurd hb zayb
      cs := Own.nil _ _ _ _
      ivl := rfl
      code := fun i hi => absurd hi (Nat.not_lt_zero i) }
end
end Go.Proofs.YtdagfcflbphoiaaGreatDoor

import Derived.Test.YtdagfcflbphoiaaGreatDoorMbn
namespace Go.Proofs.YtdagfcflbphoiaaGreatDoor
set_option linter.unusedVariables false
set_option linter.unusedSimpArgs false
open Go.RowKit Ev Cn

section
variable {lf d n : Nat} {h : H}
theorem zchr (g0 : Gd h n) (S : List UInt8) (ct size : Int) (hlf : 3000000 ≤ lf) (hS : S.length ≤ 9223372036854775807) : Run (fun _ => False) n (zaac Tryz.prog gt lf (d + 12) 6 #[.string ⟨S.toArray⟩, .int .i64 ct, .int .i64 size]) h n fun v _ _ => v = .bool true := by
  rw [zazd]
  refine Run.inside_ ?_
  unfold zanu
  by_cases c1 : (120 : Int) < ((S.length : Nat) : Int)
  · try simp (disch := first | omega | assumption | exact zaae _ _ | exact zaab _ _ _ | exact zaaf _ | exact zaad _ | exact zaaa _) only [Nat.reduceAdd, Nat.reduceLT, RZ, c1]
    exact zbje (Nat.le_refl _) g0
  by_cases c2 : ct < 0
  · try simp (disch := first | omega | assumption | exact zaae _ _ | exact zaab _ _ _ | exact zaaf _ | exact zaad _ | exact zaaa _) only [Nat.reduceAdd, Nat.reduceLT, RZ, c1, c2]
    exact zbje (Nat.le_refl _) g0
  by_cases c3 : ((S.length : Nat) : Int) < ct
  · try simp (disch := first | omega | assumption | exact zaae _ _ | exact zaab _ _ _ | exact zaaf _ | exact zaad _ | exact zaaa _) only [Nat.reduceAdd, Nat.reduceLT, RZ, c1, c2, c3]
    exact zbje (Nat.le_refl _) g0
  try simp (disch := first | omega | assumption | exact zaae _ _ | exact zaab _ _ _ | exact zaaf _ | exact zaad _ | exact zaaa _) only [Nat.reduceAdd, Nat.reduceLT, RZ, c1, c2, c3]
  refine zaaw (zcjr lf (d + 10) _ _ size) (Nat.le_refl _) (fun _ _ h => h.elim) ?_
  by_cases hs : size < 3 ∨ 258 < size
  · have : (decide (3 ≤ size) && decide (size ≤ 258)) = false := by
      rcases hs with q | q
      · rw [decide_eq_false (Int.not_le.2 q), Bool.false_and]
      · rw [decide_eq_false (Int.not_le.2 q), Bool.and_false]
    rw [this]
    try simp (disch := first | omega | assumption | exact zaae _ _ | exact zaab _ _ _ | exact zaaf _ | exact zaad _ | exact zaaa _) only [Nat.reduceAdd, Nat.reduceLT, RZ, Bool.not_false]
    exact zbje (Nat.le_refl _) g0
  rw [decide_eq_true (show 3 ≤ size by omega), decide_eq_true (show size ≤ 258 by omega)]
  obtain ⟨cut, rfl⟩ : ∃ a : Nat, ct = (a : Int) := ⟨ct.toNat, by omega⟩
  obtain ⟨sz, rfl⟩ : ∃ a : Nat, size = (a : Int) := ⟨size.toNat, by omega⟩
  try simp (disch := first | omega | assumption | exact zaae _ _ | exact zaab _ _ _ | exact zaaf _ | exact zaad _ | exact zaaa _) only [Nat.reduceAdd, Nat.reduceLT, RZ, Bool.and_self, Bool.not_true]
  refine zaay okd (zchh (lf := lf) (d := d + 8) (size := sz) (by omega) (by omega) (by omega) (n + 5)) (Nat.le_refl _) (fun _ _ h => h.elim) fun v1 h1 n1 hn1 fr1 hq1 => ?_
  obtain ⟨rfl, rfl, y1⟩ := hq1
  have k0 : (0 : Int) ≤ (cut : Int) := by omega
  have k1 : (cut : Int) ≤ (S.length : Int) := by omega
  try simp (disch := first | omega | assumption | exact zaae _ _ | exact zaab _ _ _ | exact zaaf _ | exact zaad _ | exact zaaa _) only [Nat.reduceAdd, Nat.reduceLT, RZ, ext0, ext1, k0, k1]
  refine zaay okd (zcjn (lf := lf) (d := d + 10) (S := S.take cut) (by rw [List.length_take]; omega)) (by omega) (fun _ _ h => h.elim) fun v2 h2 n2 hn2 fr2 hq2 => ?_
  obtain ⟨rfl, rfl, x2⟩ := hq2
  refine zaaw (zcjd (lf := lf) (d := d + 9) (S := S) (by omega) (by omega) (by omega)) (by omega) (fun _ _ h => h.elim) ?_
  have tl := zapf S
  have w8 : 8 * ((S.length : Nat) : Int) = (((bitsS S).length : Nat) : Int) := by omega
  try simp (disch := first | omega | assumption | exact zaae _ _ | exact zaab _ _ _ | exact zaaf _ | exact zaad _ | exact zaaa _) only [Nat.reduceAdd, Nat.reduceLT, RZ, w8]
  refine zaay okd (zciq (lf := lf) (d := d + 6) (bitsS S) (by omega) hlf (size := sz) (by omega) (by omega) (((bitsS S).length : Nat) : Int)) (by omega) (fun _ _ h => h.elim) fun v5 h5 n5 hn5 fr5 hq5 => ?_
  obtain ⟨ov, u5, hd5, e5, rfl, hq5⟩ := hq5
  have hov : ∃ x y z, ov = .slice x y z := by
    cases e : ref14 sz (bitsS S) ((bitsS S).length : Int) with
    | err e0 => rw [e] at hq5; exact ⟨_, _, _, hq5.2.1⟩
    | ok out u => rw [e] at hq5; obtain ⟨x, y, z⟩ := hq5.2.2.1.row.len; exact ⟨_, _, _, z⟩
  obtain ⟨ox, oy, oz, rfl⟩ := hov
  refine zagr zr49 _ ?_
  refine zabp sz49 (vs := [.slice ox oy oz, .int .i64 u5, .int .i64 hd5, .int .i64 e5]) rfl rfl rfl (zaaz _ _ _) (by omega) (.inl (by omega)) _ fun h6 g6 k6 => ?_
  have un6 : ∀ b, b < n5 → h6.get b = h5.get b := fun b hb => by rw [k6 b (by omega), zaar _ _ (by omega)]
  have un : ∀ b, b < n + 5 → h6.get b = h1.get b := fun b hb => (un6 b (by omega)).trans ((fr5 b (by omega) id).trans (fr2 b (by omega) id))
  have gd : Gd h6 n := g0.keep (Nat.le_refl _) fun b hb => (un b (by omega)).trans (fr1 b hb id)
  have told : Told n n5 sz h6 S (.slice ox oy oz) u5 hd5 e5 := by
    unfold Told
    cases e : ref14 sz (bitsS S) ((bitsS S).length : Int) with
    | err e0 => rw [e] at hq5; exact hq5.1
    | ok out a =>
      rw [e] at hq5
      obtain ⟨r1, r2, r3, r4⟩ := hq5
      have hlen := zcag e
      exact ⟨r1, r2, r4, (r3.keep (by omega : n5 ≤ n5 + 1) fun b hb => un6 b (r3.lt hb).2).row, fun b hb => by have := r3.lt hb; omega, by omega⟩
  have z0 : ((0 : Int) != 0) = false := rfl
  have w9 : ((bitsS S).length : Int) + 40 = ((8 * S.length + 40 : Nat) : Int) := by omega
  try simp (disch := first | omega | assumption | exact zaae _ _ | exact zaab _ _ _ | exact zaaf _ | exact zaad _ | exact zaaa _) only [Nat.reduceAdd, Nat.reduceLT, RZ, z0, w9]
  have y6 : CAt h6 (n5 + 1) (n + 4) (n + 5) (cd0 sz) (cm0 n) := y1.keep (by omega) fun b hb _ => un b hb
  have x6 : RdAt h6 (n5 + 1) (n + 5) (S.take cut) 0 0 := x2.keep (by omega) ((un6 _ (by omega)).trans (fr5 _ (by omega) id))
  have F0 : ∀ b, (cm0 n).F (n + 4) b → n ≤ b ∧ (b < n + 6 ∨ n5 < b) := fun b hb => by
    refine ⟨cm0_F hb, .inl ?_⟩
    have := y1.flt hb
    omega
  exact zcib (lf := lf) (d := d) (n := n) (q := n5) (sz := sz) (cut := cut) (hS := h6) (S := S) hlf (by omega) (by omega) gd (by omega) g6 told (by omega) (8 * S.length + 2) lf (n5 + 1) h6 (cd0 sz) (cm0 n) (.slice none 0 0) [] 0 false 0 (by omega) (by rw [tl]; simp) (by omega) (by omega) x6 y6 ⟨fun q => by have := y1.flt q; omega, zayb⟩ rfl rfl (Jn.new (by omega) (by omega) _) (Own.nil _ _ _ _) (fun b hb => absurd hb zayb) F0 fun b _ => rfl
end
theorem zbug {w : World} (hw : Ev.GlobAt w) {vs : List Value} (ha : All2 (ArgR Tryz.prog w) [9, 3, 3] vs) : Calls Tryz.prog 6 vs.toArray w fun e w' => e = .returned (.bool true) ∧ Below w.heap.size w w' :=
  zcfx (lf := 3000000) (d := 712) hw ha fun n h vs0 g q => by
    obtain ⟨a, b, c, rfl, h1, h2, h3⟩ := Ev.all2_3 q
    obtain ⟨s, rfl, hs⟩ := zcke h1
    obtain ⟨z, rfl, hz⟩ := a_num h2
    obtain ⟨y, rfl, hy⟩ := a_num h3
    exact zchr (lf := 3000000) (d := 700) g s z y (by decide) hs
end Go.Proofs.YtdagfcflbphoiaaGreatDoor

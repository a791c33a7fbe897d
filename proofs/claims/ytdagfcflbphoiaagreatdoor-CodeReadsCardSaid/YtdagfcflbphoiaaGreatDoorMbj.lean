import Derived.Test.YtdagfcflbphoiaaGreatDoorMbh
import Derived.Test.YtdagfcflbphoiaaGreatDoorMbi
namespace Go.Proofs.YtdagfcflbphoiaaGreatDoor
set_option linter.unusedVariables false
set_option linter.unusedSimpArgs false
open Go.RowKit Ev Cn

theorem zbrv {codes : List (List Nat)} {took : List Nat} {size : Nat} : ∀ (N : Nat) (bs : List Bool) (most : Int) (out : List Int) (a : Nat) (o : List Int) (u : Nat), runS N codes took size bs most out a = .ok o u → o.length ≤ out.length + N
  | 0, _, _, _, _, _, _, h => by simp [runS] at h
  | N + 1, bs, most, out, a, o, u, h => by
    unfold runS at h
    split at h
    · cases h
    · split at h
      · cases h
      · split at h
        · cases h
        · split at h
          · simp only [Rs.ok.injEq] at h
            obtain ⟨rfl, _⟩ := h
            rw [List.length_append]
            simp only [List.length_cons, List.length_nil]
            omega
          · have := zbrv N _ _ _ _ _ _ h
            rw [List.length_append] at this
            simp only [List.length_cons, List.length_nil] at this
            omega
theorem zcdi {size : Nat} {bs : List Bool} {most : Int} {o : List Int} {u : Nat} (h : ref14 size bs most = .ok o u) : o.length ≤ bs.length + 1 := by
  unfold ref14 at h
  split at h
  · cases h
  · cases h
  · split at h
    · cases h
    · cases h
    · have := zbrv _ _ _ _ _ _ _ h
      simp only [List.length_nil] at this
      omega
section
variable {lf d n : Nat} {h : H}
theorem zcht (g0 : Gd h n) (S : List UInt8) (at_ size most : Int) (hlf : 3000000 ≤ lf) (ha : -9223372036854775808 ≤ at_ ∧ at_ ≤ 9223372036854775807) (hS : S.length ≤ 9223372036854775807) : Run (fun _ => False) n (zaac Tryz.prog gt lf (d + 12) 4 #[.string ⟨S.toArray⟩, .int .i64 at_, .agg #[.int .i64 size, .int .i64 most]]) h n fun v _ _ => v = .bool true := by
  rw [zayt]
  refine Run.inside_ ?_
  unfold zanv
  refine zast sz41 _ _ ?_
  have gb := zaaz h n (some ⟨41, true, [.int .i64 size, .int .i64 most]⟩)
  obtain ⟨h1, hh1⟩ : ∃ h1 : H, h1 = h.set n (some ⟨41, true, [.int .i64 size, .int .i64 most]⟩) := ⟨_, rfl⟩
  have gd1 : Gd h1 (n + 1) := g0.keep (Nat.le_succ n) fun b hb => by rw [hh1, zaap _ _ (by omega)]
  rw [← hh1] at gb
  have t1 : (1 : Int).toNat = 1 := rfl
  have hn1 : n < n + 1 := Nat.lt_succ_self n
  show Run _ _ _ (h.set n (some ⟨41, true, [.int .i64 size, .int .i64 most]⟩)) _ _
  rw [← hh1]
  by_cases c1 : (200 : Int) < ((S.length : Nat) : Int)
  · try simp (disch := first | omega | assumption | exact zaae _ _ | exact zaab _ _ _ | exact zaaf _ | exact zaad _ | exact zaaa _) only [Nat.reduceAdd, Nat.reduceLT, RZ, gb, t1, c1]
    exact zbbr (by omega) gd1
  by_cases c2 : at_ < 0
  · try simp (disch := first | omega | assumption | exact zaae _ _ | exact zaab _ _ _ | exact zaaf _ | exact zaad _ | exact zaaa _) only [Nat.reduceAdd, Nat.reduceLT, RZ, gb, t1, c1, c2]
    exact zbbr (by omega) gd1
  have w8 : IntKind.i64.wrap (8 * ((S.length : Nat) : Int)) = ((8 * S.length : Nat) : Int) := by rw [zaax (by omega) (by omega)]; omega
  by_cases c3 : ((8 * S.length : Nat) : Int) < at_
  · try simp (disch := first | omega | assumption | exact zaae _ _ | exact zaab _ _ _ | exact zaaf _ | exact zaad _ | exact zaaa _) only [Nat.reduceAdd, Nat.reduceLT, RZ, gb, t1, c1, c2, w8, c3]
    exact zbbr (by omega) gd1
  obtain ⟨a, rfl⟩ : ∃ a : Nat, at_ = (a : Int) := ⟨at_.toNat, by omega⟩
  try simp (disch := first | omega | assumption | exact zaae _ _ | exact zaab _ _ _ | exact zaaf _ | exact zaad _ | exact zaaa _) only [Nat.reduceAdd, Nat.reduceLT, RZ, gb, t1, c1, c2, w8, c3]
  refine zaav okd (zcja (lf := lf) (d := d + 10) (S := S) (by omega)) (by omega) (fun _ _ h => h.elim) fun v2 h2 n2 hn2 fr2 hq2 => ?_
  obtain ⟨rfl, rfl, x2⟩ := hq2
  refine zaav okd (zbbm (lf := lf) (d := d + 9) x2 a (by omega) (by omega)) (by omega) (fun b hb hb2 => .inl (by omega)) fun v3 h3 n3 hn3 fr3 hq3 => ?_
  obtain ⟨rfl, rfl, x3⟩ := hq3
  have gd3 : Gd h3 (n + 1 + 1) := gd1.keep (by omega) fun b hb => (fr3 b (by omega) (by omega)).trans (fr2 b hb id)
  have e0 : ((0 : Int) == 0) = true := rfl
  have e1 : ((1 : Int) == 1) = true := rfl
  by_cases hsz : (size < 3 ∨ 258 < size) ∨ most < 0
  · refine zaav okd (zbzu (lf := lf) (d := d) (p := n + 1) x3.lt size most (by omega) (by omega)) (by omega) (fun _ _ h => h.elim) fun v4 h4 n4 hn4 fr4 hq4 => ?_
    subst hq4
    have x4 := x3.keep hn4 (fr4 (n + 1) x3.lt id)
    have gd4 := gd3.keep hn4 fun b hb => fr4 b hb id
    try simp (disch := first | omega | assumption | exact zaae _ _ | exact zaab _ _ _ | exact zaaf _ | exact zaad _ | exact zaaa _) only [Nat.reduceAdd, Nat.reduceLT, RZ, ext0, ext1]
    have ea : ((a : Int) == (a : Int)) = true := beq_iff_eq.2 rfl
    have l0 : ((0 : Nat) : Int) = 0 := rfl
    refine zaay (zcas lf (d + 10) _ _ size) (by omega) (fun _ _ h => h.elim) ?_
    by_cases hs : size < 3 ∨ 258 < size
    · have : (decide (3 ≤ size) && decide (size ≤ 258)) = false := by
        rcases hs with q | q
        · rw [decide_eq_false (Int.not_le.2 q), Bool.false_and]
        · rw [decide_eq_false (Int.not_le.2 q), Bool.and_false]
      rw [this]
      try simp (disch := first | omega | assumption | exact zaae _ _ | exact zaab _ _ _ | exact zaaf _ | exact zaad _ | exact zaaa _) only [Nat.reduceAdd, Nat.reduceLT, RZ, Bool.not_false, e0, e1, l0]
      refine zaay (s_rAt (lf := lf) (d := d + 10) x4) (by omega) (fun _ _ h => h.elim) ?_
      try simp (disch := first | omega | assumption | exact zaae _ _ | exact zaab _ _ _ | exact zaaf _ | exact zaad _ | exact zaaa _) only [Nat.reduceAdd, Nat.reduceLT, RZ, ea]
      exact zbbr (by omega) gd4
    · have hm : most < 0 := by omega
      rw [decide_eq_true (show 3 ≤ size by omega), decide_eq_true (show size ≤ 258 by omega)]
      try simp (disch := first | omega | assumption | exact zaae _ _ | exact zaab _ _ _ | exact zaaf _ | exact zaad _ | exact zaaa _) only [Nat.reduceAdd, Nat.reduceLT, RZ, Bool.and_self, Bool.not_true, hm, e0, e1, l0]
      refine zaay (s_rAt (lf := lf) (d := d + 10) x4) (by omega) (fun _ _ h => h.elim) ?_
      try simp (disch := first | omega | assumption | exact zaae _ _ | exact zaab _ _ _ | exact zaaf _ | exact zaad _ | exact zaaa _) only [Nat.reduceAdd, Nat.reduceLT, RZ, ea]
      exact zbbr (by omega) gd4
  · obtain ⟨sz, rfl⟩ : ∃ k : Nat, size = (k : Int) := ⟨size.toNat, by omega⟩
    obtain ⟨bs, hbs⟩ : ∃ bs, restB S 0 a = bs := ⟨_, rfl⟩
    have hbl : bs.length ≤ 1600 := by rw [← hbs, zbqm]; omega
    have req := zchj (size := sz) (by omega) (by omega) most bs
    have rfr := show runC (bs.length + 1) (cd0 sz) bs most [] a = _ from zbhp (bs.length + 1) (cd0 sz) bs most [] a 0
    rw [req] at rfr
    have cr := zcgh (lf := lf) (d := d) x3 (size := sz) (by omega) (by omega) most (by omega) (by rw [hbs]; omega) hlf
    rw [hbs, rfr] at cr
    have c4 : ¬ most < 0 := by omega
    refine zaav okd cr (by omega) (fun b hb hb2 => .inl (by omega)) fun v4 h4 n4 hn4 fr4 hq4 => ?_
    have gd4 : Gd h4 n4 := (g0.keep (n' := n + 1) (Nat.le_succ n) fun b hb => by rw [hh1, zaap _ _ (by omega)]).keep (by omega) fun b hb => (fr4 b (by omega) (by omega)).trans ((fr3 b (by omega) (by omega)).trans (fr2 b hb id))
    obtain ⟨gv, ev, rfl, hev⟩ : ∃ gv ev, v4 = .tuple #[gv, .int .i64 ev] ∧ (match ref14 sz bs most with
      | .err e => gv = .slice none 0 0 ∧ ev = e ∧ RdAt h4 n4 (n + 1) S 0 a
      | .ok out u => ev = 0 ∧ Own h4 (n + 1 + 1) n4 3 gv (intsV .i64 out) ∧ RdAt h4 n4 (n + 1) S 0 (a + u)) := by
      cases e : ref14 sz bs most with
      | err e0 => rw [e] at hq4; exact ⟨_, _, hq4.1, rfl, rfl, hq4.2⟩
      | ok out u => rw [e] at hq4; obtain ⟨gv, q1, q2, q3⟩ := hq4; exact ⟨gv, _, q1, rfl, q2, q3⟩
    have s1 := fun (k : Value → M Value) => tx_lo (bitsS S) .i64 (a : Int) k (by omega) (by rw [zayx]; omega)
    rw [Int.toNat_natCast] at s1
    have hdr : (bitsS S).drop a = bs := by rw [← hbs]; unfold restB; rfl
    try simp (disch := first | omega | assumption | exact zaae _ _ | exact zaab _ _ _ | exact zaaf _ | exact zaad _ | exact zaaa _) only [Nat.reduceAdd, Nat.reduceLT, RZ, ext0, ext1]
    refine zaay (zcas lf (d + 10) _ _ (sz : Int)) (by omega) (fun _ _ h => h.elim) ?_
    rw [decide_eq_true (show (3 : Int) ≤ (sz : Int) by omega), decide_eq_true (show (sz : Int) ≤ 258 by omega)]
    try simp (disch := first | omega | assumption | exact zaae _ _ | exact zaab _ _ _ | exact zaaf _ | exact zaad _ | exact zaaa _) only [Nat.reduceAdd, Nat.reduceLT, RZ, Bool.and_self, Bool.not_true, c4]
    refine zaay (zcjs (lf := lf) (d := d + 9) (S := S) (by omega) (by omega) (by omega)) (by omega) (fun _ _ h => h.elim) ?_
    try simp (disch := first | omega | assumption | exact zaae _ _ | exact zaab _ _ _ | exact zaaf _ | exact zaad _ | exact zaaa _) only [Nat.reduceAdd, Nat.reduceLT, RZ, s1]
    rw [hdr]
    refine zaav okd (zcgl (lf := lf) (d := d + 6) bs (by omega) hlf (size := sz) (by omega) (by omega) most) (by omega) (fun _ _ h => h.elim) fun v5 h5 n5 hn5 fr5 hq5 => ?_
    obtain ⟨ov, u5, hd5, e5, rfl, hq5⟩ := hq5
    have hov : ∃ x y z, ov = .slice x y z := by
      cases e : ref14 sz bs most with
      | err e0 => rw [e] at hq5; exact ⟨_, _, _, hq5.2.1⟩
      | ok out u => rw [e] at hq5; obtain ⟨x, y, z⟩ := hq5.2.2.1.row.len; exact ⟨_, _, _, z⟩
    obtain ⟨ox, oy, oz, rfl⟩ := hov
    refine zagj zr49 _ ?_
    refine zabq sz49 (vs := [.slice ox oy oz, .int .i64 u5, .int .i64 hd5, .int .i64 e5]) rfl rfl rfl (zaaz _ _ _) (by omega) (.inl (by omega)) _ fun h6 g6 k6 => ?_
    have un6 : ∀ b, b < n5 → h6.get b = h5.get b := fun b hb => by rw [k6 b (by omega), zaap _ _ (by omega)]
    have gd6 : Gd h6 (n5 + 1) := gd4.keep (by omega) fun b hb => (un6 b (by omega)).trans (fr5 b hb id)
    have hn6 : n5 < n5 + 1 := by omega
    obtain ⟨X, u', hX, rg, ro, xr, hu5⟩ : ∃ (X : List Int) (u' : Nat), X.length ≤ 1000000 ∧ Row h6 (n5 + 1) 3 .i64 gv X ∧ Row h6 (n5 + 1) 3 .i64 (.slice ox oy oz) X ∧ RdAt h6 (n5 + 1) (n + 1) S 0 (a + u') ∧ (u5 = (u' : Int) ∧ ev = e5) := by
      cases e : ref14 sz bs most with
      | err e0 =>
        rw [e] at hev hq5
        obtain ⟨rfl, rfl, x4⟩ := hev
        obtain ⟨rfl, q2, rfl⟩ := hq5
        refine ⟨[], 0, by simp, (Own.nil _ 0 _ _ : Own _ 0 _ _ _ (intsV .i64 [])).row, ?_, x4.keep (by omega) ((un6 _ (by have := x4.lt; omega)).trans (fr5 _ x4.lt id)), rfl, rfl⟩
        rw [q2]
        exact (Own.nil _ 0 _ _ : Own _ 0 _ _ _ (intsV .i64 [])).row
      | ok out u =>
        rw [e] at hev hq5
        obtain ⟨rfl, og, x4⟩ := hev
        obtain ⟨rfl, rfl, oo, _⟩ := hq5
        have hlen := zcdi e
        exact ⟨out, u, by omega, (og.keep (n' := n5 + 1) (by omega) fun b hb => (un6 b (by have := (og.lt hb).2; omega)).trans (fr5 b (og.lt hb).2 id)).row, (oo.keep (n' := n5 + 1) (by omega) fun b hb => un6 b (oo.lt hb).2).row, x4.keep (by omega) ((un6 _ (by have := x4.lt; omega)).trans (fr5 _ x4.lt id)), rfl, rfl⟩
    obtain ⟨rfl, rfl⟩ := hu5
    have ee : (ev == ev) = true := beq_iff_eq.2 rfl
    have hi := xr.hi
    have wa : IntKind.i64.wrap ((a : Int) + (u' : Int)) = ((a + u' : Nat) : Int) := by rw [zaax (by omega) (by omega)]; omega
    have ea : (((a + u' : Nat) : Int) == ((a + u' : Nat) : Int)) = true := beq_iff_eq.2 rfl
    try simp (disch := first | omega | assumption | exact zaae _ _ | exact zaab _ _ _ | exact zaaf _ | exact zaad _ | exact zaaa _) only [Nat.reduceAdd, Nat.reduceLT, RZ]
    refine zapc ag3 n5 3 _ g6 hn6 rfl fun T1 t1 => ?_
    try simp (disch := first | omega | assumption | exact zaae _ _ | exact zaab _ _ _ | exact zaaf _ | exact zaad _ | exact zaaa _) only [Nat.reduceAdd, Nat.reduceLT, RZ, ee]
    refine zapc ag22 n5 0 _ g6 hn6 rfl fun T2 t2 => ?_
    try simp (disch := first | omega | assumption | exact zaae _ _ | exact zaab _ _ _ | exact zaaf _ | exact zaad _ | exact zaaa _) only [Nat.reduceAdd, Nat.reduceLT, RZ]
    refine zano okd (zciy lf (d + 10) _ _ gv (.slice ox oy oz) X X rg ro hX hlf) (by omega) fun T3 t3 => ?_
    rw [decide_eq_true (rfl : X = X)]
    try simp (disch := first | omega | assumption | exact zaae _ _ | exact zaab _ _ _ | exact zaaf _ | exact zaad _ | exact zaaa _) only [Nat.reduceAdd, Nat.reduceLT, RZ]
    refine zano okd (s_rAt (lf := lf) (d := d + 10) xr) (by omega) fun T4 t4 => ?_
    try simp (disch := first | omega | assumption | exact zaae _ _ | exact zaab _ _ _ | exact zaaf _ | exact zaad _ | exact zaaa _) only [Nat.reduceAdd, Nat.reduceLT, RZ]
    refine zapc ag3 n5 1 _ g6 hn6 rfl fun T5 t5 => ?_
    try simp (disch := first | omega | assumption | exact zaae _ _ | exact zaab _ _ _ | exact zaaf _ | exact zaad _ | exact zaaa _) only [Nat.reduceAdd, Nat.reduceLT, RZ, wa, ea]
    refine zano okd (k_two lf (d + 10) _ _ gd6) (by omega) fun T6 t6 => ?_
    try simp (disch := first | omega | assumption | exact zaae _ _ | exact zaab _ _ _ | exact zaaf _ | exact zaad _ | exact zaaa _) only [Nat.reduceAdd, Nat.reduceLT, RZ, t4.clash t5, Bool.not_false, Bool.and_self, zafo]
end
end Go.Proofs.YtdagfcflbphoiaaGreatDoor

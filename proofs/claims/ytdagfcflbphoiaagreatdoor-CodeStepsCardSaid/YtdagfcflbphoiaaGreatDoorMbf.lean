import Derived.Test.YtdagfcflbphoiaaGreatDoorMbe
namespace Go.Proofs.YtdagfcflbphoiaaGreatDoor
set_option linter.unusedVariables false
set_option linter.unusedSimpArgs false
open Go.RowKit Ev Cn

def heldOf (size : Nat) (l : List Bool) : Int := match runP (l.length + 1) pk0 l 0 with
  | .ok s _ => ((s.picks.length + s.t * size : Nat) : Int)
  | _ => 0
section
variable {lf d n : Nat} {h : H}
theorem zciq (l : List Bool) (hl : l.length ≤ 1000000) (hlf : 3000000 ≤ lf) {size : Nat} (hs3 : 3 ≤ size) (hsz : size ≤ 258) (most : Int) : Run (fun _ => False) n (zaac Tryz.prog gt lf (d + 5) 25 #[tx l, .int .i64 (size : Int), .int .i64 most]) h n (P25 n (ref14 size l most) (heldOf size l)) := by
  rw [zbhb]
  refine Run.inside_ ?_
  unfold zavy
  have agg : agg? Tryz.prog 49 = some true := by kernel_rfl
  refine zagr zr49 _ ?_
  refine zaay okd (s_r13 (lf := lf) (d := d + 2) l hl hlf) (by omega) (fun _ _ h => h.elim) fun v1 h1 n1 hn1 fr1 hq1 => ?_
  obtain ⟨pv, t, a, u, e, rfl, hq1⟩ := hq1
  have hpv : ∃ x y z, pv = .slice x y z := by
    cases hr : runP (l.length + 1) pk0 l 0 with
    | short => rw [hr] at hq1; exact ⟨_, _, _, hq1.2⟩
    | bad e0 => rw [hr] at hq1; exact ⟨_, _, _, hq1.2.2⟩
    | ok s a0 => rw [hr] at hq1; obtain ⟨x, y, z⟩ := hq1.2.2.2.row.len; exact ⟨_, _, _, z⟩
  obtain ⟨px, py, pz, rfl⟩ := hpv
  refine zagr zr88 _ ?_
  refine zabp sz88 (vs := [.slice px py pz, .int .i64 t, .int .i64 a, .int .i64 u, .int .i64 e]) rfl rfl rfl (zaaz _ _ _) (by omega) (.inl (by omega)) _ fun h2 g2 k2 => ?_
  have un : ∀ b, b < n + 1 → h2.get b = (h.set n (some ⟨49, true, [.slice none 0 0, .int .i64 0, .int .i64 0, .int .i64 0]⟩)).get b := fun b hb => by rw [k2 b (by omega), zaar _ _ (by omega)]; exact fr1 b hb id
  have gn := (un n (by omega)).trans (zaaz _ _ _)
  have hn1' : n1 < n1 + 1 := by omega
  have err : ∀ (e : Int) (h2 : H) (n2 : Nat), n < n2 → h2.get n = some ⟨49, true, [.slice none 0 0, .int .i64 0, .int .i64 0, .int .i64 0]⟩ → Run (fun _ => False) n ((inside (evStore Tryz.prog 49 (.pointer (some ⟨n, 0, none⟩)) (.agg #[.slice none 0 0, .int .i64 0, .int .i64 0, .int .i64 e]))).bind fun _ => (evLoad Tryz.prog 49 (.pointer (some ⟨n, 0, none⟩))).bind fun v => outK [v]) h2 n2 (P25 n (.err e) (heldOf size l)) := fun e h2 n2 hn2 g => by
    refine zabp sz49 (vs := [.slice none 0 0, .int .i64 0, .int .i64 0, .int .i64 e]) rfl rfl rfl g (by omega) (.inl (Nat.le_refl _)) _ fun h1 g1 k1 => ?_
    exact zabs agg sz49 g1 rfl (by omega) ⟨_, _, _, _, rfl, rfl, rfl, rfl⟩
  unfold ref14
  cases hr : runP (l.length + 1) pk0 l 0 with
  | short =>
    rw [hr] at hq1
    obtain ⟨rfl, _⟩ := hq1
    have z3 : ((3 : Int) != 0) = true := rfl
    try simp (disch := first | omega | assumption | exact zaae _ _ | exact zaab _ _ _ | exact zaaf _ | exact zaad _ | exact zaaa _) only [Nat.reduceAdd, Nat.reduceLT, RZ, g2, z3]
    exact err 3 h2 (n1 + 1) (by omega) gn
  | bad e0 =>
    rw [hr] at hq1
    obtain ⟨rfl, rfl, _⟩ := hq1
    have z3 : ((25 : Int) != 0) = true := rfl
    try simp (disch := first | omega | assumption | exact zaae _ _ | exact zaab _ _ _ | exact zaaf _ | exact zaad _ | exact zaaa _) only [Nat.reduceAdd, Nat.reduceLT, RZ, g2, z3]
    exact err 25 h2 (n1 + 1) (by omega) gn
  | ok s a0 =>
    rw [hr] at hq1
    obtain ⟨rfl, rfl, rfl, op⟩ := hq1
    obtain ⟨ok, h6, fin, hc, _, ha0⟩ := zbji _ _ _ _ _ _ zcbl (Nat.zero_le _) rfl (by decide) hr
    rw [Nat.zero_add] at ha0
    have z0 : ((0 : Int) != 0) = false := rfl
    have s1 := fun (k : Value → M Value) => tx_lo l .i64 ((a0 : Nat) : Int) k (by omega) (by omega)
    rw [Int.toNat_natCast] at s1
    have hdl : (l.drop a0).length = l.length - a0 := List.length_drop
    have fin2 := fin
    unfold Pk.fin at fin2
    rw [Bool.and_eq_true, decide_eq_true_eq, decide_eq_true_eq] at fin2
    have op2 : Own h2 (n + 1) n1 3 (.slice px py pz) (intsV .i64 (iN s.picks)) := op.keep (Nat.le_refl _) fun b hb => by
      have := op.lt hb
      rw [k2 b (by omega), zaar _ _ (by omega)]
    try simp (disch := first | omega | assumption | exact zaae _ _ | exact zaab _ _ _ | exact zaaf _ | exact zaad _ | exact zaaa _) only [Nat.reduceAdd, Nat.reduceLT, RZ, g2, z0]
    refine zafi ag3 n1 2 _ g2 (show n1 < n1 + 1 by omega) (Nat.le_refl _) rfl fun T1 t1 => ?_
    try simp (disch := first | omega | assumption | exact zaae _ _ | exact zaab _ _ _ | exact zaaf _ | exact zaad _ | exact zaaa _) only [Nat.reduceAdd, Nat.reduceLT, RZ, s1]
    refine zcae _ _ (Nat.le_refl _) fun T2 t2 => ?_
    try simp (disch := first | omega | assumption | exact zaae _ _ | exact zaab _ _ _ | exact zaaf _ | exact zaad _ | exact zaaa _) only [Nat.reduceAdd, Nat.reduceLT, RZ]
    refine zafi ag3 n1 1 _ g2 (show n1 < n1 + 1 by omega) (Nat.le_refl _) rfl fun T3 t3 => ?_
    try simp (disch := first | omega | assumption | exact zaae _ _ | exact zaab _ _ _ | exact zaaf _ | exact zaad _ | exact zaaa _) only [Nat.reduceAdd, Nat.reduceLT, RZ]
    refine zafa okd (zcap (lf := lf) (d := d) (l.drop a0) (by omega) hlf hs3 hsz h6) (by omega) fun v6 h6' n6 T4 hn6 fr6 hq6 t4 => ?_
    obtain ⟨tv, u1, e1, rfl, ⟨tx1, ty1, tz1, rfl⟩, hq6⟩ := hq6
    refine zbtt zr91 _ hn6 fun T5 t5 => ?_
    refine zbpn (fun _ _ => rfl) ?_
    refine zabp sz91 (vs := [.slice tx1 ty1 tz1, .int .i64 u1, .int .i64 e1]) rfl rfl rfl (zaaz _ _ _) (by omega) (.inl (by omega)) _ fun h7 g7 k7 => ?_
    have un7 : ∀ b, b < n1 + 1 → h7.get b = h2.get b := fun b hb => by rw [k7 b (by omega), zaar _ _ (by omega)]; exact fr6 b hb
    have gn7 := (un7 n (by omega)).trans gn
    have g27 := (un7 n1 (by omega)).trans g2
    have hn6' : n6 < n6 + 1 := by omega
    have hn16 : n1 < n6 + 1 := by omega
    cases hr2 : runTs s.t size (l.drop a0) 0 [] with
    | short =>
      rw [hr2] at hq6
      subst hq6
      have z3 : ((3 : Int) != 0) = true := rfl
      try simp (disch := first | omega | assumption | exact zaae _ _ | exact zaab _ _ _ | exact zaaf _ | exact zaad _ | exact zaaa _) only [Nat.reduceAdd, Nat.reduceLT, RZ, t4.clash t5, Bool.not_false, Bool.and_self, zaew, g7, z3]
      exact err 3 h7 (n6 + 1) (by omega) gn7
    | bad e0 =>
      rw [hr2] at hq6
      obtain ⟨rfl, rfl⟩ := hq6
      have z3 : ((22 : Int) != 0) = true := rfl
      try simp (disch := first | omega | assumption | exact zaae _ _ | exact zaab _ _ _ | exact zaaf _ | exact zaad _ | exact zaaa _) only [Nat.reduceAdd, Nat.reduceLT, RZ, t4.clash t5, Bool.not_false, Bool.and_self, zaew, g7, z3]
      exact err 22 h7 (n6 + 1) (by omega) gn7
    | ok lns u2 =>
      rw [hr2] at hq6
      obtain ⟨rfl, rfl, tt⟩ := hq6
      obtain ⟨hw, hln, _, hu2⟩ := zbld _ _ _ _ _ _ (fun ln hl => absurd hl (by simp)) hr2
      rw [Nat.zero_add] at hu2
      have hln : lns.length = s.t := by rw [hln]; show 0 + s.t = s.t; omega
      have w1 : IntKind.i64.wrap (((a0 : Nat) : Int) + ((u2 : Nat) : Int)) = ((a0 + u2 : Nat) : Int) := by rw [zaav (by omega) (by omega)]; omega
      try simp (disch := first | omega | assumption | exact zaae _ _ | exact zaab _ _ _ | exact zaaf _ | exact zaad _ | exact zaaa _) only [Nat.reduceAdd, Nat.reduceLT, RZ, t4.clash t5, Bool.not_false, Bool.and_self, zaew, g7, g27, z0, w1]
      have rp : Row h7 (n6 + 1) 3 .i64 (.slice px py pz) (iN s.picks) := (op2.keep (by omega : n1 ≤ n6 + 1) fun b hb => un7 b (by have := (op2.lt hb).2; omega)).row
      have tt7 : TT h7 0 (n6 + 1) (.slice tx1 ty1 tz1) lns := by
        obtain ⟨cs, o, q1, q2⟩ := tt.keep (h' := h7) (by omega : n6 ≤ n6 + 1) fun b hb hb2 => by rw [k7 b (by omega), zaar _ _ (by omega)]
        exact ⟨cs, o.low (Nat.zero_le _), q1, fun i hi => by obtain ⟨b, p1, p2, p3, p4⟩ := q2 i hi; exact ⟨b, p1, p2, Nat.zero_le _, p4⟩⟩
      have hh : heldOf size l = ((s.picks.length + s.t * size : Nat) : Int) := by unfold heldOf; rw [hr]
      rw [hh]
      exact zcfs (n := n) (d := d) hl hlf hs3 hsz (lns := lns) (took := s.picks) most hw (fun v hv => by rw [hln]; exact ok.picks v hv) hln h6 (by omega) (q1 := n1) (q2 := n6) (lo := n6 + 1) (x1 := 0) (y2 := 0) (by omega) ⟨by omega, by omega⟩ ⟨by omega, by omega⟩ (l.length + 1) lf h7 (n6 + 1) (.slice none 0 0) [] (a0 + u2) (Nat.le_refl _) gn7 g27 g7 rp tt7 (by rw [List.length_drop]; omega) (by omega) (by omega) (by rw [List.length_drop]; show 0 + _ ≤ _; omega) (Own.nil _ _ _ _)
end
end Go.Proofs.YtdagfcflbphoiaaGreatDoor

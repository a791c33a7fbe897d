import Derived.Test.YtdagfcflbphoiaaGreatDoorMal
namespace Go.Proofs.YtdagfcflbphoiaaGreatDoor
set_option linter.unusedVariables false
set_option linter.unusedSimpArgs false
open Go.RowKit Ev Cn

theorem zbpe {f : Nat → Nat} {n j : Nat} (h : j ≤ n) : upTo f n j = f j := by unfold upTo; rw [if_pos h]
section
variable {lf d n p c lo hi : Nat} {h : H} {S : List UInt8} {D A : Nat} {ln : List Nat}
theorem zcim (x : RdAt h n p S D A) (k : CodeIn h lo hi c ln) (w : Wh ln) (hh : hi ≤ n) (hp : p < lo) (hl : ln.length ≤ 258) (hlf : 100 ≤ lf) : Run (fun b => b = p) n (zaac Tryz.prog gt lf (d + 4) 120 #[.pointer (some ⟨c, 0, none⟩), .pointer (some ⟨p, 0, none⟩)]) h n fun v h' n' => n' = n ∧
    ((getC ln (restB S D A) = none ∧ v = .tuple #[.int .i64 0, .int .i64 3] ∧ ∃ B, RdAt h' n p S D B) ∨ ∃ s, getC ln (restB S D A) = some s ∧ v = .tuple #[.int .i64 (s : Int), .int .i64 0] ∧ RdAt h' n p S D (A + ln.getD s 0)) := by
  have x0 := x
  have k0 := k
  obtain ⟨kge, klt, lv, cv, ov, g, a1, a2, b1, b2, o1, o2⟩ := k
  rw [zbjx]
  refine Run.inside_ ?_
  unfold zaxe
  obtain ⟨bs, hbs⟩ : ∃ bs, restB S D A = bs := ⟨_, rfl⟩
  have blen := x.len
  have xlo := x.lo
  rw [hbs] at blen ⊢
  have cp : c ≠ p := by omega
  refine zafq 20 (fun fu i (q : Nat) => zadz lf (d + 3) fu (zacf lf (d + 3)) (.pointer (some ⟨c, 0, none⟩)) (.pointer (some ⟨p, 0, none⟩)) (.int .i64 0) (.int .i64 0) (.int .i64 (q : Int)) (.int .i64 ((i + 1 : Nat) : Int)))
    (fun i q h' n' => n' = n ∧ (∀ b, b ≠ p → b < n → h'.get b = h.get b) ∧ i ≤ bs.length ∧ q = num (bs.take i) 0 ∧ RdAt h' n p S D (A + i) ∧ Past ln bs i) ?_ ?_ lf 0 0 _ _ (Nat.zero_le _) (by omega) ⟨rfl, fun _ _ _ => rfl, Nat.zero_le _, rfl, x, by unfold Past; rw [zbjd w]; exact Nat.zero_le _⟩
  · rintro fu q h' n' ⟨rfl, hk, hb, rfl, x', past⟩
    have h1 := w.full
    have h2 := zagu (bs.take 20)
    unfold Past at past
    rw [h1] at past
    rw [List.length_take, Nat.min_eq_left hb] at h2
    omega
  · rintro fu i q h' n' hi' ⟨rfl, hk, hb, rfl, x', past⟩ next
    have e1 : ((i + 1 : Nat) : Int) ≤ 20 := by omega
    have e11 : ((1 : Nat) : Int) = 1 := rfl
    have rest' : restB S D (A + i) = bs.drop i := by rw [← zawr xlo, hbs]
    rw [zbdf]
    try simp (disch := first | omega | assumption | exact zaae _ _ | exact zaab _ _ _ | exact zaaf _ | exact zaad _ | exact zaaa _) only [Nat.reduceAdd, Nat.reduceLT, RZ, e1]
    refine zaay okd (zbcs (lf := lf) (d := d) x' 1 (by omega) (by omega)) (Nat.le_refl _) (fun b _ hb' => .inr hb') fun v1 h1 n1 hn1 fr1 hq => ?_
    obtain ⟨rfl, hq⟩ := hq
    rw [rest'] at hq
    rcases hq with ⟨sh, rfl, rfl⟩ | ⟨lg, rfl, x1⟩
    · have z1 : ((3 : Int) != 0) = true := rfl
      try simp (disch := first | omega | assumption | exact zaae _ _ | exact zaab _ _ _ | exact zaaf _ | exact zaad _ | exact zaaa _) only [Nat.reduceAdd, Nat.reduceLT, RZ, ext0, ext1, z1]
      rw [zbgn]
      try simp (disch := first | omega | assumption | exact zaae _ _ | exact zaab _ _ _ | exact zaaf _ | exact zaad _ | exact zaaa _) only [Nat.reduceAdd, Nat.reduceLT, RZ]
      have bl : bs.length = i := by simp at sh; omega
      refine .inl ⟨zbqq fun s m => ?_, _, x'⟩
      have := past.no (by omega) (i := s) (by have := m.2.1; omega)
      exact this m
    · have hi2 : i < bs.length := by simp at lg; omega
      have z0 : ((0 : Int) != 0) = false := rfl
      have t1 : (bs.drop i).take 1 = [bs[i]] := by rw [List.drop_eq_getElem_cons hi2, List.take_succ_cons, List.take_zero]
      have tk : bs.take (i + 1) = bs.take i ++ [bs[i]] := List.take_succ_eq_append_getElem hi2
      have nb : num [bs[i]] 0 = bn bs[i] := by show 2 * 0 + bn bs[i] = _; omega
      have nn : num (bs.take (i + 1)) 0 = 2 * num (bs.take i) 0 + bn bs[i] := by rw [tk, zbde]
      have bl := bn_lt bs[i]
      have pw := zagu (bs.take (i + 1))
      rw [List.length_take, Nat.min_eq_left (by omega)] at pw
      have p20 : 2 ^ (i + 1) ≤ 2 ^ 20 := Nat.pow_le_pow_right (by decide) (by omega)
      have fle := past.next hi2
      have frl : fromC ln (i + 1) ≤ 258 := Nat.le_trans (zblx ln _) hl
      have frl2 : fromC ln (i + 1 + 1) ≤ 258 := Nat.le_trans (zblx ln _) hl
      have capi := w.cap (n := i + 1) (by omega)
      rw [t1, nb]
      have hg1 : h1.get c = some ⟨111, true, codeL lv cv ov (upTo (firstC ln) 20) (upTo (fromC ln) 21)⟩ := by rw [fr1 c (by omega) cp, hk c cp (by omega)]; exact g
      have c1 : (codeL lv cv ov (upTo (firstC ln) 20) (upTo (fromC ln) 21))[3 + (i + 1)]? = some (.int .i64 (firstC ln (i + 1) : Int)) := by rw [zcgu (by omega), zbpe (by omega)]
      have c2 : (codeL lv cv ov (upTo (firstC ln) 20) (upTo (fromC ln) 21))[24 + (i + 1)]? = some (.int .i64 (fromC ln (i + 1) : Int)) := by rw [zbyi (by omega), zbpe (by omega)]
      have c3 : (codeL lv cv ov (upTo (firstC ln) 20) (upTo (fromC ln) 21))[24 + (i + 1 + 1)]? = some (.int .i64 (fromC ln (i + 1 + 1) : Int)) := by rw [zbyi (by omega), zbpe (by omega)]
      have c4 : (codeL lv cv ov (upTo (firstC ln) 20) (upTo (fromC ln) 21))[2]? = some ov := rfl
      have w1 : IntKind.i64.wrap (2 * ((num (bs.take i) 0 : Nat) : Int)) = ((2 * num (bs.take i) 0 : Nat) : Int) := by rw [zaav (by omega) (by omega)]; omega
      have w2 : IntKind.i64.wrap ((bn bs[i] : Nat) : Int) = ((bn bs[i] : Nat) : Int) := zaav (by omega) (by omega)
      have w3 : IntKind.i64.wrap (((2 * num (bs.take i) 0 : Nat) : Int) + ((bn bs[i] : Nat) : Int)) = ((num (bs.take (i + 1)) 0 : Nat) : Int) := by rw [zaav (by omega) (by omega)]; omega
      have w4 : IntKind.i64.wrap (((fromC ln (i + 1) : Nat) : Int) + ((num (bs.take (i + 1)) 0 : Nat) : Int)) = ((fromC ln (i + 1) + num (bs.take (i + 1)) 0 : Nat) : Int) := by rw [zaav (by omega) (by omega)]; omega
      have w5 : IntKind.i64.wrap (((fromC ln (i + 1) + num (bs.take (i + 1)) 0 : Nat) : Int) - ((firstC ln (i + 1) : Nat) : Int)) = ((fromC ln (i + 1) + (num (bs.take (i + 1)) 0 - firstC ln (i + 1)) : Nat) : Int) := by rw [zaav (by omega) (by omega)]; omega
      have w6 : IntKind.i64.wrap (((i + 1 : Nat) : Int) + 1) = ((i + 1 + 1 : Nat) : Int) := by rw [zaav (by omega) (by omega)]; rfl
      have w6' : ((i + 1 : Nat) : Int) + 1 = ((i + 1 + 1 : Nat) : Int) := rfl
      have i0 : (0 : Int) ≤ ((i + 1 : Nat) : Int) := by omega
      have i1 : ((i + 1 : Nat) : Int) < 21 := by omega
      have i2 : ((i + 1 : Nat) : Int) < 22 := by omega
      have i3 : (0 : Int) ≤ ((i + 1 + 1 : Nat) : Int) := by omega
      have i4 : ((i + 1 + 1 : Nat) : Int) < 22 := by omega
      have it : ((i + 1 : Nat) : Int).toNat = i + 1 := rfl
      have it2 : ((i + 1 + 1 : Nat) : Int).toNat = i + 1 + 1 := rfl
      have cn' : c < n1 := by omega
      have fs : fromC ln (i + 1 + 1) = fromC ln (i + 1) + cn ln (i + 1) := rfl
      by_cases found : num (bs.take (i + 1)) 0 < firstC ln (i + 1) + cn ln (i + 1)
      · have e5 : ((fromC ln (i + 1) + (num (bs.take (i + 1)) 0 - firstC ln (i + 1)) : Nat) : Int) < ((fromC ln (i + 1 + 1) : Nat) : Int) := by omega
        obtain ⟨s, hs⟩ := hit (ln := ln) (bs := bs) (n := i + 1) (by omega) fle found
        rcases hs with ⟨hs1, hs2⟩ | hs
        rotate_left
        · omega
        obtain ⟨mt, hsl⟩ := hs2 (by omega)
        have o1' : Row h1 n1 3 .i64 ov (iN (ordTo ln 21)) := (o1.keep' (n' := n1) hh fun b hb' => by
          have h1 := o1.lt hb'
          have h2 := o2 b hb'
          rw [fr1 b (by omega) (by omega)]; exact hk b (by omega) (by omega))
        have ol : (iN (ordTo ln 21)).length = fromC ln 21 := by rw [zadn, zafg]
        have rl : fromC ln (i + 1) + (num (bs.take (i + 1)) 0 - firstC ln (i + 1)) < fromC ln 21 := by
          have := (List.getElem?_eq_some_iff.1 hs1).1
          rw [zafg] at this
          exact this
        obtain ⟨b, off, cap, o, ks, hov, hgo, hbo, _, _, _, hat⟩ := o1'.some (by omega)
        have co := hat _ (by rw [ol]; exact rl)
        have cs : (iN (ordTo ln 21)).getD (fromC ln (i + 1) + (num (bs.take (i + 1)) 0 - firstC ln (i + 1))) 0 = (s : Int) := by
          rw [iN_at, List.getD_eq_getElem?_getD, hs1]
          rfl
        rw [cs] at co
        rw [ol] at hov
        subst hov
        have e6 : (0 : Int) ≤ ((fromC ln (i + 1) + (num (bs.take (i + 1)) 0 - firstC ln (i + 1)) : Nat) : Int) := by omega
        have e7 : ((fromC ln (i + 1) + (num (bs.take (i + 1)) 0 - firstC ln (i + 1)) : Nat) : Int) < ((fromC ln 21 : Nat) : Int) := by omega
        try simp (disch := first | omega | assumption | exact zaae _ _ | exact zaab _ _ _ | exact zaaf _ | exact zaad _ | exact zaaa _) only [Nat.reduceAdd, Nat.reduceLT, RZ, ext0, ext1, z0, w1, w2, w3, hg1, i0, i1, i2, i3, i4, it, it2, c1, c2, c3, c4, w4, w5, w6, w6', e5, e6, e7, hgo, co]
        rw [zbgo]
        try simp (disch := first | omega | assumption | exact zaae _ _ | exact zaab _ _ _ | exact zaaf _ | exact zaad _ | exact zaaa _) only [Nat.reduceAdd, Nat.reduceLT, RZ]
        refine .inr ⟨s, zbhy mt, rfl, ?_⟩
        rw [hsl]
        exact x1
      · have e5 : ¬ ((fromC ln (i + 1) + (num (bs.take (i + 1)) 0 - firstC ln (i + 1)) : Nat) : Int) < ((fromC ln (i + 1 + 1) : Nat) : Int) := by omega
        try simp (disch := first | omega | assumption | exact zaae _ _ | exact zaab _ _ _ | exact zaaf _ | exact zaad _ | exact zaaa _) only [Nat.reduceAdd, Nat.reduceLT, RZ, ext0, ext1, z0, w1, w2, w3, hg1, i0, i1, i2, i3, i4, it, it2, c1, c2, c3, w4, w5, w6, w6', e5]
        refine next _ _ _ ⟨rfl, fun b hb1 hb2 => by rw [fr1 b hb2 hb1]; exact hk b hb1 hb2, by omega, rfl, x1, ?_⟩
        unfold Past
        omega
theorem zckk (x : RdAt h n p S D A) (k : CodeIn h lo hi c ln) (w : Wh ln) (hh : hi ≤ n) (hp : p < lo) (hl : ln.length ≤ 258) (hlf : 100 ≤ lf) : Run (fun b => b = p) n (zaac Tryz.prog gt lf (d + 5) 93 #[.pointer (some ⟨c, 0, none⟩), .pointer (some ⟨p, 0, none⟩)]) h n fun v h' n' => n' = n ∧
    ((getC ln (restB S D A) = none ∧ v = .tuple #[.int .i64 0, .int .i64 3] ∧ RdAt h' n p S D A) ∨ ∃ s, getC ln (restB S D A) = some s ∧ v = .tuple #[.int .i64 (s : Int), .int .i64 0] ∧ RdAt h' n p S D (A + ln.getD s 0)) := by
  rw [zbjr]
  refine Run.inside_ ?_
  unfold zayk
  try simp (disch := first | omega | assumption | exact zaae _ _ | exact zaab _ _ _ | exact zaaf _ | exact zaad _ | exact zaaa _) only [Nat.reduceAdd, Nat.reduceLT, RZ]
  refine zaaw (s_rAt x) (Nat.le_refl _) (fun _ _ h => h.elim) ?_
  refine zaay okd (zcim (d := d) x k w hh hp hl hlf) (Nat.le_refl _) (fun b _ hb' => .inr hb') fun v1 h1 n1 hn1 fr1 hq => ?_
  obtain ⟨rfl, hq⟩ := hq
  rcases hq with ⟨q1, rfl, B, x1⟩ | ⟨s, q1, rfl, x1⟩
  · have z1 : ((3 : Int) != 0) = true := rfl
    try simp (disch := first | omega | assumption | exact zaae _ _ | exact zaab _ _ _ | exact zaaf _ | exact zaad _ | exact zaaa _) only [Nat.reduceAdd, Nat.reduceLT, RZ, ext0, ext1, z1]
    refine zaay okd (zbol (lf := lf) (d := d + 2) x1 A x.lo x.hi) (Nat.le_refl _) (fun b _ hb' => .inr hb') fun v2 h2 n2 hn2 fr2 hq2 => ?_
    obtain ⟨_, rfl, x2⟩ := hq2
    try simp (disch := first | omega | assumption | exact zaae _ _ | exact zaab _ _ _ | exact zaaf _ | exact zaad _ | exact zaaa _) only [Nat.reduceAdd, Nat.reduceLT, RZ]
    exact .inl ⟨q1, x2⟩
  · have z0 : ((0 : Int) != 0) = false := rfl
    try simp (disch := first | omega | assumption | exact zaae _ _ | exact zaab _ _ _ | exact zaaf _ | exact zaad _ | exact zaaa _) only [Nat.reduceAdd, Nat.reduceLT, RZ, ext0, ext1, z0]
    exact .inr ⟨s, q1, rfl, x1⟩
end
end Go.Proofs.YtdagfcflbphoiaaGreatDoor

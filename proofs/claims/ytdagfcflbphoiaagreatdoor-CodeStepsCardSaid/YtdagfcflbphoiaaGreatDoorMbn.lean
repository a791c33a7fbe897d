import Derived.Test.YtdagfcflbphoiaaGreatDoorMbj
import Derived.Test.YtdagfcflbphoiaaGreatDoorMbm
namespace Go.Proofs.YtdagfcflbphoiaaGreatDoor
set_option linter.unusedVariables false
set_option linter.unusedSimpArgs false
open Go.RowKit Ev Cn

def Told (n q sz : Nat) (hS : H) (S : List UInt8) (wv : Value) (u hd ev : Int) : Prop := match ref14 sz (bitsS S) ((bitsS S).length : Int) with
  | .err e => ev = e
  | .ok out a => ev = 0 ∧ u = (a : Int) ∧ hd = heldOf sz (bitsS S) ∧ Row hS (q + 1) 3 .i64 wv out ∧ (∀ b, InBlk wv b → n + 6 ≤ b ∧ b ≤ q) ∧ out.length ≤ 1000000
section
variable {lf d n q sz cut : Nat} {hS : H} {S : List UInt8} {wv : Value} {u hd ev : Int}
theorem zcib (hlf : 3000000 ≤ lf) (hsl : S.length ≤ 120) (hcut : cut ≤ S.length) (gd : Gd hS n) (hnq : n + 6 ≤ q) (gq : hS.get q = some ⟨49, true, [wv, .int .i64 u, .int .i64 hd, .int .i64 ev]⟩) (ht : Told n q sz hS S wv u hd ev) (hsz : sz ≤ 258) :
    ∀ (K fu n' : Nat) (h : H) (c : Cd) (m : Cm) (gv : Value) (out : List Int) (A : Nat) (come : Bool) (i : Nat), q < n' → (bitsS S).length - A + (if come = true then 0 else 1) < K → K ≤ fu → i + K ≤ 8 * S.length + 40 →
      RdAt h n' (n + 5) (if come = true then S else S.take cut) 0 A → CAt h n' (n + 4) (n + 5) c m → Apt (n + 5) (n + 4) m → m.pw = false → m.dw = false → Jn sz (bitsS S) c A out → Own h (q + 1) n' 3 gv (intsV .i64 out) →
      (∀ b, InBlk gv b → ¬ m.F (n + 4) b ∧ ¬ InBlk m.tv b ∧ ∀ y ∈ m.iv, ¬ (y.1 ≤ b ∧ b < y.2.1)) → (∀ b, m.F (n + 4) b → n ≤ b ∧ (b < n + 6 ∨ q < b)) → (∀ b, b < n ∨ (n + 6 ≤ b ∧ b ≤ q) → h.get b = hS.get b) →
      Run (fun _ => False) n (zacc lf (d + 11) fu (zadf lf (d + 11)) (.string ⟨S.toArray⟩) (.int .i64 (cut : Int)) (.int .i64 (sz : Int)) (.bool false) (.pointer (some ⟨n + 4, 0, none⟩)) (.int .i64 0) (.pointer (some ⟨n + 5, 0, none⟩)) (.pointer (some ⟨q, 0, none⟩)) (.bool come) gv (.bool false) (.bool false) (.int .i64 ((8 * S.length + 40 : Nat) : Int)) (.int .i64 (i : Int))) h n' fun v _ _ => v = .bool true := by
  intro K
  induction K with
  | zero => intro fu n' h c m gv out A come i _ hK; omega
  | succ K ih =>
    intro fu n' h c m gv out A come i hn' hK hfu hi x y ap hpw hdw j og hgf hF hS'
    obtain ⟨fu, rfl⟩ : ∃ f, fu = f + 1 := ⟨fu - 1, by omega⟩
    have tl := zapf S
    have jol := j.ol
    have jal := j.al
    have gqn := (hS' q (.inr ⟨hnq, Nat.le_refl _⟩)).trans gq
    have two : ∀ (h2 : H) (n2 : Nat), n' ≤ n2 → (∀ b, b < n → h2.get b = hS.get b) → Gd h2 n2 := fun h2 n2 a b => gd.keep (by omega) b
    have c1 : (i : Int) < ((8 * S.length + 40 : Nat) : Int) := by omega
    obtain ⟨ga, gc, hgv⟩ := og.row.len
    rw [zaux]
    try simp (disch := first | omega | assumption | exact zaae _ _ | exact zaab _ _ _ | exact zaaf _ | exact zaad _ | exact zaaa _) only [Nat.reduceAdd, Nat.reduceLT, RZ, c1]
    refine zaaw (zbys (lf := lf) (d := d + 10) y) (by omega) (fun _ _ h => h.elim) ?_
    by_cases hd1 : c.done = true
    · obtain ⟨r1, r2⟩ := j.done hd1
      obtain ⟨f1, f2, f3⟩ := j.fin hd1
      unfold Told at ht
      rw [r1] at ht
      obtain ⟨rfl, rfl, rfl, rw_, hwb, hol⟩ := ht
      have dead := zbxx (lf := lf) (d := d + 2) y (.inl hd1) (n + 5) (by omega)
      rw [if_pos hd1] at dead
      rw [hd1]
      have e0 : ((0 : Int) == 0) = true := rfl
      have e7 : ((7 : Int) == 7) = true := rfl
      try simp (disch := first | omega | assumption | exact zaae _ _ | exact zaab _ _ _ | exact zaaf _ | exact zaad _ | exact zaaa _) only [Nat.reduceAdd, Nat.reduceLT, RZ]
      refine zaaw dead (by omega) (fun _ _ h => h.elim) ?_
      have rw2 : Row h n' 3 .i64 wv out := rw_.keep' (by omega) fun b hb => hS' b (.inr (hwb b hb))
      have hcnt := j.cnt
      have ea : ((A : Int) == (A : Int)) = true := beq_iff_eq.2 rfl
      have eh : (((c.pk.picks.length + c.size * c.codes.length : Nat) : Int) == ((c.pk.picks.length + c.size * c.codes.length : Nat) : Int)) = true := beq_iff_eq.2 rfl
      have ec : ((out.length : Int) == (out.length : Int)) = true := beq_iff_eq.2 rfl
      have w0 : ∃ x y z, wv = .slice x y z := by obtain ⟨x, y, e⟩ := rw2.len; exact ⟨_, _, _, e⟩
      obtain ⟨wx, wy, wz, rfl⟩ := w0
      rw [r2] at gqn
      try simp (disch := first | omega | assumption | exact zaae _ _ | exact zaab _ _ _ | exact zaaf _ | exact zaad _ | exact zaaa _) only [Nat.reduceAdd, Nat.reduceLT, RZ, ext0, ext1]
      refine zafi ag3 q 3 _ gqn hn' (Nat.le_refl _) rfl fun T0 t0 => ?_
      try simp (disch := first | omega | assumption | exact zaae _ _ | exact zaab _ _ _ | exact zaaf _ | exact zaad _ | exact zaaa _) only [Nat.reduceAdd, Nat.reduceLT, RZ, e0, e7]
      refine zafa okd (s_rAt (lf := lf) (d := d + 10) x) (by omega) fun v2 h2 n2 T2 hn2 fr2 hq2 t2 => ?_
      obtain ⟨rfl, rfl, rfl⟩ := hq2
      try simp (disch := first | omega | assumption | exact zaae _ _ | exact zaab _ _ _ | exact zaaf _ | exact zaad _ | exact zaaa _) only [Nat.reduceAdd, Nat.reduceLT, RZ]
      refine zafi ag3 q 1 _ gqn hn' (Nat.le_refl _) rfl fun T3 t3 => ?_
      try simp (disch := first | omega | assumption | exact zaae _ _ | exact zaab _ _ _ | exact zaaf _ | exact zaad _ | exact zaaa _) only [Nat.reduceAdd, Nat.reduceLT, RZ, ea]
      refine zafa okd (zcgr (lf := lf) (d := d + 8) y f1 (by rw [j.sz]; exact hsz) (by omega)) (by omega) fun v4 h4 n4 T4 hn4 fr4 hq4 t4 => ?_
      subst hq4
      have g4 := (fr4 q hn').trans gqn
      try simp (disch := first | omega | assumption | exact zaae _ _ | exact zaab _ _ _ | exact zaaf _ | exact zaad _ | exact zaaa _) only [Nat.reduceAdd, Nat.reduceLT, RZ]
      refine zafi ag3 q 2 _ g4 hn' hn4 rfl fun T5 t5 => ?_
      try simp (disch := first | omega | assumption | exact zaae _ _ | exact zaab _ _ _ | exact zaaf _ | exact zaad _ | exact zaaa _) only [Nat.reduceAdd, Nat.reduceLT, RZ, eh]
      refine zafa okd (zcfu (lf := lf) (d := d + 10) (y.keep hn4 fun b hb _ => fr4 b hb)) (by omega) fun v6 h6 n6 T6 hn6 fr6 hq6 t6 => ?_
      obtain ⟨rfl, rfl, rfl⟩ := hq6
      subst hgv
      try simp (disch := first | omega | assumption | exact zaae _ _ | exact zaab _ _ _ | exact zaaf _ | exact zaad _ | exact zaaa _) only [Nat.reduceAdd, Nat.reduceLT, RZ, hcnt, ec]
      refine zafi ag22 q 0 _ g4 hn' hn4 rfl fun T7 t7 => ?_
      try simp (disch := first | omega | assumption | exact zaae _ _ | exact zaab _ _ _ | exact zaaf _ | exact zaad _ | exact zaaa _) only [Nat.reduceAdd, Nat.reduceLT, RZ]
      refine zafa okd (zcjy lf (d + 10) _ _ (.slice ga out.length gc) (.slice wx wy wz) out out ((og.keep hn4 fun b hb => fr4 b (og.lt hb).2).row) (rw2.keep' hn4 fun b hb => fr4 b (rw2.lt hb)) hol hlf) (by omega) fun v8 h8 n8 T8 hn8 fr8 hq8 t8 => ?_
      obtain ⟨rfl, rfl, rfl⟩ := hq8
      rw [decide_eq_true (rfl : out = out)]
      try simp (disch := first | omega | assumption | exact zaae _ _ | exact zaab _ _ _ | exact zaaf _ | exact zaad _ | exact zaaa _) only [Nat.reduceAdd, Nat.reduceLT, RZ]
      refine zafa okd (k_two lf (d + 10) _ _ (two _ _ hn4 fun b hb => (fr4 b (by omega)).trans (hS' b (.inl hb)))) (by omega) fun v9 h9 n9 T9 hn9 fr9 hq9 t9 => ?_
      obtain ⟨rfl, rfl, rfl⟩ := hq9
      try simp (disch := first | omega | assumption | exact zaae _ _ | exact zaab _ _ _ | exact zaaf _ | exact zaad _ | exact zaaa _) only [Nat.reduceAdd, Nat.reduceLT, RZ, t2.clash t3, t4.clash t5, Bool.not_false, Bool.and_self, zaew]
      rw [zawn]
      try simp (disch := first | omega | assumption | exact zaae _ _ | exact zaab _ _ _ | exact zaaf _ | exact zaad _ | exact zaaa _) only [Nat.reduceAdd, Nat.reduceLT, RZ]
    · have hd2 : c.done = false := by simpa using hd1
      have k := j.ok hd2
      rw [hd2]
      try simp (disch := first | omega | assumption | exact zaae _ _ | exact zaab _ _ _ | exact zaaf _ | exact zaad _ | exact zaaa _) only [Nat.reduceAdd, Nat.reduceLT, RZ]
      refine zaaw (s_rAt (lf := lf) (d := d + 10) x) (by omega) (fun _ _ h => h.elim) ?_
      refine zaay okd (zcir (lf := lf) (d := d + 2) x y ap hpw hdw k (by rw [j.cnt]; omega) hlf) (by omega) (fun b _ hb => .inl (by
        rcases hb with rfl | hb
        · omega
        · exact (hF b hb).1)) fun v1 h1 n1 hn1 fr1 hq1 => ?_
      have hS1 : ∀ b, b < n ∨ (n + 6 ≤ b ∧ b ≤ q) → h1.get b = hS.get b := fun b hb => (fr1 b (by omega) (by
        rintro (rfl | e)
        · omega
        · have := hF b e
          omega)).trans (hS' b hb)
      obtain ⟨bs, hbs⟩ : ∃ bs, restB (if come = true then S else S.take cut) 0 A = bs := ⟨_, rfl⟩
      have hT : ∃ t, (bitsS S).drop A = bs ++ t ∧ (come = true → t = []) := by
        rw [← hbs]
        unfold restB
        rw [Nat.mul_zero, Nat.sub_zero]
        by_cases hc : come = true
        · rw [if_pos hc]; exact ⟨[], (List.append_nil _).symm, fun _ => rfl⟩
        · have hh := x.hi
          rw [if_neg hc] at hh ⊢
          refine ⟨bitsS (S.drop cut), ?_, fun e => absurd e hc⟩
          conv => lhs; rw [← List.take_append_drop cut S]
          rw [zbpy, List.drop_append_of_le_length (by rw [zapf]; omega)]
      obtain ⟨tt, hT, hT0⟩ := hT
      unfold CPost at hq1
      rw [hbs] at hq1
      have aa : ((A : Int) != (A : Int)) = false := by simp
      cases e : stepC c bs with
      | short =>
        rw [e] at hq1
        obtain ⟨rfl, x1, y1⟩ := hq1
        have z1 : ((3 : Int) == 0) = false := rfl
        have z2 : ((3 : Int) == 3) = true := rfl
        have z3 : ((0 : Int) != 0) = false := rfl
        try simp (disch := first | omega | assumption | exact zaae _ _ | exact zaab _ _ _ | exact zaaf _ | exact zaad _ | exact zaaa _) only [Nat.reduceAdd, Nat.reduceLT, RZ, ext0, ext1, z1, z2]
        refine zaaw (s_rAt (lf := lf) (d := d + 10) x1) (by omega) (fun _ _ h => h.elim) ?_
        try simp (disch := first | omega | assumption | exact zaae _ _ | exact zaab _ _ _ | exact zaaf _ | exact zaad _ | exact zaaa _) only [Nat.reduceAdd, Nat.reduceLT, RZ, aa, z3]
        by_cases hc : come = true
        · subst hc
          have r1 := j.short hd2 (by rw [hT, hT0 rfl, List.append_nil]; exact e)
          unfold Told at ht
          rw [r1] at ht
          subst ht
          have g1 := (hS1 q (.inr ⟨hnq, Nat.le_refl _⟩)).trans gq
          have hq1 : q < n1 := by omega
          try simp (disch := first | omega | assumption | exact zaae _ _ | exact zaab _ _ _ | exact zaaf _ | exact zaad _ | exact zaaa _) only [Nat.reduceAdd, Nat.reduceLT, RZ, g1, z2]
          refine zaaw (k_two lf (d + 10) _ _ (two _ _ hn1 fun b hb => hS1 b (.inl hb))) (by omega) (fun _ _ h => h.elim) ?_
          rw [zaws]
          try simp (disch := first | omega | assumption | exact zaae _ _ | exact zaab _ _ _ | exact zaaf _ | exact zaad _ | exact zaaa _) only [Nat.reduceAdd, Nat.reduceLT, RZ]
        · have hc2 : come = false := by simpa using hc
          subst hc2
          have l1 : (0 : Int) ≤ (cut : Int) := by omega
          have l2 : (cut : Int) ≤ (S.length : Int) := by omega
          have x1' : RdAt h1 n1 (n + 5) (S.take cut) 0 A := x1
          try simp (disch := first | omega | assumption | exact zaae _ _ | exact zaab _ _ _ | exact zaaf _ | exact zaad _ | exact zaaa _) only [Nat.reduceAdd, Nat.reduceLT, RZ, l1, l2]
          refine zaay okd (zcgt (lf := lf) (d := d + 10) x1' (S.drop cut) (by rw [List.take_append_drop]; omega)) (by omega) (fun b _ hb => .inl (by omega)) fun v2 h2 n2 hn2 fr2 hq2 => ?_
          obtain ⟨rfl, rfl, x2⟩ := hq2
          rw [List.take_append_drop] at x2
          have w1 : IntKind.i64.wrap ((i : Int) + 1) = ((i + 1 : Nat) : Int) := by rw [zaav (by omega) (by omega)]; omega
          try simp (disch := first | omega | assumption | exact zaae _ _ | exact zaab _ _ _ | exact zaaf _ | exact zaad _ | exact zaaa _) only [Nat.reduceAdd, Nat.reduceLT, RZ, w1]
          exact ih fu n2 h2 c m gv out A true (i + 1) (by omega) (by simp at hK ⊢; omega) (by omega) (by omega) x2 (y1.keep (Nat.le_refl _) fun b hb q => fr2 b hb fun e => by
            subst e
            rcases q with q | q | ⟨y, q1, q2⟩
            · exact ap.f q
            · exact ap.t q
            · have := (y1.iv q1).1
              omega) ap hpw hdw j (og.keep hn1 fun b hb => by
                have := og.lt hb
                rw [fr2 b (by omega) (by show ¬ b = _; omega)]
                exact fr1 b this.2 (by
                  rintro (e | e)
                  · omega
                  · exact (hgf b hb).1 e)) hgf hF fun b hb => (fr2 b (by omega) (by show ¬ b = _; omega)).trans (hS1 b hb)
      | bad e0 =>
        rw [e] at hq1
        obtain ⟨rfl, ⟨B, x1⟩, c', m', y1, w1, w2, fm, am⟩ := hq1
        have he := zbpz e
        have z1 : (e0 == 0) = false := beq_eq_false_iff_ne.2 (by omega)
        have z2 : (e0 == 3) = false := beq_eq_false_iff_ne.2 (by omega)
        have z3 : (e0 == e0) = true := beq_iff_eq.2 rfl
        have zB : ((B : Int) == (B : Int)) = true := beq_iff_eq.2 rfl
        have r1 := j.bad hd2 (x := e0) (by rw [hT, zbqx tt (by rw [e]; exact fun e => nomatch e)]; exact e)
        unfold Told at ht
        rw [r1] at ht
        subst ht
        have g1 := (hS1 q (.inr ⟨hnq, Nat.le_refl _⟩)).trans gq
        have hq1 : q < n1 := by omega
        have dead := zbxx (lf := lf) (d := d + 2) y1 (.inr (by rw [w1]; omega)) (n + 5) (by omega)
        rw [if_neg (by rw [w2]; decide), w1] at dead
        have dn := zbys (lf := lf) (d := d + 10) y1
        rw [w2] at dn
        try simp (disch := first | omega | assumption | exact zaae _ _ | exact zaab _ _ _ | exact zaaf _ | exact zaad _ | exact zaaa _) only [Nat.reduceAdd, Nat.reduceLT, RZ, ext0, ext1, z1, z2]
        refine zaaw (s_rAt (lf := lf) (d := d + 10) x1) (by omega) (fun _ _ h => h.elim) ?_
        refine zaaw dead (by omega) (fun _ _ h => h.elim) ?_
        try simp (disch := first | omega | assumption | exact zaae _ _ | exact zaab _ _ _ | exact zaaf _ | exact zaad _ | exact zaaa _) only [Nat.reduceAdd, Nat.reduceLT, RZ, ext0, ext1, g1, z3]
        refine zaaw (s_rAt (lf := lf) (d := d + 10) x1) (by omega) (fun _ _ h => h.elim) ?_
        try simp (disch := first | omega | assumption | exact zaae _ _ | exact zaab _ _ _ | exact zaaf _ | exact zaad _ | exact zaaa _) only [Nat.reduceAdd, Nat.reduceLT, RZ, zB]
        refine zaaw dn (by omega) (fun _ _ h => h.elim) ?_
        try simp (disch := first | omega | assumption | exact zaae _ _ | exact zaab _ _ _ | exact zaaf _ | exact zaad _ | exact zaaa _) only [Nat.reduceAdd, Nat.reduceLT, RZ, Bool.not_false]
        refine zaaw (k_two lf (d + 10) _ _ (two _ _ hn1 fun b hb => hS1 b (.inl hb))) (by omega) (fun _ _ h => h.elim) ?_
        rw [zawq]
        try simp (disch := first | omega | assumption | exact zaae _ _ | exact zaab _ _ _ | exact zaaf _ | exact zaad _ | exact zaaa _) only [Nat.reduceAdd, Nat.reduceLT, RZ]
      | ok sc w =>
        obtain ⟨sym, c'⟩ := sc
        rw [e] at hq1
        obtain ⟨rfl, x1, m', y1, e1, e2, fm, am, tm, im⟩ := hq1
        obtain ⟨j1, j2, j3⟩ := j.step hd2 (sym := sym) (c' := c') (u := w) (by rw [hT, zbqx tt (by rw [e]; exact fun e => nomatch e)]; exact e)
        have z1 : ((0 : Int) == 0) = true := rfl
        have w1 : IntKind.i64.wrap ((i : Int) + 1) = ((i + 1 : Nat) : Int) := by rw [zaav (by omega) (by omega)]; omega
        have og1 : Own h1 (q + 1) n1 3 gv (intsV .i64 out) := og.keep hn1 fun b hb => fr1 b (og.lt hb).2 (by
          rintro (e | e)
          · have := (og.lt hb).1
            omega
          · exact (hgf b hb).1 e)
        have hgf1 : ∀ b, InBlk gv b → ¬ m'.F (n + 4) b ∧ ¬ InBlk m'.tv b ∧ ∀ y ∈ m'.iv, ¬ (y.1 ≤ b ∧ b < y.2.1) := fun b hb => by
          have hlt := (og.lt hb).2
          obtain ⟨g1, g2, g3⟩ := hgf b hb
          exact ⟨fun q => (fm b q).elim g1 fun q => by omega, fun q => (tm b q).elim g2 fun q => by omega, fun y hy q => (im y hy).elim (fun hy => g3 y hy q) fun hy => by omega⟩
        have hF1 : ∀ b, m'.F (n + 4) b → n ≤ b ∧ (b < n + 6 ∨ q < b) := fun b q => (fm b q).elim (hF b) fun q => by omega
        try simp (disch := first | omega | assumption | exact zaae _ _ | exact zaab _ _ _ | exact zaaf _ | exact zaad _ | exact zaaa _) only [Nat.reduceAdd, Nat.reduceLT, RZ, ext0, ext1, z1]
        rcases j1 with ⟨hs, j1⟩ | ⟨hs, j1⟩
        · subst hs
          have c2 : ¬ (0 : Int) ≤ -1 := by decide
          have c3 : ((-1 : Int) != -1) = false := rfl
          try simp (disch := first | omega | assumption | exact zaae _ _ | exact zaab _ _ _ | exact zaaf _ | exact zaad _ | exact zaaa _) only [Nat.reduceAdd, Nat.reduceLT, RZ, c2, c3, w1]
          exact ih fu n1 h1 c' m' gv out (A + w) come (i + 1) (by omega) (by omega) (by omega) (by omega) x1 y1 am e1 e2 j1 og1 hgf1 hF1 hS1
        · try simp (disch := first | omega | assumption | exact zaae _ _ | exact zaab _ _ _ | exact zaaf _ | exact zaad _ | exact zaaa _) only [Nat.reduceAdd, Nat.reduceLT, RZ, hs]
          refine zalx c1x22 (zaae _ _) og1 (by rw [zabm]; omega) (fun c hc => .inl (by have := (og1.lt hc).1; omega)) _ fun h2 g2 k2 => ?_
          have y2 : CAt h2 (n1 + 2) (n + 4) (n + 5) c' m' := y1.keep (by omega) fun b hb h7 => k2 b hb fun hb2 => by
            obtain ⟨g1, g2, g3⟩ := hgf1 b hb2
            rcases h7 with h7 | h7 | ⟨y, h7, h8⟩
            · exact g1 h7
            · exact g2 h7
            · exact g3 y h7 h8
          have x2 := x1.keep (by omega : n1 ≤ n1 + 2) (k2 (n + 5) x1.lt fun hb => by have := (og1.lt hb).1; omega)
          have on : intsV .i64 (out ++ [sym]) = intsV .i64 out ++ [.int .i64 sym] := by rw [zall]; rfl
          try simp (disch := first | omega | assumption | exact zaae _ _ | exact zaab _ _ _ | exact zaaf _ | exact zaad _ | exact zaaa _) only [Nat.reduceAdd, Nat.reduceLT, RZ, w1]
          exact ih fu (n1 + 2) h2 c' m' (.slice (some ⟨n1 + 1, 0, none⟩) ((intsV .i64 out).length + 1) (CAP + ((intsV .i64 out).length + 1))) (out ++ [sym]) (A + w) come (i + 1) (by omega) (by omega) (by omega) (by omega) x2 y2 am e1 e2 j1
            (by
              rw [on]
              exact .inr ⟨n1 + 1, by simp, g2, by omega, by omega⟩)
            (fun b hb => by
              have hb := hb.inj
              refine ⟨fun q => by have := y1.flt q; omega, fun q => by have := y1.took.lt q; omega, fun y hy q => ?_⟩
              have := (y1.iv hy).2.1
              omega) hF1 fun b hb => (k2 b (by omega) fun e => by have := (og1.lt e).1; omega).trans (hS1 b hb)
end
end Go.Proofs.YtdagfcflbphoiaaGreatDoor

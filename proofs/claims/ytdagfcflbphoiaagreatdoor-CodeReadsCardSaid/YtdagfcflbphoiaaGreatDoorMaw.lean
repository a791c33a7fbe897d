import Derived.Test.YtdagfcflbphoiaaGreatDoorMav
namespace Go.Proofs.YtdagfcflbphoiaaGreatDoor
set_option linter.unusedVariables false
set_option linter.unusedSimpArgs false
open Go.RowKit Ev Cn

inductive Rs
  | err (e : Int)
  | ok (out : List Int) (a : Nat)
def runC : Nat → Cd → List Bool → Int → List Int → Nat → Rs
  | 0, _, _, _, _, _ => .err 3
  | N + 1, c, bs, most, out, a => if c.done = true then .ok out a else match stepC c bs with
    | .short => .err 3
    | .bad e => .err e
    | .ok (sym, c') u => if sym = -1 then runC N c' (bs.drop u) most out (a + u) else if (out.length : Int) = most then .err 2 else runC N c' (bs.drop u) most (out ++ [sym]) (a + u)
theorem zbtm {size : Nat} (h3 : 3 ≤ size) (h258 : size ≤ 258) : COk (cd0 size) := ⟨⟨fun _ => ⟨rfl, rfl⟩, fun j hj => absurd hj (Nat.not_lt_zero j), fun x hx => absurd hx (by simp [cd0]), fun e => absurd rfl e, fun e => absurd rfl e⟩, Nat.zero_le _, rfl, fun _ => ⟨rfl, rfl⟩, fun e => absurd (show false = true from e) (by decide), Nat.zero_le _, ⟨Nat.zero_le _, Nat.zero_le _, fun x hx => absurd hx (by simp [cd0])⟩, (by show 0 < size; omega), fun l hl => absurd hl (by simp [cd0]), h3, h258, rfl, rfl⟩
def cm0 (n : Nat) : Cm := ⟨n + 3, .slice none 0 0, .slice none 0 0, n, .slice none 0 0, .slice none 0 0, false, false, []⟩
theorem zaxp {b : Nat} : ¬ InBlk (.slice none 0 0) b := fun ⟨_, _, _, e⟩ => by cases e
theorem cm0_F {n b : Nat} (h : (cm0 n).F (n + 4) b) : n ≤ b := by
  rcases h with h | h | h | h | h | h
  · omega
  · have : b = n + 3 := h
    omega
  · have : b = n := h
    omega
  · exact absurd h zaxp
  · exact absurd h zaxp
  · exact absurd h zaxp
section
variable {lf d n z p : Nat} {h : H} {S : List UInt8} {D A : Nat} {c : Cd} {m : Cm}
theorem zbyl {size : Nat} (h3 : 3 ≤ size) (h258 : size ≤ 258) (hlf : 100 ≤ lf) (p : Nat) : Run (fun _ => False) n (zaac Tryz.prog gt lf (d + 3) 28 #[.int .i64 (size : Int)]) h n fun v h' n' => v = .tuple #[.pointer (some ⟨n + 4, 0, none⟩), .int .i64 0] ∧ n' = n + 5 ∧ CAt h' n' (n + 4) p (cd0 size) (cm0 n) := by
  rw [zawb]
  refine Run.inside_ ?_
  unfold zaou
  have z0 : ((0 : Int) != 0) = false := rfl
  refine zaav okd (zcdx (lf := lf) (d := d) h3 h258) (Nat.le_refl _) (fun _ _ h => h.elim) fun v1 h1 n1 hn1 fr1 hq1 => ?_
  obtain ⟨rfl, rfl, de⟩ := hq1
  try simp (disch := first | omega | assumption | exact zaae _ _ | exact zaab _ _ _ | exact zaaf _ | exact zaad _ | exact zaaa _) only [Nat.reduceAdd, Nat.reduceLT, RZ, ext0, ext1, z0]
  refine zaav okd (zcjm (lf := lf) (d := d) hlf) (by omega) (fun _ _ h => h.elim) fun v2 h2 n2 hn2 fr2 hq2 => ?_
  obtain ⟨rfl, rfl, pk⟩ := hq2
  try simp (disch := first | omega | assumption | exact zaae _ _ | exact zaab _ _ _ | exact zaaf _ | exact zaad _ | exact zaaa _) only [Nat.reduceAdd, Nat.reduceLT, RZ]
  refine zast sz100 _ _ ?_
  try simp (disch := first | omega | assumption | exact zaae _ _ | exact zaab _ _ _ | exact zaaf _ | exact zaad _ | exact zaaa _) only [Nat.reduceAdd, Nat.reduceLT, RZ]
  have un : ∀ (B : Option AB) b, b < n + 1 → (h2.set (n + 1 + 3) B).get b = h1.get b := fun B b hb => by rw [zaap _ _ (by omega), fr2 b hb id]
  exact
    { get := zaaz _ _ _
      lt := by omega
      pk := ⟨(zaap _ _ (by show n + 3 ≠ _; omega)).trans pk.get, Nat.zero_le _, by show n + 3 < _; omega, Own.nil _ _ _ _, rfl, Nat.zero_le _, (by decide : 0 < 32768)⟩
      de := ⟨(un _ n (by omega)).trans de.get, Nat.zero_le _, by show n < _; omega, Own.nil _ _ _ _⟩
      took := (Own.nil _ 0 _ _ : Own _ 0 _ _ _ (intsV .i64 (iN []))).row
      tap := fun b hb => absurd hb zaxp
      vap := fun b hb => absurd hb zaxp
      cs := Own.nil _ _ _ _
      ivl := rfl
      code := fun i hi => absurd hi (Nat.not_lt_zero i) }
theorem zbzr (x : Int) (hx : x < 3 ∨ 258 < x) : Run (fun _ => False) n (zaac Tryz.prog gt lf (d + 3) 28 #[.int .i64 x]) h n fun v h' n' => v = .tuple #[.pointer none, .int .i64 1] ∧ h' = h ∧ n' = n := by
  rw [zawb]
  refine Run.inside_ ?_
  unfold zaou
  have z1 : ((1 : Int) != 0) = true := rfl
  refine zaay (zcdb (lf := lf) (d := d) x hx) (Nat.le_refl _) (fun _ _ h => h.elim) ?_
  try simp (disch := first | omega | assumption | exact zaae _ _ | exact zaab _ _ _ | exact zaaf _ | exact zaad _ | exact zaaa _) only [Nat.reduceAdd, Nat.reduceLT, RZ, ext0, ext1, z1]
def RPost (n p : Nat) (S : List UInt8) (D : Nat) (r : Rs) (v' : Value) (h' : H) (n' : Nat) : Prop :=
  match r with
  | .err e => v' = .tuple #[.slice none 0 0, .int .i64 e] ∧ e ≠ 0 ∧ ∃ B, RdAt h' n' p S D B
  | .ok out a => ∃ gv, v' = .tuple #[gv, .int .i64 0] ∧ Own h' n n' 3 gv (intsV .i64 out) ∧ RdAt h' n' p S D a
theorem zchh {F0 : Nat → Prop} {n0 : Nat} (most : Int) (hlf : 3000000 ≤ lf) (hp : p < n0) :
    ∀ (N fu : Nat) (n : Nat) (h : H) (c : Cd) (m : Cm) (gv : Value) (out : List Int) (A : Nat), n0 ≤ n → (restB S D A).length < N → N ≤ fu → RdAt h n p S D A → CAt h n z p c m → Apt p z m → m.pw = false → m.dw = false → (c.done = false → COk c) →
      c.count + (restB S D A).length ≤ 1000000000000000 → out.length + (restB S D A).length ≤ 1000000000 → Own h n0 n 3 gv (intsV .i64 out) → (∀ b, InBlk gv b → ¬ m.F z b ∧ ¬ InBlk m.tv b ∧ ∀ y ∈ m.iv, ¬ (y.1 ≤ b ∧ b < y.2.1)) → (∀ b, m.F z b → n0 ≤ b ∨ F0 b) →
      Run (fun b => b = p ∨ F0 b) n0 (zack lf (d + 9) fu (zabm lf (d + 9)) (.pointer (some ⟨z, 0, none⟩)) (.pointer (some ⟨p, 0, none⟩)) (.int .i64 most) (.slice none 0 0) (.int .i64 0) gv) h n (RPost n0 p S D (runC N c (restB S D A) most out A)) := by
  intro N
  induction N with
  | zero => intro fu n h c m gv out A _ hN; omega
  | succ N ih =>
    intro fu n h c m gv out A hn0 hN hfu x y ap hpw hdw hk hcn hon og hgf hF
    obtain ⟨fu, rfl⟩ : ∃ f, fu = f + 1 := ⟨fu - 1, by omega⟩
    have g := y.get
    have hz := y.lt
    unfold cdB at g
    rw [zbag]
    obtain ⟨ga, gc, hgv⟩ := og.row.len
    by_cases hd : c.done = true
    · rw [hd] at g
      try simp (disch := first | omega | assumption | exact zaae _ _ | exact zaab _ _ _ | exact zaaf _ | exact zaad _ | exact zaaa _) only [Nat.reduceAdd, Nat.reduceLT, RZ, g, Bool.not_true]
      rw [zbbo]
      try simp (disch := first | omega | assumption | exact zaae _ _ | exact zaab _ _ _ | exact zaaf _ | exact zaad _ | exact zaaa _) only [Nat.reduceAdd, Nat.reduceLT, RZ]
      unfold runC RPost
      rw [if_pos hd]
      exact ⟨gv, rfl, og, x⟩
    · have hd2 : c.done = false := by simpa using hd
      have k := hk hd2
      rw [hd2] at g
      try simp (disch := first | omega | assumption | exact zaae _ _ | exact zaab _ _ _ | exact zaaf _ | exact zaad _ | exact zaaa _) only [Nat.reduceAdd, Nat.reduceLT, RZ, g, Bool.not_false]
      refine zaav okd (zchv (lf := lf) (d := d) x y ap hpw hdw k (by omega) hlf) hn0 (fun b _ hb => by
        rcases hb with hb | hb
        · exact .inr (.inl hb)
        · exact (hF b hb).imp id .inr) fun v1 h1 n1 hn1 fr1 hq1 => ?_
      obtain ⟨bs, hbs⟩ : ∃ bs, restB S D A = bs := ⟨_, rfl⟩
      unfold CPost at hq1
      rw [hbs] at hq1 hN hcn hon ⊢
      unfold runC
      rw [if_neg hd]
      have z0 : ((0 : Int) != 0) = false := rfl
      have z3 : ((3 : Int) != 0) = true := rfl
      cases e : stepC c bs with
      | short =>
        rw [e] at hq1
        obtain ⟨rfl, x1, y1⟩ := hq1
        try simp (disch := first | omega | assumption | exact zaae _ _ | exact zaab _ _ _ | exact zaaf _ | exact zaad _ | exact zaaa _) only [Nat.reduceAdd, Nat.reduceLT, RZ, ext0, ext1, z3]
        rw [zaph]
        try simp (disch := first | omega | assumption | exact zaae _ _ | exact zaab _ _ _ | exact zaaf _ | exact zaad _ | exact zaaa _) only [Nat.reduceAdd, Nat.reduceLT, RZ]
        exact ⟨rfl, by decide, _, x1⟩
      | bad e0 =>
        rw [e] at hq1
        obtain ⟨rfl, x1, _⟩ := hq1
        have he := zbpv e
        have z1 : (e0 != 0) = true := by rw [bne_iff_ne]; omega
        try simp (disch := first | omega | assumption | exact zaae _ _ | exact zaab _ _ _ | exact zaaf _ | exact zaad _ | exact zaaa _) only [Nat.reduceAdd, Nat.reduceLT, RZ, ext0, ext1, z1]
        rw [zaph]
        try simp (disch := first | omega | assumption | exact zaae _ _ | exact zaab _ _ _ | exact zaaf _ | exact zaad _ | exact zaaa _) only [Nat.reduceAdd, Nat.reduceLT, RZ]
        exact ⟨rfl, by omega, x1⟩
      | ok sc u =>
        obtain ⟨sym, c'⟩ := sc
        rw [e] at hq1
        obtain ⟨rfl, x1, m', y1, e1, e2, fm, am, tm, im⟩ := hq1
        obtain ⟨k1, k2, k3, k4⟩ := zbkw k e
        have hr : restB S D (A + u) = bs.drop u := by rw [← zaqn x.lo, hbs]
        have hrl : (restB S D (A + u)).length = bs.length - u := by rw [hr, List.length_drop]
        have og1 : Own h1 n0 n1 3 gv (intsV .i64 out) := og.keep hn1 fun b hb => fr1 b (og.lt hb).2 (by
          rintro (q | q)
          · have := (og.lt hb).1
            omega
          · exact (hgf b hb).1 q)
        have hgf1 : ∀ b, InBlk gv b → ¬ m'.F z b ∧ ¬ InBlk m'.tv b ∧ ∀ y ∈ m'.iv, ¬ (y.1 ≤ b ∧ b < y.2.1) := fun b hb => by
          have hlt := (og.lt hb).2
          obtain ⟨g1, g2, g3⟩ := hgf b hb
          exact ⟨fun q => (fm b q).elim g1 fun q => by omega, fun q => (tm b q).elim g2 fun q => by omega, fun y hy q => (im y hy).elim (fun hy => g3 y hy q) fun hy => by omega⟩
        have hF1 : ∀ b, m'.F z b → n0 ≤ b ∨ F0 b := fun b q => (fm b q).elim (hF b) fun q => .inl (by omega)
        try simp (disch := first | omega | assumption | exact zaae _ _ | exact zaab _ _ _ | exact zaaf _ | exact zaad _ | exact zaaa _) only [Nat.reduceAdd, Nat.reduceLT, RZ, ext0, ext1, z0]
        by_cases hs : sym = -1
        · have es : (sym == -1) = true := beq_iff_eq.2 hs
          try simp (disch := first | omega | assumption | exact zaae _ _ | exact zaab _ _ _ | exact zaaf _ | exact zaad _ | exact zaaa _) only [Nat.reduceAdd, Nat.reduceLT, RZ, es]
          rw [if_pos hs]
          have := ih fu n1 h1 c' m' gv out (A + u) (by omega) (by omega) (by omega) x1 y1 am e1 e2 k1 (by omega) (by omega) og1 hgf1 hF1
          rw [hr] at this
          exact this
        · have es : (sym == -1) = false := beq_eq_false_iff_ne.2 hs
          rw [if_neg hs]
          subst hgv
          by_cases hm : (out.length : Int) = most
          · have em : (((out.length : Nat) : Int) == most) = true := beq_iff_eq.2 hm
            try simp (disch := first | omega | assumption | exact zaae _ _ | exact zaab _ _ _ | exact zaaf _ | exact zaad _ | exact zaaa _) only [Nat.reduceAdd, Nat.reduceLT, RZ, es, em]
            rw [zbcl, if_pos hm]
            try simp (disch := first | omega | assumption | exact zaae _ _ | exact zaab _ _ _ | exact zaaf _ | exact zaad _ | exact zaaa _) only [Nat.reduceAdd, Nat.reduceLT, RZ]
            exact ⟨rfl, by decide, _, x1⟩
          · have em : (((out.length : Nat) : Int) == most) = false := beq_eq_false_iff_ne.2 hm
            try simp (disch := first | omega | assumption | exact zaae _ _ | exact zaab _ _ _ | exact zaaf _ | exact zaad _ | exact zaaa _) only [Nat.reduceAdd, Nat.reduceLT, RZ, es, em]
            rw [if_neg hm]
            refine zali c1x22 (zaae _ _) og1 (by rw [zabn]; omega) (fun c hc => .inl (og1.lt hc).1) _ fun h2 g2 k2 => ?_
            have y2 : CAt h2 (n1 + 2) z p c' m' := y1.keep (by omega) fun b hb h7 => k2 b hb fun hb2 => by
              obtain ⟨g1, g2, g3⟩ := hgf1 b hb2
              rcases h7 with h7 | h7 | ⟨y, h7, h8⟩
              · exact g1 h7
              · exact g2 h7
              · exact g3 y h7 h8
            have x2 : RdAt h2 (n1 + 2) p S D (A + u) := x1.keep (by omega) (k2 p x1.lt fun hb => by have := (og1.lt hb).1; omega)
            have on : intsV .i64 (out ++ [sym]) = intsV .i64 out ++ [.int .i64 sym] := by rw [zalo]; rfl
            have := ih fu (n1 + 2) h2 c' m' (.slice (some ⟨n1 + 1, 0, none⟩) ((intsV .i64 out).length + 1) (CAP + ((intsV .i64 out).length + 1))) (out ++ [sym]) (A + u) (by omega) (by omega) (by omega) x2 y2 am e1 e2 k1 (by omega) (by rw [List.length_append]; simp only [List.length_cons, List.length_nil]; omega)
              (by
                rw [on]
                exact .inr ⟨n1 + 1, by simp, g2, by omega, by omega⟩)
              (fun b hb => by
                have hb := hb.inj
                refine ⟨fun q => by have := y1.flt q; omega, fun q => by have := y1.took.lt q; omega, fun y hy q => ?_⟩
                have := (y1.iv hy).2.1
                omega) hF1
            rw [hr] at this
            exact this
theorem zcgh (x : RdAt h n p S D A) {size : Nat} (h3 : 3 ≤ size) (h258 : size ≤ 258) (most : Int) (hm : 0 ≤ most) (hb : (restB S D A).length ≤ 1000000) (hlf : 3000000 ≤ lf) :
    Run (fun b => b = p) n (zaac Tryz.prog gt lf (d + 11) 22 #[.pointer (some ⟨p, 0, none⟩), .int .i64 (size : Int), .int .i64 most]) h n fun v' h' n' =>
      match runC ((restB S D A).length + 1) (cd0 size) (restB S D A) most [] A with
      | .err e => v' = .tuple #[.slice none 0 0, .int .i64 e] ∧ RdAt h' n' p S D A
      | .ok out a => ∃ gv, v' = .tuple #[gv, .int .i64 0] ∧ Own h' n n' 3 gv (intsV .i64 out) ∧ RdAt h' n' p S D a := by
  have hp := x.lt
  have z0 : ((0 : Int) != 0) = false := rfl
  have c0 : ¬ most < 0 := by omega
  rw [zbht]
  refine Run.inside_ ?_
  unfold zbaq
  try simp (disch := first | omega | assumption | exact zaae _ _ | exact zaab _ _ _ | exact zaaf _ | exact zaad _ | exact zaaa _) only [Nat.reduceAdd, Nat.reduceLT, RZ]
  refine zaav okd (zbyl (lf := lf) (d := d + 7) h3 h258 (by omega) p) (Nat.le_refl _) (fun _ _ h => h.elim) fun v1 h1 n1 hn1 fr1 hq1 => ?_
  obtain ⟨rfl, rfl, y1⟩ := hq1
  have x1 := x.keep (Nat.le_add_right n 5) (fr1 p hp id)
  try simp (disch := first | omega | assumption | exact zaae _ _ | exact zaab _ _ _ | exact zaaf _ | exact zaad _ | exact zaaa _) only [Nat.reduceAdd, Nat.reduceLT, RZ, ext0, ext1, z0, c0]
  refine zaay (s_rAt (lf := lf) (d := d + 9) x1) (by omega) (fun _ _ h => h.elim) ?_
  have cr := zchh (lf := lf) (d := d) (S := S) (D := D) (z := n + 4) (p := p) (F0 := fun b => n ≤ b) (n0 := n + 5) most hlf (by omega) ((restB S D A).length + 1) lf (n + 5) h1 (cd0 size) (cm0 n) (.slice none 0 0) [] A (Nat.le_refl _) (by omega) (by omega) x1 y1 ⟨fun q => by have := cm0_F q; omega, zaxp⟩ rfl rfl (fun _ => zbtm h3 h258) (by show 0 + _ ≤ _; omega) (by show 0 + _ ≤ _; omega) (Own.nil _ _ _ _) (fun b hb => absurd hb zaxp) fun b hb => .inr (cm0_F hb)
  have cr2 : Run (fun b => b = p ∨ n ≤ b) (n + 5) (zaac Tryz.prog gt lf (d + 10) 52 #[.pointer (some ⟨n + 4, 0, none⟩), .pointer (some ⟨p, 0, none⟩), .int .i64 most]) h1 (n + 5) (RPost (n + 5) p S D (runC ((restB S D A).length + 1) (cd0 size) (restB S D A) most [] A)) := by
    rw [zbgb]
    exact Run.inside_ cr
  refine zaav okd cr2 (by omega) (fun b _ hb => hb.elim .inr .inl) fun v2 h2 n2 hn2 fr2 hq2 => ?_
  unfold RPost at hq2
  cases e : runC ((restB S D A).length + 1) (cd0 size) (restB S D A) most [] A with
  | err e0 =>
    rw [e] at hq2
    obtain ⟨rfl, he, B, x2⟩ := hq2
    have z1 : (e0 != 0) = true := bne_iff_ne.2 he
    try simp (disch := first | omega | assumption | exact zaae _ _ | exact zaab _ _ _ | exact zaaf _ | exact zaad _ | exact zaaa _) only [Nat.reduceAdd, Nat.reduceLT, RZ, ext0, ext1, z1]
    refine zaav okd (zbbm (lf := lf) (d := d + 8) x2 A x.lo x.hi) (by omega) (fun b _ hb => .inr hb) fun v3 h3 n3 hn3 fr3 hq3 => ?_
    obtain ⟨_, rfl, x3⟩ := hq3
    try simp (disch := first | omega | assumption | exact zaae _ _ | exact zaab _ _ _ | exact zaaf _ | exact zaad _ | exact zaaa _) only [Nat.reduceAdd, Nat.reduceLT, RZ]
    exact x3
  | ok out a =>
    rw [e] at hq2
    obtain ⟨gv, rfl, og, x2⟩ := hq2
    try simp (disch := first | omega | assumption | exact zaae _ _ | exact zaab _ _ _ | exact zaaf _ | exact zaad _ | exact zaaa _) only [Nat.reduceAdd, Nat.reduceLT, RZ, ext0, ext1, z0]
    exact ⟨gv, rfl, og.low (by omega), x2⟩
theorem zbzu (hp : p < n) (x most : Int) (hx : x < 3 ∨ 258 < x ∨ most < 0) (hlf : 100 ≤ lf) : Run (fun _ => False) n (zaac Tryz.prog gt lf (d + 11) 22 #[.pointer (some ⟨p, 0, none⟩), .int .i64 x, .int .i64 most]) h n fun v' h' n' => v' = .tuple #[.slice none 0 0, .int .i64 1] := by
  have z1 : ((1 : Int) != 0) = true := rfl
  have z0 : ((0 : Int) != 0) = false := rfl
  rw [zbht]
  refine Run.inside_ ?_
  unfold zbaq
  try simp (disch := first | omega | assumption | exact zaae _ _ | exact zaab _ _ _ | exact zaaf _ | exact zaad _ | exact zaaa _) only [Nat.reduceAdd, Nat.reduceLT, RZ]
  by_cases h1 : x < 3 ∨ 258 < x
  · refine zaay (zbzr (lf := lf) (d := d + 7) x h1) (Nat.le_refl _) (fun _ _ h => h.elim) ?_
    try simp (disch := first | omega | assumption | exact zaae _ _ | exact zaab _ _ _ | exact zaaf _ | exact zaad _ | exact zaaa _) only [Nat.reduceAdd, Nat.reduceLT, RZ, ext0, ext1, z1]
  · obtain ⟨size, rfl⟩ : ∃ s : Nat, x = (s : Int) := ⟨x.toNat, by omega⟩
    refine zaav okd (zbyl (lf := lf) (d := d + 7) (by omega) (by omega) hlf p) (Nat.le_refl _) (fun _ _ h => h.elim) fun v1 h1 n1 hn1 fr1 hq1 => ?_
    obtain ⟨rfl, rfl, y1⟩ := hq1
    have c0 : most < 0 := by omega
    try simp (disch := first | omega | assumption | exact zaae _ _ | exact zaab _ _ _ | exact zaaf _ | exact zaad _ | exact zaaa _) only [Nat.reduceAdd, Nat.reduceLT, RZ, ext0, ext1, z0, c0]
end
end Go.Proofs.YtdagfcflbphoiaaGreatDoor

import Derived.Test.YtdagfcflbphoiaaGreatDoorMaq
namespace Go.Proofs.YtdagfcflbphoiaaGreatDoor
set_option linter.unusedVariables false
set_option linter.unusedSimpArgs false
open Go.RowKit Ev Cn

def Pk.fin (s : Pk) : Bool := decide (0 < s.count) && decide (s.picks.length = s.count)
structure Pk.Ok (s : Pk) : Prop where
  new : s.count = 0 → s.picks = [] ∧ s.ord = ord0
  ord : ∀ j, j < s.t → s.ord.getD j 0 < s.t
  picks : ∀ x ∈ s.picks, x < s.t
  len : s.count ≠ 0 → s.picks.length ≤ s.count
  two : s.count ≠ 0 → 2 ≤ s.t
structure Cd where
  size : Nat
  pk : Pk
  now : Nat
  lens : List Nat
  codes : List (List Nat)
  took : List Nat
  count : Nat
  done : Bool
  wrong : Int
structure Cm where
  q : Nat
  pv : Value
  tv : Value
  r : Nat
  lv : Value
  cv : Value
  pw : Bool
  dw : Bool
  iv : List (Nat × Nat × Nat)
def Cm.F (m : Cm) (z b : Nat) : Prop := b = z ∨ b = m.q ∨ b = m.r ∨ InBlk m.pv b ∨ InBlk m.lv b ∨ InBlk m.cv b
def cdB (c : Cd) (m : Cm) : AB := ⟨100, true, [.int .i64 (c.size : Int), .pointer (some ⟨m.q, 0, none⟩), m.tv, .pointer (some ⟨m.r, 0, none⟩), m.cv, .int .i64 (c.count : Int), .bool c.done, .int .i64 c.wrong]⟩
structure CAt (h : H) (n z p : Nat) (c : Cd) (m : Cm) : Prop where
  get : h.get z = some (cdB c m)
  lt : z < n
  pk : PAt h 0 n m.q c.pk m.pv m.pw
  de : DAt h 0 n m.r c.size c.now m.lv c.lens m.dw
  took : Row h n 3 .i64 m.tv (iN c.took)
  tap : ∀ b, InBlk m.tv b → ¬ InBlk m.pv b ∧ ¬ InBlk m.lv b
  vap : ∀ b, InBlk m.pv b → ¬ InBlk m.lv b
  cs : Own h 0 n 72 m.cv (m.iv.map fun x => .pointer (some ⟨x.2.2, 0, none⟩))
  ivl : m.iv.length = c.codes.length
  code : ∀ i, i < c.codes.length → ∃ x, m.iv[i]? = some x ∧ CodeIn h x.1 x.2.1 x.2.2 (c.codes.getD i []) ∧ p < x.1 ∧ x.2.1 ≤ n ∧ ∀ b, x.1 ≤ b → b < x.2.1 → ¬ m.F z b
theorem zaob {h : H} {a b : Nat} {A B : AB} (ha : h.get a = some A) (hb : h.get b = some B) (he : A.elem ≠ B.elem) : a ≠ b := fun e => by
  subst e
  rw [ha] at hb
  cases hb
  exact he rfl
section
variable {h : H} {n z p : Nat} {c : Cd} {m : Cm}
theorem CAt.zq (x : CAt h n z p c m) : z ≠ m.q := zaob x.get x.pk.get (by decide : (100 : Nat) ≠ 135)
theorem CAt.zr (x : CAt h n z p c m) : z ≠ m.r := zaob x.get x.de.get (by decide : (100 : Nat) ≠ 130)
theorem CAt.qr (x : CAt h n z p c m) : m.q ≠ m.r := zaob x.pk.get x.de.get (by decide : (135 : Nat) ≠ 130)
theorem CAt.int (x : CAt h n z p c m) {b : Nat} {B : AB} (hb : h.get b = some B) (he : B.elem = 3) : b ≠ z ∧ b ≠ m.q ∧ b ≠ m.r ∧ ¬ InBlk m.cv b := by
  refine ⟨zaob hb x.get (by rw [he]; exact (by decide : (3 : Nat) ≠ 100)), zaob hb x.pk.get (by rw [he]; exact (by decide : (3 : Nat) ≠ 135)), zaob hb x.de.get (by rw [he]; exact (by decide : (3 : Nat) ≠ 130)), fun hc => ?_⟩
  obtain ⟨C, h1, h2⟩ := x.cs.elem hc
  exact zaob hb h1 (by rw [he, h2]; exact (by decide : (3 : Nat) ≠ 72)) rfl
theorem CAt.tv (x : CAt h n z p c m) {b : Nat} (hb : InBlk m.tv b) : b ≠ z ∧ b ≠ m.q ∧ b ≠ m.r ∧ ¬ InBlk m.cv b ∧ ¬ InBlk m.pv b ∧ ¬ InBlk m.lv b := by
  obtain ⟨B, h1, h2⟩ := x.took.elem hb
  obtain ⟨a, b, c, d⟩ := x.int h1 h2
  exact ⟨a, b, c, d, x.tap _ hb⟩
theorem CAt.pv (x : CAt h n z p c m) {b : Nat} (hb : InBlk m.pv b) : b ≠ z ∧ b ≠ m.q ∧ b ≠ m.r ∧ ¬ InBlk m.cv b := by
  obtain ⟨B, h1, h2⟩ := x.pk.own.elem hb
  exact x.int h1 h2
theorem CAt.lv (x : CAt h n z p c m) {b : Nat} (hb : InBlk m.lv b) : b ≠ z ∧ b ≠ m.q ∧ b ≠ m.r ∧ ¬ InBlk m.cv b := by
  obtain ⟨B, h1, h2⟩ := x.de.own.elem hb
  exact x.int h1 h2
theorem CAt.cv (x : CAt h n z p c m) {b : Nat} (hb : InBlk m.cv b) : b ≠ z ∧ b ≠ m.q ∧ b ≠ m.r := by
  obtain ⟨C, h1, h2⟩ := x.cs.elem hb
  exact ⟨zaob h1 x.get (by rw [h2]; exact (by decide : (72 : Nat) ≠ 100)), zaob h1 x.pk.get (by rw [h2]; exact (by decide : (72 : Nat) ≠ 135)), zaob h1 x.de.get (by rw [h2]; exact (by decide : (72 : Nat) ≠ 130))⟩
theorem CAt.flt (x : CAt h n z p c m) {b : Nat} (hb : m.F z b) : b < n := by
  rcases hb with rfl | rfl | rfl | hb | hb | hb
  · exact x.lt
  · exact x.pk.lt
  · exact x.de.lt
  · exact (x.pk.own.lt hb).2
  · exact (x.de.own.lt hb).2
  · exact (x.cs.lt hb).2
theorem CAt.keep (x : CAt h n z p c m) {h' : H} {n' : Nat} (hn : n ≤ n') (hk : ∀ b, b < n → (m.F z b ∨ InBlk m.tv b ∨ ∃ y ∈ m.iv, y.1 ≤ b ∧ b < y.2.1) → h'.get b = h.get b) : CAt h' n' z p c m where
  get := (hk z x.lt (.inl (.inl rfl))).trans x.get
  lt := Nat.lt_of_lt_of_le x.lt hn
  pk := x.pk.keep hn fun b hb h2 => hk b hb (.inl (h2.elim (fun e => .inr (.inl e)) fun e => .inr (.inr (.inr (.inl e)))))
  de := x.de.keep hn fun b hb h2 => hk b hb (.inl (h2.elim (fun e => .inr (.inr (.inl e))) fun e => .inr (.inr (.inr (.inr (.inl e))))))
  took := x.took.keep' hn fun b hb => hk b (x.took.lt hb) (.inr (.inl hb))
  tap := x.tap
  vap := x.vap
  cs := x.cs.keep hn fun b hb => hk b (x.cs.lt hb).2 (.inl (.inr (.inr (.inr (.inr (.inr hb))))))
  ivl := x.ivl
  code := fun i hi => by
    obtain ⟨y, e, k, h1, h2, h3⟩ := x.code i hi
    exact ⟨y, e, k.keep fun b h4 h5 => hk b (by omega) (.inr (.inr ⟨y, List.mem_of_getElem? e, h4, h5⟩)), h1, by omega, h3⟩
theorem CAt.iv (x : CAt h n z p c m) {y : Nat × Nat × Nat} (hy : y ∈ m.iv) : p < y.1 ∧ y.2.1 ≤ n ∧ ∀ b, y.1 ≤ b → b < y.2.1 → ¬ m.F z b := by
  obtain ⟨i, hi, e⟩ := List.getElem_of_mem hy
  obtain ⟨y', e', _, h1, h2, h3⟩ := x.code i (by rw [← x.ivl]; exact hi)
  rw [List.getElem?_eq_getElem hi, e] at e'
  cases e'
  exact ⟨h1, h2, h3⟩
end
theorem CAt.setZ {h : H} {n z p : Nat} {c : Cd} {m : Cm} (x : CAt h n z p c m) (c' : Cd) (tv' : Value) (e1 : c'.size = c.size) (e2 : c'.pk = c.pk) (e3 : c'.now = c.now) (e4 : c'.lens = c.lens) (e5 : c'.codes = c.codes) (r : Row h n 3 .i64 tv' (iN c'.took)) (t : ∀ b, InBlk tv' b → ¬ InBlk m.pv b ∧ ¬ InBlk m.lv b) {B : Option AB} (hB : B = some (cdB c' { m with tv := tv' })) : CAt (h.set z B) n z p c' { m with tv := tv' } where
  get := by rw [zaaz, hB]
  lt := x.lt
  pk := by
    rw [e2]
    exact x.pk.keep (Nat.le_refl _) fun b hb h2 => zaar _ _ (by
      rcases h2 with rfl | h2
      · exact Ne.symm x.zq
      · exact (x.pv h2).1)
  de := by
    rw [e1, e3, e4]
    exact x.de.keep (Nat.le_refl _) fun b hb h2 => zaar _ _ (by
      rcases h2 with rfl | h2
      · exact Ne.symm x.zr
      · exact (x.lv h2).1)
  took := r.keep' (Nat.le_refl _) fun b hb => zaar _ _ (by
    obtain ⟨B, h1, h2⟩ := r.elem hb
    exact (x.int h1 h2).1)
  tap := t
  vap := x.vap
  cs := x.cs.keep (Nat.le_refl _) fun b hb => zaar _ _ (x.cv hb).1
  ivl := by rw [e5]; exact x.ivl
  code := by
    rw [e5]
    intro i hi
    obtain ⟨w, e, k, h2, h3, h4⟩ := x.code i hi
    exact ⟨w, e, k.keep fun b h5 h6 => zaar _ _ fun e => h4 b h5 h6 (.inl e), h2, h3, h4⟩
structure Apt (p z : Nat) (m : Cm) : Prop where
  f : ¬ m.F z p
  t : ¬ InBlk m.tv p
section
variable {lf d n z p : Nat} {h : H} {S : List UInt8} {D A : Nat} {c : Cd} {m : Cm}
def pkNext (c : Cd) (s : Pk) : Cd := { c with pk := s, took := if s.fin = true then s.picks else c.took }
theorem zchw (x : RdAt h n p S D A) (y : CAt h n z p c m) (ap : Apt p z m) (hpw : m.pw = false) (hok : c.pk.Ok) (hf : c.pk.fin = false) (hlf : 100 ≤ lf) :
    Run (fun b => b = p ∨ m.F z b) n (zaac Tryz.prog gt lf (d + 6) 60 #[.pointer (some ⟨z, 0, none⟩), .pointer (some ⟨p, 0, none⟩)]) h n fun v' h' n' =>
      match stepP c.pk (restB S D A) with
      | .short => v' = .tuple #[.int .i64 (-1), .int .i64 3] ∧ RdAt h' n' p S D A ∧ CAt h' n' z p c m
      | .bad e => v' = .tuple #[.int .i64 (-1), .int .i64 e] ∧ (∃ B, RdAt h' n' p S D B) ∧ CAt h' n' z p c { m with pw := true }
      | .ok s u => v' = .tuple #[.int .i64 (-1), .int .i64 0] ∧ RdAt h' n' p S D (A + u) ∧ ∃ pv' tv', CAt h' n' z p (pkNext c s) { m with pv := pv', tv := tv' } ∧ (∀ b, InBlk pv' b → InBlk m.pv b ∨ n ≤ b) ∧ ∀ b, InBlk tv' b → InBlk m.tv b ∨ n ≤ b := by
  obtain ⟨bs, hbs⟩ : ∃ bs, restB S D A = bs := ⟨_, rfl⟩
  have g := y.get
  have hz := y.lt
  unfold cdB at g
  have ypk := y.pk
  rw [hpw] at ypk
  have hpq : p ≠ m.q := fun e => ap.f (.inr (.inl e))
  have hpl : ¬ InBlk m.pv p := fun e => ap.f (.inr (.inr (.inr (.inl e))))
  have hpz : p ≠ z := fun e => ap.f (.inl e)
  have hd : c.pk.count = 0 ∨ c.pk.picks.length < c.pk.count := by
    by_cases h0 : c.pk.count = 0
    · exact .inl h0
    · refine .inr (Nat.lt_of_le_of_ne (hok.len h0) fun e => ?_)
      unfold Pk.fin at hf
      rw [e, decide_eq_true rfl, decide_eq_true (show 0 < c.pk.count by omega)] at hf
      cases hf
  rw [zbgq, hbs]
  refine Run.inside_ ?_
  unfold zaud
  try simp (disch := first | omega | assumption | exact zaae _ _ | exact zaab _ _ _ | exact zaaf _ | exact zaad _ | exact zaaa _) only [Nat.reduceAdd, Nat.reduceLT, RZ, g]
  refine zaay okd (zcgw (lf := lf) (d := d) x ypk hpq hpl hd (Nat.zero_le _) hlf) (Nat.le_refl _) (fun b _ hb => .inr (by
    rcases hb with hb | hb | hb
    · exact .inl hb
    · exact .inr (.inr (.inl hb))
    · exact .inr (.inr (.inr (.inr (.inl hb)))))) fun v1 h1 n1 hn1 fr1 hq1 => ?_
  have hcons : m.F z z := .inl rfl
  -- what is not the picks reader's own is as it was
  have un : ∀ b, b < n → b ≠ p → b ≠ m.q → ¬ InBlk m.pv b → h1.get b = h.get b := fun b hb h2 h3 h4 => fr1 b hb (by
    rintro (e | e | e)
    · exact h2 e
    · exact h3 e
    · exact h4 e)
  have nz : ∀ {b : Nat}, ¬ m.F z b → b ≠ m.q ∧ ¬ InBlk m.pv b := fun hb => ⟨fun e => hb (.inr (.inl e)), fun e => hb (.inr (.inr (.inr (.inl e))))⟩
  have g1 : h1.get z = _ := (un z hz (Ne.symm hpz) y.zq fun e => (y.pv e).1 rfl).trans g
  have hz1 : z < n1 := by omega
  have mk : ∀ (s : Pk) (pv' : Value) (pw : Bool), PAt h1 0 n1 m.q s pv' pw → (∀ b, InBlk pv' b → InBlk m.pv b ∨ n ≤ b) → CAt h1 n1 z p { c with pk := s } { m with pv := pv', pw := pw } := fun s pv' pw hp hpv =>
    { get := g1
      lt := hz1
      pk := hp
      de := y.de.keep hn1 fun b hb h2 => by
        rcases h2 with rfl | h2
        · exact un _ hb (fun e => ap.f (.inr (.inr (.inl e.symm)))) (Ne.symm y.qr) fun e => (y.pv e).2.2.1 rfl
        · exact un b hb (fun e => ap.f (.inr (.inr (.inr (.inr (.inl (e ▸ h2))))))) (y.lv h2).2.1 fun e => y.vap b e h2
      took := y.took.keep' hn1 fun b hb => un b (y.took.lt hb) (fun e => ap.t (e ▸ hb)) (y.tv hb).2.1 (y.tv hb).2.2.2.2.1
      tap := fun b hb => ⟨fun e => (hpv b e).elim (y.tv hb).2.2.2.2.1 fun e => by have := y.took.lt hb; omega, (y.tv hb).2.2.2.2.2⟩
      vap := fun b hb => (hpv b hb).elim (y.vap b) fun e h2 => by have := (y.de.own.lt h2).2; omega
      cs := y.cs.keep hn1 fun b hb => un b (y.cs.lt hb).2 (fun e => ap.f (.inr (.inr (.inr (.inr (.inr (e ▸ hb))))))) (y.cv hb).2.1 fun e => (y.pv e).2.2.2 hb
      ivl := y.ivl
      code := fun i hi => by
        obtain ⟨w, e, k, h2, h3, h4⟩ := y.code i hi
        refine ⟨w, e, k.keep fun b h5 h6 => un b (by omega) (by omega) (nz (h4 b h5 h6)).1 (nz (h4 b h5 h6)).2, h2, by omega, fun b h5 h6 h7 => ?_⟩
        rcases h7 with h7 | h7 | h7 | h7 | h7 | h7
        · exact h4 b h5 h6 (.inl h7)
        · exact h4 b h5 h6 (.inr (.inl h7))
        · exact h4 b h5 h6 (.inr (.inr (.inl h7)))
        · rcases hpv b h7 with h8 | h8
          · exact h4 b h5 h6 (.inr (.inr (.inr (.inl h8))))
          · omega
        · exact h4 b h5 h6 (.inr (.inr (.inr (.inr (.inl h7)))))
        · exact h4 b h5 h6 (.inr (.inr (.inr (.inr (.inr h7))))) }
  have notd : ∀ {s : Pk} {pv' : Value} {pw : Bool}, PAt h1 0 n1 m.q s pv' pw → s.fin = false → Run (fun _ => False) n1 (zaac Tryz.prog gt lf (d + 5) 59 #[.pointer (some ⟨m.q, 0, none⟩)]) h1 n1 fun v' h' n' => v' = .bool false ∧ h' = h1 ∧ n' = n1 := fun {s pv' pw} hp hf => by
    have := zbjf (lf := lf) (d := d + 4) hp
    rw [show (decide (0 < s.count) && decide (s.picks.length = s.count)) = false from hf] at this
    exact this
  unfold PPost at hq1
  rw [hbs] at hq1
  split at hq1
  · next e =>
    obtain ⟨rfl, x1, y1⟩ := hq1
    try simp (disch := first | omega | assumption | exact zaae _ _ | exact zaab _ _ _ | exact zaaf _ | exact zaad _ | exact zaaa _) only [Nat.reduceAdd, Nat.reduceLT, RZ, g1]
    refine zaaw (notd y1 hf) hn1 (fun _ _ h => h.elim) ?_
    try simp (disch := first | omega | assumption | exact zaae _ _ | exact zaab _ _ _ | exact zaaf _ | exact zaad _ | exact zaaa _) only [Nat.reduceAdd, Nat.reduceLT, RZ]
    try rw [e]
    have := mk c.pk m.pv false y1 fun b hb => .inl hb
    rw [← hpw] at this
    exact ⟨x1, this⟩
  · next e0 e =>
    obtain ⟨rfl, x1, y1⟩ := hq1
    try simp (disch := first | omega | assumption | exact zaae _ _ | exact zaab _ _ _ | exact zaaf _ | exact zaad _ | exact zaaa _) only [Nat.reduceAdd, Nat.reduceLT, RZ, g1]
    refine zaaw (notd y1 hf) hn1 (fun _ _ h => h.elim) ?_
    try simp (disch := first | omega | assumption | exact zaae _ _ | exact zaab _ _ _ | exact zaaf _ | exact zaad _ | exact zaaa _) only [Nat.reduceAdd, Nat.reduceLT, RZ]
    try rw [e]
    first | exact ⟨rfl, x1, mk c.pk m.pv true y1 fun b hb => .inl hb⟩ | exact ⟨x1, mk c.pk m.pv true y1 fun b hb => .inl hb⟩
  · next s u e =>
    obtain ⟨rfl, x1, pv', y1, hpv⟩ := hq1
    try simp (disch := first | omega | assumption | exact zaae _ _ | exact zaab _ _ _ | exact zaaf _ | exact zaad _ | exact zaaa _) only [Nat.reduceAdd, Nat.reduceLT, RZ, g1]
    try rw [e]
    by_cases hfin : s.fin = true
    · have dn := zbjf (lf := lf) (d := d + 4) y1
      rw [show (decide (0 < s.count) && decide (s.picks.length = s.count)) = true from hfin] at dn
      refine zaaw dn hn1 (fun _ _ h => h.elim) ?_
      have hfin2 := hfin
      unfold Pk.fin at hfin2
      rw [Bool.and_eq_true, decide_eq_true_eq, decide_eq_true_eq] at hfin2
      have hcnt := y1.cnt
      try simp (disch := first | omega | assumption | exact zaae _ _ | exact zaab _ _ _ | exact zaaf _ | exact zaad _ | exact zaaa _) only [Nat.reduceAdd, Nat.reduceLT, RZ, g1]
      refine zaay okd (zbsn (lf := lf) (d := d + 3) y1 (by omega) (by omega)) hn1 (fun _ _ h => h.elim) fun v2 h2 n2 hn2 fr2 hq2 => ?_
      have y2 := (mk s pv' false y1 hpv).keep hn2 fun b hb _ => fr2 b hb id
      have g2 := y2.get
      unfold cdB at g2
      have hz2 := y2.lt
      obtain ⟨r2, f2⟩ := hq2
      obtain ⟨a2, c2, rfl⟩ := r2.len
      try simp (disch := first | omega | assumption | exact zaae _ _ | exact zaab _ _ _ | exact zaaf _ | exact zaad _ | exact zaaa _) only [Nat.reduceAdd, Nat.reduceLT, RZ, g2, hcons, true_or, or_true]
      refine ⟨(x1.keep hn2 (fr2 p x1.lt id)).keep (Nat.le_refl _) (zaar _ _ hpz), pv', _, ?_, hpv, fun b hb => .inr (by have := f2 b hb; omega)⟩
      unfold pkNext
      rw [if_pos hfin]
      have := y2.setZ { c with pk := s, took := s.picks } (.slice a2 (iN s.picks).length c2) rfl rfl rfl rfl rfl r2 (fun b hb => ⟨fun e => by have := (y1.own.lt e).2; have := f2 b hb; omega, fun e => by have := (y.de.own.lt e).2; have := f2 b hb; omega⟩) rfl
      rw [← hpw] at this
      exact this
    · have hfin : s.fin = false := by simpa using hfin
      refine zaaw (notd y1 hfin) hn1 (fun _ _ h => h.elim) ?_
      try simp (disch := first | omega | assumption | exact zaae _ _ | exact zaab _ _ _ | exact zaaf _ | exact zaad _ | exact zaaa _) only [Nat.reduceAdd, Nat.reduceLT, RZ]
      have := mk s pv' false y1 hpv
      refine ⟨x1, pv', m.tv, ?_, hpv, fun b hb => .inl hb⟩
      unfold pkNext
      rw [hfin, hpw]
      exact this
end
end Go.Proofs.YtdagfcflbphoiaaGreatDoor

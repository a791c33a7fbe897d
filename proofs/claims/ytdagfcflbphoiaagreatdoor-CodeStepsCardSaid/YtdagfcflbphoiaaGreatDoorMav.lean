import Derived.Test.YtdagfcflbphoiaaGreatDoorMau
namespace Go.Proofs.YtdagfcflbphoiaaGreatDoor
set_option linter.unusedVariables false
set_option linter.unusedSimpArgs false
open Go.RowKit Ev Cn

theorem callM {β : Type} {rec : FuncId → Array Value → M Value} {f : FuncId} (hf : hasBody Tryz.prog f = true) (r a : Value) (k : Value → M β) : callV Tryz.prog rec (.func (.func f) #[r] #[]) [a] k = (inside (rec f #[r, a])).bind k := by
  unfold callV
  show optK (some _) _ = _
  rw [zafh]
  simp only [hf]
  rfl
section
variable {lf d n z p : Nat} {h : H} {S : List UInt8} {D A : Nat} {c : Cd} {m : Cm}
def CPost (h : H) (n p : Nat) (S : List UInt8) (D A z : Nat) (c : Cd) (m : Cm) (v' : Value) (h' : H) (n' : Nat) : Prop :=
  match stepC c (restB S D A) with
  | .short => v' = .tuple #[.int .i64 0, .int .i64 3] ∧ RdAt h' n' p S D A ∧ CAt h' n' z p c m
  | .bad e => v' = .tuple #[.int .i64 0, .int .i64 e] ∧ (∃ B, RdAt h' n' p S D B) ∧ ∃ c' m', CAt h' n' z p c' m' ∧ c'.wrong = e ∧ c'.done = false ∧ (∀ b, m'.F z b → m.F z b ∨ n ≤ b) ∧ Apt p z m'
  | .ok (sym, c') u => v' = .tuple #[.int .i64 sym, .int .i64 0] ∧ RdAt h' n' p S D (A + u) ∧ ∃ m', CAt h' n' z p c' m' ∧ m'.pw = false ∧ m'.dw = false ∧ (∀ b, m'.F z b → m.F z b ∨ n ≤ b) ∧ Apt p z m' ∧ (∀ b, InBlk m'.tv b → InBlk m.tv b ∨ n ≤ b) ∧ ∀ y ∈ m'.iv, y ∈ m.iv ∨ n ≤ y.1
theorem zcir (x : RdAt h n p S D A) (y : CAt h n z p c m) (ap : Apt p z m) (hpw : m.pw = false) (hdw : m.dw = false) (k : COk c) (hc : c.count ≤ 1000000000000000) (hlf : 3000000 ≤ lf) :
    Run (fun b => b = p ∨ m.F z b) n (zaac Tryz.prog gt lf (d + 9) 30 #[.pointer (some ⟨z, 0, none⟩), .pointer (some ⟨p, 0, none⟩)]) h n (CPost h n p S D A z c m) := by
  obtain ⟨bs, hbs⟩ : ∃ bs, restB S D A = bs := ⟨_, rfl⟩
  have g := y.get
  have hz := y.lt
  unfold cdB at g
  rw [k.wr, k.dn] at g
  have hpz : p ≠ z := fun e => ap.f (.inl e)
  have z0 : ((0 : Int) != 0) = false := rfl
  have hcons : m.F z z := .inl rfl
  have dn := zbjf (lf := lf) (d := d + 7) y.pk
  rw [show (decide (0 < c.pk.count) && decide (c.pk.picks.length = c.pk.count)) = c.pk.fin from rfl] at dn
  rw [zart]
  refine Run.inside_ ?_
  unfold zamb
  have cm1 := fun {β : Type} {rec : FuncId → Array Value → M Value} (r a : Value) (k : Value → M β) => callM (rec := rec) (f := 60) (by kernel_rfl) r a k
  have cm2 := fun {β : Type} {rec : FuncId → Array Value → M Value} (r a : Value) (k : Value → M β) => callM (rec := rec) (f := 62) (by kernel_rfl) r a k
  have cm3 := fun {β : Type} {rec : FuncId → Array Value → M Value} (r a : Value) (k : Value → M β) => callM (rec := rec) (f := 58) (by kernel_rfl) r a k
  -- behind the call of one of the three
  have tok : ∀ (sym : Int) (h1 : H) (n1 : Nat) (Q : Value → H → Nat → Prop), Q (.tuple #[.int .i64 sym, .int .i64 0]) h1 n1 →
      Run (fun b => b = p ∨ m.F z b) n (optK (evExtract (.tuple #[.int .i64 sym, .int .i64 0]) 0) fun v61n19 =>
            optK (evExtract (.tuple #[.int .i64 sym, .int .i64 0]) 1) fun v62n20 =>
            optK (bin2 Tryz.prog .eql 29 v62n20 (Value.int .i64 0)) fun v64n21 =>
            ifV v64n21 (
              outK [v61n19, v62n20]) (
              optK (bin2 Tryz.prog .neq 29 v62n20 (Value.int .i64 3)) fun v68n22 =>
              ifV v68n22 (
                (inside (evStore Tryz.prog 29 (.pointer (some ⟨z, 7, none⟩)) v62n20)).bind fun u25 =>
                outK [(Value.int .i64 0), v62n20]) (
                outK [(Value.int .i64 0), v62n20]))) h1 n1 Q := by
    intro sym h1 n1 Q hQ
    have e0 : ((0 : Int) == 0) = true := rfl
    try simp (disch := first | omega | assumption | exact zaae _ _ | exact zaab _ _ _ | exact zaaf _ | exact zaad _ | exact zaaa _) only [Nat.reduceAdd, Nat.reduceLT, RZ, ext0, ext1, e0]
    exact hQ
  have tsh : ∀ (sym : Int) (h1 : H) (n1 : Nat) (Q : Value → H → Nat → Prop), Q (.tuple #[.int .i64 0, .int .i64 3]) h1 n1 →
      Run (fun b => b = p ∨ m.F z b) n (optK (evExtract (.tuple #[.int .i64 sym, .int .i64 3]) 0) fun v61n19 =>
            optK (evExtract (.tuple #[.int .i64 sym, .int .i64 3]) 1) fun v62n20 =>
            optK (bin2 Tryz.prog .eql 29 v62n20 (Value.int .i64 0)) fun v64n21 =>
            ifV v64n21 (
              outK [v61n19, v62n20]) (
              optK (bin2 Tryz.prog .neq 29 v62n20 (Value.int .i64 3)) fun v68n22 =>
              ifV v68n22 (
                (inside (evStore Tryz.prog 29 (.pointer (some ⟨z, 7, none⟩)) v62n20)).bind fun u25 =>
                outK [(Value.int .i64 0), v62n20]) (
                outK [(Value.int .i64 0), v62n20]))) h1 n1 Q := by
    intro sym h1 n1 Q hQ
    have e0 : ((3 : Int) == 0) = false := rfl
    have e3 : ((3 : Int) != 3) = false := rfl
    try simp (disch := first | omega | assumption | exact zaae _ _ | exact zaab _ _ _ | exact zaaf _ | exact zaad _ | exact zaaa _) only [Nat.reduceAdd, Nat.reduceLT, RZ, ext0, ext1, e0, e3]
    exact hQ
  have tbad : ∀ (sym e : Int) (h1 : H) (n1 : Nat) (c1 : Cd) (m1 : Cm) (Q : Value → H → Nat → Prop), e = 22 ∨ e = 25 → CAt h1 n1 z p c1 m1 →
      (∀ h2, (∀ b, b ≠ z → h2.get b = h1.get b) → CAt h2 n1 z p { c1 with wrong := e } m1 → Q (.tuple #[.int .i64 0, .int .i64 e]) h2 n1) →
      Run (fun b => b = p ∨ m.F z b) n (optK (evExtract (.tuple #[.int .i64 sym, .int .i64 e]) 0) fun v61n19 =>
            optK (evExtract (.tuple #[.int .i64 sym, .int .i64 e]) 1) fun v62n20 =>
            optK (bin2 Tryz.prog .eql 29 v62n20 (Value.int .i64 0)) fun v64n21 =>
            ifV v64n21 (
              outK [v61n19, v62n20]) (
              optK (bin2 Tryz.prog .neq 29 v62n20 (Value.int .i64 3)) fun v68n22 =>
              ifV v68n22 (
                (inside (evStore Tryz.prog 29 (.pointer (some ⟨z, 7, none⟩)) v62n20)).bind fun u25 =>
                outK [(Value.int .i64 0), v62n20]) (
                outK [(Value.int .i64 0), v62n20]))) h1 n1 Q := by
    intro sym e h1 n1 c1 m1 Q he y1 hQ
    have e0 : (e == 0) = false := beq_eq_false_iff_ne.2 (by omega)
    have e3 : (e != 3) = true := by rw [bne_iff_ne]; omega
    have g1 := y1.get
    unfold cdB at g1
    have hz1 := y1.lt
    try simp (disch := first | omega | assumption | exact zaae _ _ | exact zaab _ _ _ | exact zaaf _ | exact zaad _ | exact zaaa _) only [Nat.reduceAdd, Nat.reduceLT, RZ, ext0, ext1, e0, e3, g1, hcons]
    exact hQ _ (fun b hb => zaar _ _ hb) (y1.setZ { c1 with wrong := e } m1.tv rfl rfl rfl rfl rfl y1.took y1.tap rfl)
  have ff : ∀ b, m.F z b → m.F z b ∨ n ≤ b := fun b hb => .inl hb
  try simp (disch := first | omega | assumption | exact zaae _ _ | exact zaab _ _ _ | exact zaaf _ | exact zaad _ | exact zaaa _) only [Nat.reduceAdd, Nat.reduceLT, RZ, g, z0]
  refine zaaw dn (Nat.le_refl _) (fun _ _ h => h.elim) ?_
  have badc := @zbpz c bs
  unfold CPost
  rw [hbs]
  by_cases hf : c.pk.fin = false
  · rw [hf]
    unfold stepC at badc ⊢
    rw [if_pos hf] at badc ⊢
    try simp (disch := first | omega | assumption | exact zaae _ _ | exact zaab _ _ _ | exact zaaf _ | exact zaad _ | exact zaaa _) only [Nat.reduceAdd, Nat.reduceLT, RZ, Bool.not_false, cm1]
    refine zaay okd (zchw (lf := lf) (d := d + 2) x y ap hpw k.pk hf (by omega)) (Nat.le_refl _) (fun b _ hb => .inr hb) fun v1 h1 n1 hn1 fr1 hq1 => ?_
    rw [hbs] at hq1
    cases e : stepP c.pk bs with
    | short =>
      rw [e] at hq1
      obtain ⟨rfl, x1, y1⟩ := hq1
      exact tsh _ h1 n1 _ ⟨rfl, x1, y1⟩
    | bad e0 =>
      rw [e] at hq1 badc
      obtain ⟨rfl, ⟨B, x1⟩, y1⟩ := hq1
      exact tbad _ _ h1 n1 _ _ _ (badc rfl) y1 fun h2 k2 y2 => ⟨rfl, ⟨B, x1.keep (Nat.le_refl _) (k2 p hpz)⟩, _, _, y2, rfl, k.dn, ff, ⟨ap.f, ap.t⟩⟩
    | ok s u =>
      rw [e] at hq1
      obtain ⟨rfl, x1, pv', tv', y1, hpv, htv⟩ := hq1
      refine tok _ h1 n1 _ ⟨rfl, x1, _, y1, hpw, hdw, ?_, ?_, htv, fun y hy => .inl hy⟩
      · intro b h7
        rcases h7 with h7 | h7 | h7 | h7 | h7 | h7
        · exact .inl (.inl h7)
        · exact .inl (.inr (.inl h7))
        · exact .inl (.inr (.inr (.inl h7)))
        · exact (hpv b h7).imp (fun h8 => .inr (.inr (.inr (.inl h8)))) id
        · exact .inl (.inr (.inr (.inr (.inr (.inl h7)))))
        · exact .inl (.inr (.inr (.inr (.inr (.inr h7)))))
      · have hpn := x.lt
        refine ⟨fun h7 => ?_, fun h7 => (htv p h7).elim ap.t fun h8 => by omega⟩
        rcases h7 with h7 | h7 | h7 | h7 | h7 | h7
        · exact ap.f (.inl h7)
        · exact ap.f (.inr (.inl h7))
        · exact ap.f (.inr (.inr (.inl h7)))
        · exact (hpv p h7).elim (fun h8 => ap.f (.inr (.inr (.inr (.inl h8))))) fun h8 => by omega
        · exact ap.f (.inr (.inr (.inr (.inr (.inl h7)))))
        · exact ap.f (.inr (.inr (.inr (.inr (.inr h7)))))
  · have fin : c.pk.fin = true := by simpa using hf
    rw [fin]
    have hq := y.pk.lt
    have hcs : ∃ a cc, m.cv = .slice a c.codes.length cc := by
      rcases y.cs with ⟨e1, e2⟩ | ⟨b, e1, _⟩
      · have : m.iv = [] := by rw [List.map_eq_nil_iff] at e2; exact e2
        have h9 := y.ivl
        rw [this] at h9
        exact ⟨none, 0, by rw [e1, ← h9]; rfl⟩
      · rw [List.length_map, y.ivl] at e1
        exact ⟨_, _, e1⟩
    obtain ⟨ca, cc, hcv⟩ := hcs
    rw [hcv] at g
    unfold stepC at badc ⊢
    rw [if_neg hf] at badc ⊢
    try simp (disch := first | omega | assumption | exact zaae _ _ | exact zaab _ _ _ | exact zaaf _ | exact zaad _ | exact zaaa _) only [Nat.reduceAdd, Nat.reduceLT, RZ, Bool.not_true, g]
    refine zbil ag70 _ _ _ g hz rfl fun T1 t1 => ?_
    try simp (disch := first | omega | assumption | exact zaae _ _ | exact zaab _ _ _ | exact zaaf _ | exact zaad _ | exact zaaa _) only [Nat.reduceAdd, Nat.reduceLT, RZ]
    refine zbil ag97 _ _ _ g hz rfl fun T2 t2 => ?_
    try simp (disch := first | omega | assumption | exact zaae _ _ | exact zaab _ _ _ | exact zaaf _ | exact zaad _ | exact zaaa _) only [Nat.reduceAdd, Nat.reduceLT, RZ]
    refine zbkj okd (zcbv (lf := lf) (d := d + 7) y.pk) (Nat.le_refl _) fun T3 t3 => ?_
    by_cases ht : c.codes.length < c.pk.t
    · have c1 : ((c.codes.length : Nat) : Int) < ((c.pk.t : Nat) : Int) := by omega
      rw [if_pos ht] at badc ⊢
      try simp (disch := first | omega | assumption | exact zaae _ _ | exact zaab _ _ _ | exact zaaf _ | exact zaad _ | exact zaaa _) only [Nat.reduceAdd, Nat.reduceLT, RZ, c1, t1.clash t3, Bool.not_false, Bool.and_self, zaew, cm2]
      refine zaay okd (zcgj (lf := lf) (d := d) x y ap hdw k.ln k.ll k.lo k.hi (by have := k.six; omega) hlf) (Nat.le_refl _) (fun b _ hb => .inr hb) fun v1 h1 n1 hn1 fr1 hq1 => ?_
      rw [hbs] at hq1
      cases e : stepT c bs with
      | short =>
        rw [e] at hq1
        obtain ⟨rfl, x1, y1⟩ := hq1
        exact tsh _ h1 n1 _ ⟨rfl, x1, y1⟩
      | bad e0 =>
        rw [e] at hq1 badc
        obtain ⟨rfl, ⟨B, x1⟩, c', m', y1, hc', hm', fm, am⟩ := hq1
        exact tbad _ _ h1 n1 _ _ _ (badc rfl) y1 fun h2 k2 y2 => ⟨rfl, ⟨B, x1.keep (Nat.le_refl _) (k2 p hpz)⟩, _, _, y2, rfl, by rw [hc']; exact k.dn, fm, am⟩
      | ok c' u =>
        rw [e] at hq1
        obtain ⟨rfl, x1, m', y1, e1, e2, e3, fm, am, iv⟩ := hq1
        exact tok _ h1 n1 _ ⟨rfl, x1, m', y1, e1.trans hpw, e2, fm, am, fun b hb => .inl (by rw [e3] at hb; exact hb), iv⟩
    · have c1 : ¬ ((c.codes.length : Nat) : Int) < ((c.pk.t : Nat) : Int) := by omega
      rw [if_neg ht] at badc ⊢
      try simp (disch := first | omega | assumption | exact zaae _ _ | exact zaab _ _ _ | exact zaaf _ | exact zaad _ | exact zaaa _) only [Nat.reduceAdd, Nat.reduceLT, RZ, c1, t1.clash t3, Bool.not_false, Bool.and_self, zaew, cm3]
      refine zaay okd (zcjx (lf := lf) (d := d + 2) x y ap (zboh k fin ht) k.wh k.hi hc (by omega)) (Nat.le_refl _) (fun b _ hb => .inr hb) fun v1 h1 n1 hn1 fr1 hq1 => ?_
      rw [hbs] at hq1
      cases e : stepS c bs with
      | short =>
        rw [e] at hq1
        obtain ⟨rfl, x1, y1⟩ := hq1
        exact tsh _ h1 n1 _ ⟨rfl, x1, y1⟩
      | bad e0 =>
        rw [e] at hq1 badc
        obtain ⟨rfl, x1, y1⟩ := hq1
        exact tbad _ _ h1 n1 _ _ _ (badc rfl) y1 fun h2 k2 y2 => ⟨rfl, ⟨_, x1.keep (Nat.le_refl _) (k2 p hpz)⟩, _, _, y2, rfl, k.dn, ff, ap⟩
      | ok cs u =>
        obtain ⟨s, c'⟩ := cs
        rw [e] at hq1
        obtain ⟨rfl, x1, y1⟩ := hq1
        exact tok _ h1 n1 _ ⟨rfl, x1, m, y1, hpw, hdw, ff, ap, fun b hb => .inl hb, fun y hy => .inl hy⟩
theorem zbxx (y : CAt h n z p c m) (hd : c.done = true ∨ c.wrong ≠ 0) (P : Nat) (hP : P < n) : Run (fun _ => False) n (zaac Tryz.prog gt lf (d + 9) 30 #[.pointer (some ⟨z, 0, none⟩), .pointer (some ⟨P, 0, none⟩)]) h n fun v' h' n' => v' = .tuple #[.int .i64 0, .int .i64 (if c.done = true then 7 else c.wrong)] ∧ h' = h ∧ n' = n := by
  have g := y.get
  have hz := y.lt
  unfold cdB at g
  rw [zart]
  refine Run.inside_ ?_
  unfold zamb
  by_cases h1 : c.done = true
  · rw [h1] at g ⊢
    try simp (disch := first | omega | assumption | exact zaae _ _ | exact zaab _ _ _ | exact zaaf _ | exact zaad _ | exact zaaa _) only [Nat.reduceAdd, Nat.reduceLT, RZ, g]
  · have h2 : c.done = false := by simpa using h1
    rw [h2] at g ⊢
    have h3 : (c.wrong != 0) = true := bne_iff_ne.2 (hd.resolve_left h1)
    try simp (disch := first | omega | assumption | exact zaae _ _ | exact zaab _ _ _ | exact zaaf _ | exact zaad _ | exact zaaa _) only [Nat.reduceAdd, Nat.reduceLT, RZ, g, h3]
theorem zbys (y : CAt h n z p c m) : Run (fun _ => False) n (zaac Tryz.prog gt lf (d + 1) 29 #[.pointer (some ⟨z, 0, none⟩)]) h n fun v' h' n' => v' = .bool c.done ∧ h' = h ∧ n' = n := by
  have g := y.get
  have hz := y.lt
  unfold cdB at g
  rw [zbgc]
  refine Run.inside_ ?_
  unfold zaue
  try simp (disch := first | omega | assumption | exact zaae _ _ | exact zaab _ _ _ | exact zaaf _ | exact zaad _ | exact zaaa _) only [Nat.reduceAdd, Nat.reduceLT, RZ, g]
theorem zcfu (y : CAt h n z p c m) : Run (fun _ => False) n (zaac Tryz.prog gt lf (d + 1) 32 #[.pointer (some ⟨z, 0, none⟩)]) h n fun v' h' n' => v' = .int .i64 (c.count : Int) ∧ h' = h ∧ n' = n := by
  have g := y.get
  have hz := y.lt
  unfold cdB at g
  rw [zbdl]
  refine Run.inside_ ?_
  unfold zasb
  try simp (disch := first | omega | assumption | exact zaae _ _ | exact zaab _ _ _ | exact zaaf _ | exact zaad _ | exact zaaa _) only [Nat.reduceAdd, Nat.reduceLT, RZ, g]
def cd0 (size : Nat) : Cd := ⟨size, ⟨0, 0, ord0, []⟩, 0, [], [], [], 0, false, 0⟩
end
end Go.Proofs.YtdagfcflbphoiaaGreatDoor

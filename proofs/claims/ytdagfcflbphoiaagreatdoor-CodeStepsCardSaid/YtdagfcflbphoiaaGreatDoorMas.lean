import Derived.Test.YtdagfcflbphoiaaGreatDoorMar
namespace Go.Proofs.YtdagfcflbphoiaaGreatDoor
set_option linter.unusedVariables false
set_option linter.unusedSimpArgs false
open Go.RowKit Ev Cn

structure LnOk (size now : Nat) (lens : List Nat) : Prop where
  now : now ≤ 20
  len : lens.length ≤ size
  all : ∀ x ∈ lens, 1 ≤ x ∧ x ≤ 20
theorem zbej {size now : Nat} {lens : List Nat} (k : LnOk size now lens) (hl : lens.length < size) {bs : List Bool} {m : Nat} {l : List Nat} {u : Nat} (h : stepD now lens bs = .ok (m, l) u) : LnOk size m l := by
  have turn : ∀ (z : Int) (w : Nat), turnD z lens w = .ok (m, l) u → LnOk size m l := by
    intro z w hz
    unfold turnD at hz
    split at hz
    · next hc =>
      simp only [St.ok.injEq, Prod.mk.injEq] at hz
      obtain ⟨⟨rfl, rfl⟩, _⟩ := hz
      exact ⟨by omega, k.len, k.all⟩
    · cases hz
  unfold stepD at h
  split at h
  · split at h
    · cases h
    · exact turn _ _ h
  · next h0 =>
    split at h
    · cases h
    · simp only [St.ok.injEq, Prod.mk.injEq] at h
      obtain ⟨⟨rfl, rfl⟩, _⟩ := h
      refine ⟨k.now, by simp; omega, fun x hx => ?_⟩
      rcases List.mem_append.1 hx with h1 | h1
      · exact k.all x h1
      · simp only [List.mem_singleton] at h1
        subst h1
        have := k.now
        omega
    · cases h
    · exact turn _ _ h
theorem zbpq {now : Nat} {lens : List Nat} {bs : List Bool} {e : Int} (h : stepD now lens bs = .bad e) : e = 22 := by
  have turn : ∀ (z : Int) (w : Nat), turnD z lens w = .bad e → e = 22 := by
    intro z w hz
    unfold turnD at hz
    split at hz
    · cases hz
    · cases hz; rfl
  unfold stepD at h
  split at h
  · split at h
    · cases h
    · exact turn _ _ h
  · split at h
    · cases h
    · cases h
    · cases h
    · exact turn _ _ h
theorem DAt.low {h : H} {lo n q size now : Nat} {lv : Value} {lens : List Nat} {wrong : Bool} (x : DAt h lo n q size now lv lens wrong) : DAt h 0 n q size now lv lens wrong := ⟨x.get, Nat.zero_le _, x.lt, x.own.low (Nat.zero_le _)⟩
def stepT (c : Cd) (bs : List Bool) : St Cd :=
  match stepD c.now c.lens bs with
  | .short => .short
  | .bad e => .bad e
  | .ok (m, l) u => if l.length = c.size then (if shrL (iN l) = 1048576 then .ok { c with now := 0, lens := [], codes := c.codes ++ [l] } u else .bad 22) else .ok { c with now := m, lens := l } u
section
variable {lf d n z p : Nat} {h : H} {S : List UInt8} {D A : Nat} {c : Cd} {m : Cm}
theorem zcgj (x : RdAt h n p S D A) (y : CAt h n z p c m) (ap : Apt p z m) (hdw : m.dw = false) (hok : LnOk c.size c.now c.lens) (hl : c.lens.length < c.size) (h3s : 3 ≤ c.size) (h258 : c.size ≤ 258) (hcl : c.codes.length ≤ 100) (hlf : 3000000 ≤ lf) :
    Run (fun b => b = p ∨ m.F z b) n (zaac Tryz.prog gt lf (d + 8) 62 #[.pointer (some ⟨z, 0, none⟩), .pointer (some ⟨p, 0, none⟩)]) h n fun v' h' n' =>
      match stepT c (restB S D A) with
      | .short => v' = .tuple #[.int .i64 (-1), .int .i64 3] ∧ RdAt h' n' p S D A ∧ CAt h' n' z p c m
      | .bad e => v' = .tuple #[.int .i64 (-1), .int .i64 e] ∧ (∃ B, RdAt h' n' p S D B) ∧ ∃ c' m', CAt h' n' z p c' m' ∧ c' = { c with now := c'.now, lens := c'.lens } ∧ m' = { m with lv := m'.lv, dw := m'.dw } ∧ (∀ b, m'.F z b → m.F z b ∨ n ≤ b) ∧ Apt p z m'
      | .ok c' u => v' = .tuple #[.int .i64 (-1), .int .i64 0] ∧ RdAt h' n' p S D (A + u) ∧ ∃ m', CAt h' n' z p c' m' ∧ m'.pw = m.pw ∧ m'.dw = false ∧ m'.tv = m.tv ∧ (∀ b, m'.F z b → m.F z b ∨ n ≤ b) ∧ Apt p z m' ∧ ∀ y ∈ m'.iv, y ∈ m.iv ∨ n ≤ y.1 := by
  obtain ⟨bs, hbs⟩ : ∃ bs, restB S D A = bs := ⟨_, rfl⟩
  have g := y.get
  have hz := y.lt
  unfold cdB at g
  have yde := y.de
  rw [hdw] at yde
  have hpq : p ≠ m.r := fun e => ap.f (.inr (.inr (.inl e)))
  have hpl : ¬ InBlk m.lv p := fun e => ap.f (.inr (.inr (.inr (.inr (.inl e)))))
  have hpz : p ≠ z := fun e => ap.f (.inl e)
  have hpn := x.lt
  have z0 : ((0 : Int) != 0) = false := rfl
  have z3 : ((3 : Int) != 0) = true := rfl
  rw [zbed, hbs]
  refine Run.inside_ ?_
  unfold zasd stepT
  try simp (disch := first | omega | assumption | exact zaae _ _ | exact zaab _ _ _ | exact zaaf _ | exact zaad _ | exact zaaa _) only [Nat.reduceAdd, Nat.reduceLT, RZ, g]
  refine zaay okd (zcis (lf := lf) (d := d + 2) x yde hpq hpl hok.now hl h258 (Nat.zero_le _) (by omega)) (Nat.le_refl _) (fun b _ hb => .inr (by
    rcases hb with hb | hb | hb
    · exact .inl hb
    · exact .inr (.inr (.inr (.inl hb)))
    · exact .inr (.inr (.inr (.inr (.inr (.inl hb))))))) fun v1 h1 n1 hn1 fr1 hq1 => ?_
  have un : ∀ b, b < n → b ≠ p → b ≠ m.r → ¬ InBlk m.lv b → h1.get b = h.get b := fun b hb h2 h3 h4 => fr1 b hb (by
    rintro (e | e | e)
    · exact h2 e
    · exact h3 e
    · exact h4 e)
  have nz : ∀ {b : Nat}, ¬ m.F z b → b ≠ m.r ∧ ¬ InBlk m.lv b := fun hb => ⟨fun e => hb (.inr (.inr (.inl e))), fun e => hb (.inr (.inr (.inr (.inr (.inl e)))))⟩
  have g1 : h1.get z = _ := (un z hz (Ne.symm hpz) y.zr fun e => (y.lv e).1 rfl).trans g
  have hz1 : z < n1 := by omega
  have mk : ∀ (now' : Nat) (l' : List Nat) (lv' : Value) (dw : Bool), DAt h1 0 n1 m.r c.size now' lv' l' dw → (∀ b, InBlk lv' b → InBlk m.lv b ∨ n ≤ b) → CAt h1 n1 z p { c with now := now', lens := l' } { m with lv := lv', dw := dw } := fun now' l' lv' dw hp hlv =>
    { get := g1
      lt := hz1
      pk := y.pk.keep hn1 fun b hb h2 => by
        rcases h2 with rfl | h2
        · exact un _ hb (fun e => ap.f (.inr (.inl e.symm))) y.qr fun e => (y.lv e).2.1 rfl
        · exact un b hb (fun e => ap.f (.inr (.inr (.inr (.inl (e ▸ h2)))))) (y.pv h2).2.2.1 (y.vap b h2)
      de := hp
      took := y.took.keep' hn1 fun b hb => un b (y.took.lt hb) (fun e => ap.t (e ▸ hb)) (y.tv hb).2.2.1 (y.tv hb).2.2.2.2.2
      tap := fun b hb => ⟨(y.tv hb).2.2.2.2.1, fun e => (hlv b e).elim (y.tv hb).2.2.2.2.2 fun e => by have := y.took.lt hb; omega⟩
      vap := fun b hb h2 => (hlv b h2).elim (y.vap b hb) fun e => by have := (y.pk.own.lt hb).2; omega
      cs := y.cs.keep hn1 fun b hb => un b (y.cs.lt hb).2 (fun e => ap.f (.inr (.inr (.inr (.inr (.inr (e ▸ hb))))))) (y.cv hb).2.2 fun e => (y.lv e).2.2.2 hb
      ivl := y.ivl
      code := fun i hi => by
        obtain ⟨w, e, k, h2, h3, h4⟩ := y.code i hi
        refine ⟨w, e, k.keep fun b h5 h6 => un b (by omega) (by omega) (nz (h4 b h5 h6)).1 (nz (h4 b h5 h6)).2, h2, by omega, fun b h5 h6 h7 => ?_⟩
        rcases h7 with h7 | h7 | h7 | h7 | h7 | h7
        · exact h4 b h5 h6 (.inl h7)
        · exact h4 b h5 h6 (.inr (.inl h7))
        · exact h4 b h5 h6 (.inr (.inr (.inl h7)))
        · exact h4 b h5 h6 (.inr (.inr (.inr (.inl h7))))
        · rcases hlv b h7 with h8 | h8
          · exact h4 b h5 h6 (.inr (.inr (.inr (.inr (.inl h8)))))
          · omega
        · exact h4 b h5 h6 (.inr (.inr (.inr (.inr (.inr h7))))) }
  have fm : ∀ (lv' : Value) (dw : Bool), (∀ b, InBlk lv' b → InBlk m.lv b ∨ n ≤ b) → (∀ b, ({ m with lv := lv', dw := dw } : Cm).F z b → m.F z b ∨ n ≤ b) ∧ Apt p z { m with lv := lv', dw := dw } := by
    intro lv' dw hlv
    have k : ∀ b, ({ m with lv := lv', dw := dw } : Cm).F z b → m.F z b ∨ n ≤ b := by
      intro b h7
      rcases h7 with h7 | h7 | h7 | h7 | h7 | h7
      · exact .inl (.inl h7)
      · exact .inl (.inr (.inl h7))
      · exact .inl (.inr (.inr (.inl h7)))
      · exact .inl (.inr (.inr (.inr (.inl h7))))
      · exact (hlv b h7).imp (fun h8 => .inr (.inr (.inr (.inr (.inl h8))))) id
      · exact .inl (.inr (.inr (.inr (.inr (.inr h7)))))
    exact ⟨k, ⟨fun e => (k p e).elim ap.f fun e => by omega, ap.t⟩⟩
  unfold DPost at hq1
  rw [hbs] at hq1
  split at hq1
  · next e =>
    obtain ⟨rfl, x1, y1⟩ := hq1
    try simp (disch := first | omega | assumption | exact zaae _ _ | exact zaab _ _ _ | exact zaaf _ | exact zaad _ | exact zaaa _) only [Nat.reduceAdd, Nat.reduceLT, RZ, z3]
    try rw [e]
    have := mk c.now c.lens m.lv false y1 fun b hb => .inl hb
    rw [← hdw] at this
    exact ⟨x1, this⟩
  · next e0 e =>
    obtain ⟨rfl, x1, y1⟩ := hq1
    have he0 : (e0 != 0) = true := by
      rw [zbpq e]; rfl
    try simp (disch := first | omega | assumption | exact zaae _ _ | exact zaab _ _ _ | exact zaaf _ | exact zaad _ | exact zaaa _) only [Nat.reduceAdd, Nat.reduceLT, RZ, he0]
    try rw [e]
    exact ⟨rfl, x1, _, _, mk c.now c.lens m.lv true y1 (fun b hb => .inl hb), rfl, rfl, fm m.lv true fun b hb => .inl hb⟩
  · next now' l' u e =>
    obtain ⟨rfl, x1, lv', y1, hlv⟩ := hq1
    have ok1 := zbej hok hl e
    try simp (disch := first | omega | assumption | exact zaae _ _ | exact zaab _ _ _ | exact zaaf _ | exact zaad _ | exact zaaa _) only [Nat.reduceAdd, Nat.reduceLT, RZ, z0, g1]
    refine zaaw (zbwy (lf := lf) (d := d + 6) y1) hn1 (fun _ _ h => h.elim) ?_
    try rw [e]
    by_cases hfull : l'.length = c.size
    · rw [decide_eq_true hfull]
      try simp (disch := first | omega | assumption | exact zaae _ _ | exact zaab _ _ _ | exact zaaf _ | exact zaad _ | exact zaaa _) only [Nat.reduceAdd, Nat.reduceLT, RZ, Bool.not_true, g1]
      refine zaay okd (zchs (lf := lf) (d := d + 5) y1 (by omega) (by omega)) hn1 (fun _ _ h => h.elim) fun v2 h2 n2 hn2 fr2 r2 => ?_
      have y2 := (mk now' l' lv' false y1 hlv).keep hn2 fun b hb _ => fr2 b hb id
      have x2 := x1.keep hn2 (fr2 p x1.lt id)
      have hln := zadn l'
      by_cases hs : shrL (iN l') = 1048576
      · refine zaay okd (zcjt lf d n2 h2 hlf v2 l' r2 (by omega) (by omega) (wh_of ok1.all hs) hs) (by omega) (fun _ _ h => h.elim) fun v3 h3 n3 hn3 fr3 hq3 => ?_
        obtain ⟨c3, rfl, k3⟩ := hq3
        have y3 := y2.keep hn3 fun b hb _ => fr3 b hb id
        have x3 := x2.keep hn3 (fr3 p x2.lt id)
        have g3 := y3.get
        unfold cdB at g3
        have hz3 := y3.lt
        try simp (disch := first | omega | assumption | exact zaae _ _ | exact zaab _ _ _ | exact zaaf _ | exact zaad _ | exact zaaa _) only [Nat.reduceAdd, Nat.reduceLT, RZ, ext0, ext1, z0, g3]
        refine zalx c1x70 (zaaf _) y3.cs (by have h9 : m.iv.length = c.codes.length := y3.ivl; show (m.iv.map _).length + 1 ≤ _; rw [List.length_map]; omega) (fun b hb => .inr (.inr (.inr (.inr (.inr (.inr (.inr hb))))))) _ fun h4 g4 k4 => ?_
        have g5 : h4.get z = _ := (k4 z hz3 fun e => (y3.cv e).1 rfl).trans g3
        have hz5 : z < n3 + 2 := by omega
        have hcons : m.F z z := .inl rfl
        try simp (disch := first | omega | assumption | exact zaae _ _ | exact zaab _ _ _ | exact zaaf _ | exact zaad _ | exact zaaa _) only [Nat.reduceAdd, Nat.reduceLT, RZ, g5, hcons, true_or, or_true]
        refine zaay okd (zcep (lf := lf) (d := d + 5) h3s h258) (by omega) (fun _ _ h => h.elim) fun v6 h6 n6 hn6 fr6 hq6 => ?_
        obtain ⟨rfl, rfl, de6⟩ := hq6
        have g6 : h6.get z = _ := (fr6 z hz5 id).trans (zaaz _ _ _)
        have hz6 : z < n3 + 2 + 1 := by omega
        try simp (disch := first | omega | assumption | exact zaae _ _ | exact zaab _ _ _ | exact zaaf _ | exact zaad _ | exact zaaa _) only [Nat.reduceAdd, Nat.reduceLT, RZ, ext0, ext1, g6, hcons, true_or, or_true]
        rw [if_pos hfull, if_pos hs]
        have un : ∀ (B : Option AB) b, b < n3 → b ≠ z → ¬ InBlk m.cv b → (h6.set z B).get b = h3.get b := fun B b hb h7 h8 => by
          rw [zaar _ _ h7, fr6 b (by omega) id, zaar _ _ h7, k4 b hb h8]
        have cvlt : ∀ {b : Nat}, InBlk m.cv b → b < n3 := fun hb => (y3.cs.lt hb).2
        have hmi : m.iv.length = c.codes.length := y3.ivl
        -- what holds of the new shape
        have key : ∀ B : AB, B = cdB { c with now := 0, lens := [], codes := c.codes ++ [l'] } { m with r := n3 + 2, lv := .slice none 0 0, cv := .slice (some ⟨n3 + 1, 0, none⟩) ((m.iv.map fun x => Value.pointer (some ⟨x.2.2, 0, none⟩)).length + 1) (CAP + ((m.iv.map fun x => Value.pointer (some ⟨x.2.2, 0, none⟩)).length + 1)), dw := false, iv := m.iv ++ [(n2, n3, c3)] } →
            CAt (h6.set z (some B)) (n3 + 2 + 1) z p { c with now := 0, lens := [], codes := c.codes ++ [l'] } { m with r := n3 + 2, lv := .slice none 0 0, cv := .slice (some ⟨n3 + 1, 0, none⟩) ((m.iv.map fun x => Value.pointer (some ⟨x.2.2, 0, none⟩)).length + 1) (CAP + ((m.iv.map fun x => Value.pointer (some ⟨x.2.2, 0, none⟩)).length + 1)), dw := false, iv := m.iv ++ [(n2, n3, c3)] } := fun B hB =>
          { get := by rw [zaaz, hB]
            lt := by omega
            pk := y3.pk.keep (by omega) fun b hb h7 => by
              rcases h7 with rfl | h7
              · exact un _ _ hb (Ne.symm y3.zq) fun e => (y3.cv e).2.1 rfl
              · exact un _ b hb (y3.pv h7).1 (y3.pv h7).2.2.2
            de := (de6.low).keep (Nat.le_refl _) fun b hb h7 => zaar _ _ (by
              rcases h7 with rfl | h7
              · omega
              · obtain ⟨_, _, _, h7⟩ := h7; cases h7)
            took := y3.took.keep' (by omega) fun b hb => un _ b (y3.took.lt hb) (y3.tv hb).1 (y3.tv hb).2.2.2.1
            tap := fun b hb => ⟨(y3.tv hb).2.2.2.2.1, fun e => by obtain ⟨_, _, _, e⟩ := e; cases e⟩
            vap := fun b hb e => by obtain ⟨_, _, _, e⟩ := e; cases e
            cs := by
              refine .inr ⟨n3 + 1, ?_, ?_, by omega, by omega⟩
              · simp
              · rw [zaar _ _ (by omega), fr6 _ (by omega) id, zaar _ _ (by omega), g4, List.map_append]
                rfl
            ivl := by simp [hmi]
            code := fun i hi => by
              have hi : i < c.codes.length + 1 := by simpa using hi
              by_cases hi2 : i < c.codes.length
              · obtain ⟨w, e, k, h7, h8, h9⟩ := y3.code i hi2
                refine ⟨w, by rw [List.getElem?_append_left (by omega)]; exact e, ?_, h7, by omega, fun b h10 h11 h12 => ?_⟩
                · have : (c.codes ++ [l']).getD i [] = c.codes.getD i [] := by rw [zazv, if_pos hi2]
                  show CodeIn _ _ _ _ ((c.codes ++ [l']).getD i [])
                  rw [this]
                  exact k.keep fun b h10 h11 => un _ b (by omega) (fun e => h9 b h10 h11 (.inl e)) fun e => h9 b h10 h11 (.inr (.inr (.inr (.inr (.inr e)))))
                · rcases h12 with h12 | h12 | h12 | h12 | h12 | h12
                  · exact h9 b h10 h11 (.inl h12)
                  · exact h9 b h10 h11 (.inr (.inl h12))
                  · have : b = n3 + 2 := h12
                    omega
                  · exact h9 b h10 h11 (.inr (.inr (.inr (.inl h12))))
                  · obtain ⟨_, _, _, e⟩ := h12; cases e
                  · have := h12.inj
                    omega
              · have hi3 : i = c.codes.length := by omega
                subst hi3
                refine ⟨(n2, n3, c3), by rw [← hmi, List.getElem?_append_right (Nat.le_refl _), Nat.sub_self]; rfl, ?_, x2.lt, by show n3 ≤ _; omega, fun b h10 h11 h12 => ?_⟩
                · have : (c.codes ++ [l']).getD c.codes.length [] = l' := by rw [zazv, if_neg (by omega), if_pos rfl]
                  show CodeIn _ _ _ _ ((c.codes ++ [l']).getD c.codes.length [])
                  rw [this]
                  refine k3.keep fun b h10 h11 => un _ b h11 (fun e => by have := y2.lt; omega) fun e => ?_
                  have := (y2.cs.lt e).2
                  omega
                · have h10 : n2 ≤ b := h10
                  have h11 : b < n3 := h11
                  rcases h12 with h12 | h12 | h12 | h12 | h12 | h12
                  · have := y2.lt
                    omega
                  · have h12 : b = m.q := h12
                    have := y2.pk.lt
                    have h13 : m.q < n2 := this
                    omega
                  · have : b = n3 + 2 := h12
                    omega
                  · have := (y2.pk.own.lt h12).2
                    omega
                  · obtain ⟨_, _, _, e⟩ := h12; cases e
                  · have := h12.inj
                    omega }
        have fk : ∀ b, ({ m with r := n3 + 2, lv := .slice none 0 0, cv := .slice (some ⟨n3 + 1, 0, none⟩) ((m.iv.map fun x => Value.pointer (some ⟨x.2.2, 0, none⟩)).length + 1) (CAP + ((m.iv.map fun x => Value.pointer (some ⟨x.2.2, 0, none⟩)).length + 1)), dw := false, iv := m.iv ++ [(n2, n3, c3)] } : Cm).F z b → m.F z b ∨ n ≤ b := by
          intro b h12
          rcases h12 with h12 | h12 | h12 | h12 | h12 | h12
          · exact .inl (.inl h12)
          · exact .inl (.inr (.inl h12))
          · have : b = n3 + 2 := h12
            exact .inr (by omega)
          · exact .inl (.inr (.inr (.inr (.inl h12))))
          · obtain ⟨_, _, _, e⟩ := h12; cases e
          · have := h12.inj
            exact .inr (by omega)
        refine ⟨(x3.keep (by omega) ((fr6 p (by have := x3.lt; omega) id).trans ((zaar _ _ hpz).trans (k4 p x3.lt fun e => ap.f (.inr (.inr (.inr (.inr (.inr e)))))))) : RdAt h6 _ p S D (A + u)).keep (Nat.le_refl _) (zaar _ _ hpz), _, key _ rfl, rfl, rfl, rfl, fk, ⟨fun e => (fk p e).elim ap.f fun e => by omega, ap.t⟩, fun y hy => by
          rcases List.mem_append.1 hy with hy | hy
          · exact .inl hy
          · simp only [List.mem_singleton] at hy
            subst hy
            exact .inr (by show n ≤ n2; omega)⟩
      · refine zaay okd (zcar lf d n2 h2 hlf v2 (iN l') r2 (by omega) (by omega) (zapb.2 fun x hx => by
            obtain ⟨w, hw, rfl⟩ := List.mem_map.1 hx
            have := ok1.all w hw
            omega) hs) (by omega) (fun _ _ h => h.elim) fun v3 h3 n3 hn3 fr3 hq3 => ?_
        subst hq3
        have z22 : ((22 : Int) != 0) = true := rfl
        try simp (disch := first | omega | assumption | exact zaae _ _ | exact zaab _ _ _ | exact zaaf _ | exact zaad _ | exact zaaa _) only [Nat.reduceAdd, Nat.reduceLT, RZ, ext0, ext1, z22]
        rw [if_pos hfull, if_neg hs]
        exact ⟨rfl, ⟨_, x2.keep hn3 (fr3 p x2.lt id)⟩, _, _, y2.keep hn3 fun b hb _ => fr3 b hb id, rfl, rfl, fm lv' false hlv⟩
    · rw [decide_eq_false hfull]
      try simp (disch := first | omega | assumption | exact zaae _ _ | exact zaab _ _ _ | exact zaaf _ | exact zaad _ | exact zaaa _) only [Nat.reduceAdd, Nat.reduceLT, RZ, Bool.not_false]
      rw [if_neg hfull]
      exact ⟨x1, _, mk now' l' lv' false y1 hlv, rfl, rfl, rfl, (fm lv' false hlv).1, (fm lv' false hlv).2, fun y hy => .inl hy⟩
end
end Go.Proofs.YtdagfcflbphoiaaGreatDoor

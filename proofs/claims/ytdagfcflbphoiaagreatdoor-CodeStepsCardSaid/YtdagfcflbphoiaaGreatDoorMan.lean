import Derived.Test.YtdagfcflbphoiaaGreatDoorMam
namespace Go.Proofs.YtdagfcflbphoiaaGreatDoor
set_option linter.unusedVariables false
set_option linter.unusedSimpArgs false
open Go.RowKit Ev Cn

inductive St (α : Type)
  | short
  | bad (e : Int)
  | ok (a : α) (used : Nat)
def turnD (m : Int) (lens : List Nat) (used : Nat) : St (Nat × List Nat) := if 1 ≤ m ∧ m ≤ 20 then .ok (m.toNat, lens) used else .bad 22
def stepD (now : Nat) (lens : List Nat) (bs : List Bool) : St (Nat × List Nat) :=
  if now = 0 then (if bs.length < 5 then .short else turnD (num (bs.take 5) 0 : Int) lens 5)
  else match bs with
    | [] => .short
    | false :: _ => .ok (now, lens ++ [now]) 1
    | [true] => .short
    | true :: b :: _ => turnD ((now : Int) + 1 - 2 * (bn b : Int)) lens 2
def dB (size now : Nat) (lv : Value) (wrong : Bool) : AB := ⟨130, true, [.int .i64 (size : Int), .int .i64 (now : Int), lv, .bool wrong]⟩
structure DAt (h : H) (lo n q size now : Nat) (lv : Value) (lens : List Nat) (wrong : Bool) : Prop where
  get : h.get q = some (dB size now lv wrong)
  ge : lo ≤ q
  lt : q < n
  own : Own h lo n 3 lv (intsV .i64 (iN lens))
theorem DAt.ne {h : H} {lo n q size now : Nat} {lv : Value} {lens : List Nat} {wrong : Bool} (x : DAt h lo n q size now lv lens wrong) {b : Nat} (hb : InBlk lv b) : b ≠ q := fun e => by
  obtain ⟨B, h1, h2⟩ := x.own.elem hb
  rw [e, x.get] at h1
  cases h1
  exact absurd (show (130 : Nat) = 3 from h2) (by decide)
theorem DAt.keep {h h' : H} {lo n n' q size now : Nat} {lv : Value} {lens : List Nat} {wrong : Bool} (x : DAt h lo n q size now lv lens wrong) (hn : n ≤ n') (hk : ∀ b, b < n → (b = q ∨ InBlk lv b) → h'.get b = h.get b) : DAt h' lo n' q size now lv lens wrong :=
  ⟨(hk q x.lt (.inl rfl)).trans x.get, x.ge, Nat.lt_of_lt_of_le x.lt hn, x.own.keep hn fun b hb => hk b (x.own.lt hb).2 (.inr hb)⟩
section
variable {lf d n p q lo size now : Nat} {h : H} {S : List UInt8} {D A : Nat} {lv : Value} {lens : List Nat} {wrong : Bool}
theorem zcfm (z : Int) : Run (fun _ => False) n (zaac Tryz.prog gt lf (d + 1) 91 #[.int .i64 z]) h n fun v' h' n' => v' = .bool (decide (3 ≤ z) && decide (z ≤ 258)) ∧ h' = h ∧ n' = n := by
  rw [zboz]
  refine Run.inside_ ?_
  unfold zbfi
  by_cases c : 3 ≤ z
  · try simp (disch := first | omega | assumption | exact zaae _ _ | exact zaab _ _ _ | exact zaaf _ | exact zaad _ | exact zaaa _) only [Nat.reduceAdd, Nat.reduceLT, RZ, c]
  · try simp (disch := first | omega | assumption | exact zaae _ _ | exact zaab _ _ _ | exact zaaf _ | exact zaad _ | exact zaaa _) only [Nat.reduceAdd, Nat.reduceLT, RZ, c]
theorem zcbq (z : Int) : Run (fun _ => False) n (zaac Tryz.prog gt lf (d + 1) 107 #[.int .i64 z]) h n fun v' h' n' => v' = .bool (decide (1 ≤ z) && decide (z ≤ 20)) ∧ h' = h ∧ n' = n := by
  rw [zbnf]
  refine Run.inside_ ?_
  unfold zbcb
  by_cases c : 1 ≤ z
  · try simp (disch := first | omega | assumption | exact zaae _ _ | exact zaab _ _ _ | exact zaaf _ | exact zaad _ | exact zaaa _) only [Nat.reduceAdd, Nat.reduceLT, RZ, c]
  · try simp (disch := first | omega | assumption | exact zaae _ _ | exact zaab _ _ _ | exact zaaf _ | exact zaad _ | exact zaaa _) only [Nat.reduceAdd, Nat.reduceLT, RZ, c]
theorem zcep (h3 : 3 ≤ size) (h258 : size ≤ 258) : Run (fun _ => False) n (zaac Tryz.prog gt lf (d + 2) 56 #[.int .i64 (size : Int)]) h n fun v h' n' => v = .tuple #[.pointer (some ⟨n, 0, none⟩), .int .i64 0] ∧ n' = n + 1 ∧ DAt h' n n' n size 0 (.slice none 0 0) [] false := by
  rw [zbit]
  refine Run.inside_ ?_
  unfold zawj
  refine zaaw (zcfm (size : Int)) (Nat.le_refl _) (fun _ _ h => h.elim) ?_
  rw [decide_eq_true (show (3 : Int) ≤ (size : Int) by omega), decide_eq_true (show (size : Int) ≤ 258 by omega)]
  try simp (disch := first | omega | assumption | exact zaae _ _ | exact zaab _ _ _ | exact zaaf _ | exact zaad _ | exact zaaa _) only [Nat.reduceAdd, Nat.reduceLT, RZ, Bool.and_self, Bool.not_true]
  refine zawv sz130 _ _ ?_
  try simp (disch := first | omega | assumption | exact zaae _ _ | exact zaab _ _ _ | exact zaaf _ | exact zaad _ | exact zaaa _) only [Nat.reduceAdd, Nat.reduceLT, RZ]
  exact ⟨zaaz _ _ _, Nat.le_refl _, by omega, Own.nil _ _ _ _⟩
theorem zbwy (x : DAt h lo n q size now lv lens wrong) : Run (fun _ => False) n (zaac Tryz.prog gt lf (d + 1) 96 #[.pointer (some ⟨q, 0, none⟩)]) h n fun v' h' n' => v' = .bool (decide (lens.length = size)) ∧ h' = h ∧ n' = n := by
  have g := x.get
  have hq := x.lt
  unfold dB at g
  have hr := x.own.row
  obtain ⟨a, c, rfl⟩ := hr.len
  rw [zbdv]
  refine Run.inside_ ?_
  unfold zarn
  have e : ((((iN lens).length : Nat) : Int) == (size : Int)) = decide (lens.length = size) := by
    rw [zadn]
    by_cases e : lens.length = size
    · rw [decide_eq_true e, e]; simp
    · rw [decide_eq_false e]; exact beq_eq_false_iff_ne.2 fun q => e (by omega)
  try simp (disch := first | omega | assumption | exact zaae _ _ | exact zaab _ _ _ | exact zaaf _ | exact zaad _ | exact zaaa _) only [Nat.reduceAdd, Nat.reduceLT, RZ, Int.reduceBEq, Int.reduceBNe, Int.reduceLT, Int.reduceLE, Int.reduceEq, Int.reduceNe, Int.reduceAdd, Int.reduceSub, Int.reduceMul, Int.reduceNeg, g, e]
theorem zchs (x : DAt h lo n q size now lv lens wrong) (h0 : 0 < lens.length) (hl : lens.length ≤ 1000) : Run (fun _ => False) n (zaac Tryz.prog gt lf (d + 2) 97 #[.pointer (some ⟨q, 0, none⟩)]) h n fun v' h' n' => Row h' n' 3 .i64 v' (iN lens) := by
  have g := x.get
  have hq := x.lt
  unfold dB at g
  rw [zbdt]
  refine Run.inside_ ?_
  unfold zasi
  try simp (disch := first | omega | assumption | exact zaae _ _ | exact zaab _ _ _ | exact zaaf _ | exact zaad _ | exact zaaa _) only [Nat.reduceAdd, Nat.reduceLT, RZ, Int.reduceBEq, Int.reduceBNe, Int.reduceLT, Int.reduceLE, Int.reduceEq, Int.reduceNe, Int.reduceAdd, Int.reduceSub, Int.reduceMul, Int.reduceNeg, g]
  refine zaay okd (zbog lf d n h lv (iN lens) x.own.row (by rw [zadn]; exact h0) (by rw [zadn]; omega)) (Nat.le_refl _) (fun _ _ h => h.elim) fun v1 h1 n1 hn1 fr1 hq => ?_
  try simp (disch := first | omega | assumption | exact zaae _ _ | exact zaab _ _ _ | exact zaaf _ | exact zaad _ | exact zaaa _) only [Nat.reduceAdd, Nat.reduceLT, RZ]
  exact hq.2.1
theorem zcfb (x : DAt h lo n q size now lv lens wrong) (m : Int) : Run (fun b => b = q) n (zaac Tryz.prog gt lf (d + 2) 138 #[.pointer (some ⟨q, 0, none⟩), .int .i64 m]) h n fun v' h' n' => n' = n ∧ (∀ b, b ≠ q → h'.get b = h.get b) ∧ ((¬ (1 ≤ m ∧ m ≤ 20) ∧ v' = .int .i64 22 ∧ h'.get q = some (dB size now lv true)) ∨ ((1 ≤ m ∧ m ≤ 20) ∧ v' = .int .i64 0 ∧ h'.get q = some (dB size m.toNat lv wrong))) := by
  have g := x.get
  have hq := x.lt
  unfold dB at g
  rw [zbaq]
  refine Run.inside_ ?_
  unfold zapm
  refine zaaw (zcbq m) (Nat.le_refl _) (fun _ _ h => h.elim) ?_
  by_cases c : 1 ≤ m ∧ m ≤ 20
  · rw [decide_eq_true c.1, decide_eq_true c.2]
    try simp (disch := first | omega | assumption | exact zaae _ _ | exact zaab _ _ _ | exact zaaf _ | exact zaad _ | exact zaaa _) only [Nat.reduceAdd, Nat.reduceLT, RZ, Int.reduceBEq, Int.reduceBNe, Int.reduceLT, Int.reduceLE, Int.reduceEq, Int.reduceNe, Int.reduceAdd, Int.reduceSub, Int.reduceMul, Int.reduceNeg, Bool.and_self, Bool.not_true, g, true_or, or_true]
    exact ⟨fun b hb => zaar _ _ hb, .inr ⟨c, by unfold dB; rw [Int.toNat_of_nonneg (by omega)]⟩⟩
  · have : (decide (1 ≤ m) && decide (m ≤ 20)) = false := by
      cases e : (decide (1 ≤ m) && decide (m ≤ 20)) with
      | false => rfl
      | true => rw [Bool.and_eq_true, decide_eq_true_eq, decide_eq_true_eq] at e; exact absurd e c
    rw [this]
    try simp (disch := first | omega | assumption | exact zaae _ _ | exact zaab _ _ _ | exact zaaf _ | exact zaad _ | exact zaaa _) only [Nat.reduceAdd, Nat.reduceLT, RZ, Int.reduceBEq, Int.reduceBNe, Int.reduceLT, Int.reduceLE, Int.reduceEq, Int.reduceNe, Int.reduceAdd, Int.reduceSub, Int.reduceMul, Int.reduceNeg, Bool.not_false, g, true_or, or_true]
    exact ⟨fun b hb => zaar _ _ hb, .inl ⟨c, rfl⟩⟩
def DPost (h : H) (n p : Nat) (S : List UInt8) (D A lo q size now : Nat) (lv : Value) (lens : List Nat) (v' : Value) (h' : H) (n' : Nat) : Prop :=
  match stepD now lens (restB S D A) with
  | .short => v' = .int .i64 3 ∧ RdAt h' n' p S D A ∧ DAt h' lo n' q size now lv lens false
  | .bad e => v' = .int .i64 e ∧ (∃ B, RdAt h' n' p S D B) ∧ DAt h' lo n' q size now lv lens true
  | .ok (m, l) u => v' = .int .i64 0 ∧ RdAt h' n' p S D (A + u) ∧ ∃ lv', DAt h' lo n' q size m lv' l false ∧ ∀ b, InBlk lv' b → InBlk lv b ∨ n ≤ b
theorem zcfo (x : RdAt h n p S D A) (y : DAt h lo n q size now lv lens false) (hpq : p ≠ q) (hpl : ¬ InBlk lv p) (hnow : now ≤ 20) (hl : lens.length ≤ 1000) (hlo : lo ≤ n) (hlf : 100 ≤ lf) :
    Run (fun b => b = p ∨ b = q ∨ InBlk lv b) n (zaac Tryz.prog gt lf (d + 4) 123 #[.pointer (some ⟨q, 0, none⟩), .pointer (some ⟨p, 0, none⟩)]) h n fun v' h' n' => (v' = .int .i64 3 ∧ stepD now lens (restB S D A) = .short ∧ (∃ B, RdAt h' n' p S D B) ∧ DAt h' lo n' q size now lv lens false) ∨ (v' ≠ .int .i64 3 ∧ stepD now lens (restB S D A) ≠ .short ∧ DPost h n p S D A lo q size now lv lens v' h' n') := by
  have g := y.get
  have hq := y.lt
  unfold dB at g
  obtain ⟨bs, hbs⟩ : ∃ bs, restB S D A = bs := ⟨_, rfl⟩
  rw [zbeq]
  refine Run.inside_ ?_
  unfold zars DPost
  have z1 : ((3 : Int) != 0) = true := rfl
  have z0 : ((0 : Int) != 0) = false := rfl
  have e1 : ((1 : Nat) : Int) = 1 := rfl
  have dk : ∀ {h1 : H}, (∀ b, b < n → ¬ b = p → h1.get b = h.get b) → DAt h1 lo n q size now lv lens false := fun fr => y.keep (Nat.le_refl _) fun b hb hb2 => fr b hb (by
    rcases hb2 with rfl | hb2
    · exact fun e => hpq e.symm
    · exact fun e => hpl (e ▸ hb2))
  -- what a length that is told leaves
  have told : ∀ (h1 : H) (n1 : Nat) (m : Int) (u : Nat), n1 = n → (∀ b, b < n → ¬ b = p → h1.get b = h.get b) → RdAt h1 n1 p S D (A + u) → stepD now lens bs = turnD m lens u →
      Run (fun b => b = p ∨ b = q ∨ InBlk lv b) n ((inside (zaac Tryz.prog gt lf (d + 3) 138 #[.pointer (some ⟨q, 0, none⟩), .int .i64 m])).bind fun v => outK [v]) h1 n1 fun v' h' n' => (v' = .int .i64 3 ∧ stepD now lens bs = .short ∧ (∃ B, RdAt h' n' p S D B) ∧ DAt h' lo n' q size now lv lens false) ∨ (v' ≠ .int .i64 3 ∧ stepD now lens bs ≠ .short ∧ match stepD now lens bs with
        | .short => v' = .int .i64 3 ∧ RdAt h' n' p S D A ∧ DAt h' lo n' q size now lv lens false
        | .bad e => v' = .int .i64 e ∧ (∃ B, RdAt h' n' p S D B) ∧ DAt h' lo n' q size now lv lens true
        | .ok (m, l) u => v' = .int .i64 0 ∧ RdAt h' n' p S D (A + u) ∧ ∃ lv', DAt h' lo n' q size m lv' l false ∧ ∀ b, InBlk lv' b → InBlk lv b ∨ n ≤ b) := by
    rintro h1 n1 m u rfl fr x1 hst
    have y1 := dk fr
    refine zaay okd (zcfb (d := d + 1) y1 m) (Nat.le_refl _) (fun b _ hb => .inr (.inr (.inl hb))) fun v2 h2 n2 hn2 fr2 hq2 => ?_
    obtain ⟨rfl, k2, hq2⟩ := hq2
    have x2 := x1.keep (Nat.le_refl _) (k2 p hpq)
    have o2 : Own h2 lo _ 3 lv (intsV .i64 (iN lens)) := y1.own.keep (Nat.le_refl _) fun b hb => k2 b (y1.ne hb)
    try simp (disch := first | omega | assumption | exact zaae _ _ | exact zaab _ _ _ | exact zaaf _ | exact zaad _ | exact zaaa _) only [Nat.reduceAdd, Nat.reduceLT, RZ]
    refine .inr ?_
    rw [hst]
    unfold turnD
    rcases hq2 with ⟨c, rfl, g2⟩ | ⟨c, rfl, g2⟩
    · rw [if_neg c]
      exact ⟨by simp, by simp, rfl, ⟨_, x2⟩, g2, y.ge, hq, o2⟩
    · rw [if_pos c]
      exact ⟨by simp, by simp, rfl, x2, lv, ⟨g2, y.ge, hq, o2⟩, fun b hb => .inl hb⟩
  by_cases hz : now = 0
  · have e0 : ((now : Int) == 0) = true := by rw [hz]; rfl
    rw [hbs]
    try simp (disch := first | omega | assumption | exact zaae _ _ | exact zaab _ _ _ | exact zaaf _ | exact zaad _ | exact zaaa _) only [Nat.reduceAdd, Nat.reduceLT, RZ, Int.reduceBEq, Int.reduceBNe, Int.reduceLT, Int.reduceLE, Int.reduceEq, Int.reduceNe, Int.reduceAdd, Int.reduceSub, Int.reduceMul, Int.reduceNeg, g, e0]
    refine zaay okd (zbcs (lf := lf) (d := d) x 5 (by omega) (by omega)) (Nat.le_refl _) (fun b _ hb => .inr (.inl hb)) fun v1 h1 n1 hn1 fr1 hq1 => ?_
    obtain ⟨rfl, hq1⟩ := hq1
    rw [hbs] at hq1
    rcases hq1 with ⟨sh, rfl, rfl⟩ | ⟨lg, rfl, x1⟩
    · try simp (disch := first | omega | assumption | exact zaae _ _ | exact zaab _ _ _ | exact zaaf _ | exact zaad _ | exact zaaa _) only [Nat.reduceAdd, Nat.reduceLT, RZ, ext0, ext1, z1]
      refine .inl ⟨by unfold stepD; rw [if_pos hz, if_pos sh], ⟨_, x⟩, y⟩
    · have nl := zagu (bs.take 5)
      rw [List.length_take, Nat.min_eq_left lg] at nl
      have w1 : IntKind.i64.wrap ((num (bs.take 5) 0 : Nat) : Int) = ((num (bs.take 5) 0 : Nat) : Int) := zaav (by omega) (by omega)
      try simp (disch := first | omega | assumption | exact zaae _ _ | exact zaab _ _ _ | exact zaaf _ | exact zaad _ | exact zaaa _) only [Nat.reduceAdd, Nat.reduceLT, RZ, ext0, ext1, z0, w1]
      exact told h1 n1 _ 5 rfl (fun b hb hb2 => fr1 b hb hb2) x1 (by unfold stepD; rw [if_pos hz, if_neg (by omega)])
  · have e0 : ((now : Int) == 0) = false := beq_eq_false_iff_ne.2 (by omega)
    rw [hbs]
    try simp (disch := first | omega | assumption | exact zaae _ _ | exact zaab _ _ _ | exact zaaf _ | exact zaad _ | exact zaaa _) only [Nat.reduceAdd, Nat.reduceLT, RZ, Int.reduceBEq, Int.reduceBNe, Int.reduceLT, Int.reduceLE, Int.reduceEq, Int.reduceNe, Int.reduceAdd, Int.reduceSub, Int.reduceMul, Int.reduceNeg, g, e0]
    refine zaay okd (zbcs (lf := lf) (d := d) x 1 (by omega) (by omega)) (Nat.le_refl _) (fun b _ hb => .inr (.inl hb)) fun v1 h1 n1 hn1 fr1 hq1 => ?_
    obtain ⟨rfl, hq1⟩ := hq1
    rw [hbs] at hq1
    rcases hq1 with ⟨sh, rfl, rfl⟩ | ⟨lg, rfl, x1⟩
    · try simp (disch := first | omega | assumption | exact zaae _ _ | exact zaab _ _ _ | exact zaaf _ | exact zaad _ | exact zaaa _) only [Nat.reduceAdd, Nat.reduceLT, RZ, ext0, ext1, z1]
      have : bs = [] := List.eq_nil_of_length_eq_zero (by omega)
      refine .inl ⟨by unfold stepD; rw [if_neg hz, this], ⟨_, x⟩, y⟩
    · obtain ⟨b, bs', hbb⟩ : ∃ b bs', bs = b :: bs' := by
        cases bs with
        | nil => simp at lg
        | cons b bs' => exact ⟨b, bs', rfl⟩
      subst hbb
      have nb : num ((b :: bs').take 1) 0 = bn b := by show 2 * 0 + bn b = _; omega
      have y1 := dk (h1 := h1) fun c hc hc2 => fr1 c hc hc2
      have g1 := y1.get
      unfold dB at g1
      rw [nb]
      cases b with
      | false =>
        have ez : (((bn false : Nat) : Int) == 0) = true := rfl
        have cv : ∀ z : Value, [Value.int .i64 (size : Int), .int .i64 (now : Int), lv, .bool false].set 2 z = [Value.int .i64 (size : Int), .int .i64 (now : Int), z, .bool false] := fun _ => rfl
        try simp (disch := first | omega | assumption | exact zaae _ _ | exact zaab _ _ _ | exact zaaf _ | exact zaad _ | exact zaaa _) only [Nat.reduceAdd, Nat.reduceLT, RZ, ext0, ext1, z0, ez, g1]
        refine zalx c1x22 (zaae _ _) y1.own (by rw [zabm, zadn]; omega) (fun c hc => .inr (.inr (.inr hc))) _ fun h2 g2 k2 => ?_
        have g3 : h2.get q = some ⟨130, true, [.int .i64 (size : Int), .int .i64 (now : Int), lv, .bool false]⟩ := by rw [k2 q (by omega) fun r => y1.ne r rfl]; exact g1
        have hq2 : q < n1 + 2 := by omega
        have hpn := x1.lt
        try simp (disch := first | omega | assumption | exact zaae _ _ | exact zaab _ _ _ | exact zaaf _ | exact zaad _ | exact zaaa _) only [Nat.reduceAdd, Nat.reduceLT, RZ, g3, cv]
        have on : intsV .i64 (iN (lens ++ [now])) = intsV .i64 (iN lens) ++ [.int .i64 (now : Int)] := by
          rw [zbic, zall]; rfl
        refine .inr ⟨by simp, ?_⟩
        have es : stepD now lens (false :: bs') = .ok (now, lens ++ [now]) 1 := by unfold stepD; rw [if_neg hz]
        rw [es]
        refine ⟨by simp, x1.keep (by omega) ?_, _, ⟨zaaz _ _ _, y.ge, hq2, ?_⟩, fun c hc => .inr (by rw [hc.inj]; omega)⟩
        · rw [zaar _ _ hpq, k2 p hpn hpl]
        · rw [on]
          exact .inr ⟨n1 + 1, by simp, by rw [zaar _ _ (by omega)]; exact g2, by omega, by omega⟩
      | true =>
        have ez : (((bn true : Nat) : Int) == 0) = false := rfl
        try simp (disch := first | omega | assumption | exact zaae _ _ | exact zaab _ _ _ | exact zaaf _ | exact zaad _ | exact zaaa _) only [Nat.reduceAdd, Nat.reduceLT, RZ, ext0, ext1, z0, ez]
        have rest1 : restB S D (A + 1) = bs' := by rw [← zawr x.lo, hbs]; rfl
        refine zaay okd (zbcs (lf := lf) (d := d) x1 1 (by omega) (by omega)) (Nat.le_refl _) (fun b _ hb => .inr (.inl hb)) fun v3 h3 n3 hn3 fr3 hq3 => ?_
        obtain ⟨rfl, hq3⟩ := hq3
        rw [rest1] at hq3
        rcases hq3 with ⟨sh, rfl, rfl⟩ | ⟨lg3, rfl, x3⟩
        · try simp (disch := first | omega | assumption | exact zaae _ _ | exact zaab _ _ _ | exact zaaf _ | exact zaad _ | exact zaaa _) only [Nat.reduceAdd, Nat.reduceLT, RZ, ext0, ext1, z1]
          have : bs' = [] := List.eq_nil_of_length_eq_zero (by omega)
          refine .inl ⟨by unfold stepD; rw [if_neg hz, this], ⟨_, x1⟩, y1⟩
        · obtain ⟨b2, bs2, hb2⟩ : ∃ b bs2, bs' = b :: bs2 := by
            cases bs' with
            | nil => simp at lg3
            | cons b bs2 => exact ⟨b, bs2, rfl⟩
          subst hb2
          have nb2 : num ((b2 :: bs2).take 1) 0 = bn b2 := by show 2 * 0 + bn b2 = _; omega
          rw [nb2]
          have y3 := dk (h1 := h3) fun c hc hc2 => (fr3 c hc hc2).trans (fr1 c hc hc2)
          have g3 := y3.get
          unfold dB at g3
          have bl := bn_lt b2
          have w1 : IntKind.i64.wrap ((now : Int) + 1) = (now : Int) + 1 := zaav (by omega) (by omega)
          have w2 : IntKind.i64.wrap ((bn b2 : Nat) : Int) = ((bn b2 : Nat) : Int) := zaav (by omega) (by omega)
          have w3 : IntKind.i64.wrap (2 * ((bn b2 : Nat) : Int)) = 2 * ((bn b2 : Nat) : Int) := zaav (by omega) (by omega)
          have w4 : IntKind.i64.wrap ((now : Int) + 1 - 2 * ((bn b2 : Nat) : Int)) = (now : Int) + 1 - 2 * ((bn b2 : Nat) : Int) := zaav (by omega) (by omega)
          try simp (disch := first | omega | assumption | exact zaae _ _ | exact zaab _ _ _ | exact zaaf _ | exact zaad _ | exact zaaa _) only [Nat.reduceAdd, Nat.reduceLT, RZ, ext0, ext1, z0, g3, w1, w2, w3, w4]
          exact told h3 n3 _ 2 rfl (fun c hc hc2 => (fr3 c hc hc2).trans (fr1 c hc hc2)) x3 (by unfold stepD; rw [if_neg hz])
theorem zcis (x : RdAt h n p S D A) (y : DAt h lo n q size now lv lens false) (hpq : p ≠ q) (hpl : ¬ InBlk lv p) (hnow : now ≤ 20) (hl : lens.length < size) (hs : size ≤ 258) (hlo : lo ≤ n) (hlf : 100 ≤ lf) :
    Run (fun b => b = p ∨ b = q ∨ InBlk lv b) n (zaac Tryz.prog gt lf (d + 5) 95 #[.pointer (some ⟨q, 0, none⟩), .pointer (some ⟨p, 0, none⟩)]) h n (DPost h n p S D A lo q size now lv lens) := by
  have g := y.get
  have hq := y.lt
  unfold dB at g
  rw [zbee]
  refine Run.inside_ ?_
  unfold zarx
  try simp (disch := first | omega | assumption | exact zaae _ _ | exact zaab _ _ _ | exact zaaf _ | exact zaad _ | exact zaaa _) only [Nat.reduceAdd, Nat.reduceLT, RZ]
  refine zaaw (zbwy (lf := lf) (d := d + 3) y) (Nat.le_refl _) (fun _ _ h => h.elim) ?_
  rw [decide_eq_false (show ¬ lens.length = size by omega)]
  try simp (disch := first | omega | assumption | exact zaae _ _ | exact zaab _ _ _ | exact zaaf _ | exact zaad _ | exact zaaa _) only [Nat.reduceAdd, Nat.reduceLT, RZ, g]
  refine zaaw (s_rAt (lf := lf) (d := d + 3) x) (Nat.le_refl _) (fun _ _ h => h.elim) ?_
  refine zaay okd (zcfo (lf := lf) (d := d) x y hpq hpl hnow (by omega) hlo hlf) (Nat.le_refl _) (fun b _ hb => .inr hb) fun v1 h1 n1 hn1 fr1 hq1 => ?_
  rcases hq1 with ⟨rfl, hst, ⟨B, x1⟩, y1⟩ | ⟨hv, hst, hp⟩
  · have e3 : ((3 : Int) == 3) = true := rfl
    try simp (disch := first | omega | assumption | exact zaae _ _ | exact zaab _ _ _ | exact zaaf _ | exact zaad _ | exact zaaa _) only [Nat.reduceAdd, Nat.reduceLT, RZ, e3]
    refine zaay okd (zbol (lf := lf) (d := d + 2) x1 A x.lo x.hi) (by omega) (fun b _ hb => .inr (.inl hb)) fun v2 h2 n2 hn2 fr2 hq2 => ?_
    obtain ⟨_, rfl, x2⟩ := hq2
    try simp (disch := first | omega | assumption | exact zaae _ _ | exact zaab _ _ _ | exact zaaf _ | exact zaad _ | exact zaaa _) only [Nat.reduceAdd, Nat.reduceLT, RZ]
    unfold DPost
    rw [hst]
    exact ⟨rfl, x2, y1.keep (Nat.le_refl _) fun b hb hb2 => fr2 b hb (by
      rcases hb2 with rfl | hb2
      · exact fun e => hpq e.symm
      · exact fun e => hpl (e ▸ hb2))⟩
  · obtain ⟨e, rfl⟩ : ∃ e : Int, v1 = .int .i64 e := by
      unfold DPost at hp
      split at hp
      · exact ⟨_, hp.1⟩
      · exact ⟨_, hp.1⟩
      · exact ⟨_, hp.1⟩
    have e3 : (e == 3) = false := beq_eq_false_iff_ne.2 fun q => hv (by rw [q])
    try simp (disch := first | omega | assumption | exact zaae _ _ | exact zaab _ _ _ | exact zaaf _ | exact zaad _ | exact zaaa _) only [Nat.reduceAdd, Nat.reduceLT, RZ, e3]
    exact hp
end
end Go.Proofs.YtdagfcflbphoiaaGreatDoor

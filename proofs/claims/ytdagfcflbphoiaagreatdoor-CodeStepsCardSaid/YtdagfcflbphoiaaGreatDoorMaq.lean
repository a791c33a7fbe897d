import Derived.Test.YtdagfcflbphoiaaGreatDoorMap
namespace Go.Proofs.YtdagfcflbphoiaaGreatDoor
set_option linter.unusedVariables false
set_option linter.unusedSimpArgs false
open Go.RowKit Ev Cn

section
variable {lf d n p q lo : Nat} {h : H} {S : List UInt8} {D A : Nat} {pv : Value} {s : Pk} {wrong : Bool}
def ord0 : List Nat := [0, 1, 2, 3, 4, 5]
theorem zcil (hlf : 100 ≤ lf) : Run (fun _ => False) n (zaac Tryz.prog gt lf (d + 1) 92 #[]) h n fun v' h' n' => v' = .agg #[.int .i64 0, .int .i64 1, .int .i64 2, .int .i64 3, .int .i64 4, .int .i64 5] ∧ n' = n + 2 := by
  rw [zbpi]
  refine Run.inside_ ?_
  unfold zbfh
  have z6 : zero? Tryz.prog 132 = some (.agg #[.int .i64 0, .int .i64 0, .int .i64 0, .int .i64 0, .int .i64 0, .int .i64 0]) := by kernel_rfl
  refine zagr z6 _ ?_
  refine zagr z6 _ ?_
  obtain ⟨fu, hfu⟩ : ∃ f, lf = f + 7 := ⟨lf - 7, by omega⟩
  have key : Run (fun _ => False) n (zafp lf d (fu + 7) (zaei lf d) (.pointer (some ⟨n, 0, none⟩)) (.pointer (some ⟨n + 1, 0, none⟩)) (.int .i64 0)) ((h.set n (some ⟨132, true, [.int .i64 0, .int .i64 0, .int .i64 0, .int .i64 0, .int .i64 0, .int .i64 0]⟩)).set (n + 1) (some ⟨132, true, [.int .i64 0, .int .i64 0, .int .i64 0, .int .i64 0, .int .i64 0, .int .i64 0]⟩)) (n + 2) fun v' h' n' => v' = .agg #[.int .i64 0, .int .i64 1, .int .i64 2, .int .i64 3, .int .i64 4, .int .i64 5] ∧ n' = n + 2 := by
    iterate 7
      rw [zbju]
      try simp (disch := first | omega | assumption | exact zaae _ _ | exact zaab _ _ _ | exact zaaf _ | exact zaad _ | exact zaaa _) only [Nat.reduceAdd, Nat.reduceLT, RZ, Int.reduceBEq, Int.reduceBNe, Int.reduceLT, Int.reduceLE, Int.reduceEq, Int.reduceNe, Int.reduceAdd, Int.reduceSub, Int.reduceMul, Int.reduceNeg, Int.reduceToNat, Nat.le_add_right, Nat.reduceLT]
    rw [zbkv]
    refine zbyx (by kernel_rfl) (sz := 6) (by kernel_rfl) (n + 1) 0 _ (zaaz _ _ _) (by omega) (by simp) ?_
    refine zbvg (sz := 6) (by kernel_rfl) (e := 132) (cs := [.int .i64 0, .int .i64 0, .int .i64 0, .int .i64 0, .int .i64 0, .int .i64 0]) (vs := [.int .i64 0, .int .i64 1, .int .i64 2, .int .i64 3, .int .i64 4, .int .i64 5]) rfl rfl rfl ?_ (by omega) (Nat.le_refl _) (.inl (Nat.le_refl _)) _ fun h2 hg k2 => ?_
    · try simp (disch := first | omega | assumption | exact zaae _ _ | exact zaab _ _ _ | exact zaaf _ | exact zaad _ | exact zaaa _) only [Nat.reduceAdd, Nat.reduceLT, RZ, Int.reduceBEq, Int.reduceBNe, Int.reduceLT, Int.reduceLE, Int.reduceEq, Int.reduceNe, Int.reduceAdd, Int.reduceSub, Int.reduceMul, Int.reduceNeg]
    refine zbsm (by kernel_rfl) (sz := 6) (by kernel_rfl) _ _ _ hg (by omega) (by simp) ?_
    try simp (disch := first | omega | assumption | exact zaae _ _ | exact zaab _ _ _ | exact zaaf _ | exact zaad _ | exact zaaa _) only [Nat.reduceAdd, Nat.reduceLT, RZ, Int.reduceBEq, Int.reduceBNe, Int.reduceLT, Int.reduceLE, Int.reduceEq, Int.reduceNe, Int.reduceAdd, Int.reduceSub, Int.reduceMul, Int.reduceNeg]
    all_goals (first | rfl | exact ⟨rfl, rfl, rfl⟩ | exact ⟨rfl, rfl⟩)
  rw [← hfu] at key
  exact key
theorem zcja (hlf : 100 ≤ lf) : Run (fun _ => False) n (zaac Tryz.prog gt lf (d + 2) 57 #[]) h n fun v h' n' => v = .pointer (some ⟨n + 2, 0, none⟩) ∧ n' = n + 3 ∧ PAt h' (n + 2) n' (n + 2) ⟨0, 0, ord0, []⟩ (.slice none 0 0) false := by
  rw [zbhm]
  refine Run.inside_ ?_
  unfold zawh
  refine zaay okd (zcil (d := d) hlf) (Nat.le_refl _) (fun _ _ h => h.elim) fun v1 h1 n1 hn1 fr1 hq1 => ?_
  obtain ⟨rfl, rfl⟩ := hq1
  rw [zcjh, zbdp]
  refine zawv sz135 _ _ ?_
  try simp (disch := first | omega | assumption | exact zaae _ _ | exact zaab _ _ _ | exact zaaf _ | exact zaad _ | exact zaaa _) only [Nat.reduceAdd, Nat.reduceLT, RZ]
  exact ⟨zaaz _ _ _, Nat.le_refl _, by omega, Own.nil _ _ _ _, rfl, Nat.zero_le _, (by decide : 0 < 32768)⟩
theorem callH {β : Type} {rec : FuncId → Array Value → M Value} (r a : Value) (k : Value → M β) : callV Tryz.prog rec (.func (.func 122) #[r] #[]) [a] k = (inside (rec 122 #[r, a])).bind k := by
  unfold callV
  show optK (some _) _ = _
  rw [zafh]
  simp only [show hasBody Tryz.prog 122 = true by kernel_rfl]
  rfl
theorem callP {β : Type} {rec : FuncId → Array Value → M Value} (r a : Value) (k : Value → M β) : callV Tryz.prog rec (.func (.func 121) #[r] #[]) [a] k = (inside (rec 121 #[r, a])).bind k := by
  unfold callV
  show optK (some _) _ = _
  rw [zafh]
  simp only [show hasBody Tryz.prog 121 = true by kernel_rfl]
  rfl
def PPost (h : H) (n p : Nat) (S : List UInt8) (D A lo q : Nat) (s : Pk) (pv : Value) (v' : Value) (h' : H) (n' : Nat) : Prop :=
  match stepP s (restB S D A) with
  | .short => v' = .int .i64 3 ∧ RdAt h' n' p S D A ∧ PAt h' lo n' q s pv false
  | .bad e => v' = .int .i64 e ∧ (∃ B, RdAt h' n' p S D B) ∧ PAt h' lo n' q s pv true
  | .ok s' u => v' = .int .i64 0 ∧ RdAt h' n' p S D (A + u) ∧ ∃ pv', PAt h' lo n' q s' pv' false ∧ ∀ b, InBlk pv' b → InBlk pv b ∨ n ≤ b
def PMid (h : H) (n p : Nat) (S : List UInt8) (D A lo q : Nat) (s : Pk) (pv : Value) (v' : Value) (h' : H) (n' : Nat) : Prop :=
  (v' = .int .i64 3 ∧ stepP s (restB S D A) = .short ∧ (∃ B, RdAt h' n' p S D B) ∧ PAt h' lo n' q s pv false) ∨ (v' ≠ .int .i64 3 ∧ stepP s (restB S D A) ≠ .short ∧ PPost h n p S D A lo q s pv v' h' n')
theorem shr15 (v : Nat) : ((v : Int)).fdiv (2 ^ (min ((15 : Int)).toNat (IntKind.u32).bits)) = ((v / 32768 : Nat) : Int) := by
  have : (min ((15 : Int)).toNat (IntKind.u32).bits) = 15 := by decide
  rw [this, Int.fdiv_eq_ediv_of_nonneg _ (by decide)]
  omega
theorem and15 (v : Nat) (hv : v < 262144) : IntKind.u32.wrap ((BitVec.ofInt IntKind.u32.bits (v : Int) &&& BitVec.ofInt IntKind.u32.bits (32767 : Int)).toNat : Int) = ((v % 32768 : Nat) : Int) := by
  have h1 : (BitVec.ofInt 32 (v : Int)).toNat = v := by rw [BitVec.ofInt_natCast, BitVec.toNat_ofNat]; exact Nat.mod_eq_of_lt (by omega)
  show IntKind.u32.wrap ((BitVec.ofInt 32 (v : Int) &&& BitVec.ofInt 32 (32767 : Int)).toNat : Int) = _
  rw [BitVec.toNat_and, h1]
  have h2 : (BitVec.ofInt 32 (32767 : Int)).toNat = 2 ^ 15 - 1 := by decide
  rw [h2, Nat.and_two_pow_sub_one_eq_mod]
  exact w32 (by omega)
theorem zckl (x : RdAt h n p S D A) (y : PAt h lo n q s pv false) (hpq : p ≠ q) (hpl : ¬ InBlk pv p) (h0 : s.count = 0) (hlf : 100 ≤ lf) :
    Run (fun b => b = p ∨ b = q) n (zaac Tryz.prog gt lf (d + 4) 122 #[.pointer (some ⟨q, 0, none⟩), .pointer (some ⟨p, 0, none⟩)]) h n (PMid h n p S D A lo q s pv) := by
  obtain ⟨bs, hbs⟩ : ∃ bs, restB S D A = bs := ⟨_, rfl⟩
  have hq := y.lt
  unfold PMid PPost
  rw [hbs, zbec]
  refine Run.inside_ ?_
  unfold zasf
  have z1 : ((3 : Int) != 0) = true := rfl
  have z0 : ((0 : Int) != 0) = false := rfl
  have dk : ∀ {h1 : H}, (∀ b, b < n → ¬ b = p → h1.get b = h.get b) → PAt h1 lo n q s pv false := fun fr => y.keep (Nat.le_refl _) fun b hb hb2 => fr b hb (by
    rcases hb2 with rfl | hb2
    · exact fun e => hpq e.symm
    · exact fun e => hpl (e ▸ hb2))
  refine zaay okd (zbcs (lf := lf) (d := d) x 18 (by omega) (by omega)) (Nat.le_refl _) (fun b _ hb => .inr (.inl hb)) fun v1 h1 n1 hn1 fr1 hq1 => ?_
  obtain ⟨rfl, hq1⟩ := hq1
  rw [hbs] at hq1
  rcases hq1 with ⟨sh, rfl, rfl⟩ | ⟨lg, rfl, x1⟩
  · try simp (disch := first | omega | assumption | exact zaae _ _ | exact zaab _ _ _ | exact zaaf _ | exact zaad _ | exact zaaa _) only [Nat.reduceAdd, Nat.reduceLT, RZ, ext0, ext1, z1]
    exact .inl ⟨by unfold stepP; rw [if_pos h0, if_pos sh], ⟨_, x⟩, y⟩
  · have nl := zagu (bs.take 18)
    rw [List.length_take, Nat.min_eq_left lg] at nl
    obtain ⟨v, hv⟩ : ∃ v, num (bs.take 18) 0 = v := ⟨_, rfl⟩
    rw [hv] at nl
    have w1 := shr15 v
    have w2 := and15 v nl
    have w3 : IntKind.i64.wrap ((v / 32768 : Nat) : Int) = ((v / 32768 : Nat) : Int) := zaav (by omega) (by omega)
    have w4 : IntKind.i64.wrap ((v % 32768 : Nat) : Int) = ((v % 32768 : Nat) : Int) := zaav (by omega) (by omega)
    have y1 := dk (h1 := h1) fun c hc hc2 => fr1 c hc hc2
    rw [hv]
    try simp (disch := first | omega | assumption | exact zaae _ _ | exact zaab _ _ _ | exact zaaf _ | exact zaad _ | exact zaaa _) only [Nat.reduceAdd, Nat.reduceLT, RZ, ext0, ext1, z0, w1, w2, w3, w4]
    refine zaaw (zcez _) (Nat.le_refl _) (fun _ _ h => h.elim) ?_
    have hst : stepP s bs = if (2 ≤ v / 32768 ∧ v / 32768 ≤ 6) ∧ v % 32768 ≠ 0 then .ok ⟨v / 32768, v % 32768, s.ord, s.picks⟩ 18 else .bad 25 := by
      unfold stepP; rw [if_pos h0, if_neg (by omega), hv]
    by_cases c1 : 2 ≤ v / 32768 ∧ v / 32768 ≤ 6
    · rw [decide_eq_true (show (2 : Int) ≤ ((v / 32768 : Nat) : Int) by omega), decide_eq_true (show ((v / 32768 : Nat) : Int) ≤ 6 by omega)]
      by_cases c2 : v % 32768 = 0
      · have e2 : ((((v % 32768 : Nat) : Int)) == 0) = true := by rw [c2]; rfl
        try simp (disch := first | omega | assumption | exact zaae _ _ | exact zaab _ _ _ | exact zaaf _ | exact zaad _ | exact zaaa _) only [Nat.reduceAdd, Nat.reduceLT, RZ, Bool.and_self, Bool.not_true, e2]
        refine zaay okd (zbpm (lf := lf) (d := d + 2) y1) (Nat.le_refl _) (fun b _ hb => .inr (.inr hb)) fun v2 h2 n2 hn2 fr2 hq2 => ?_
        obtain ⟨rfl, rfl, k2, y2⟩ := hq2
        try simp (disch := first | omega | assumption | exact zaae _ _ | exact zaab _ _ _ | exact zaaf _ | exact zaad _ | exact zaaa _) only [Nat.reduceAdd, Nat.reduceLT, RZ]
        rw [hst, if_neg (by rintro ⟨_, q⟩; exact q c2)]
        exact .inr ⟨by simp, by simp, rfl, ⟨_, x1.keep (Nat.le_refl _) (k2 p hpq)⟩, y2⟩
      · have e2 : ((((v % 32768 : Nat) : Int)) == 0) = false := beq_eq_false_iff_ne.2 (by omega)
        obtain ⟨a, b, c, dd, e, f, he, g⟩ := y1.cells
        try simp (disch := first | omega | assumption | exact zaae _ _ | exact zaab _ _ _ | exact zaaf _ | exact zaad _ | exact zaaa _) only [Nat.reduceAdd, Nat.reduceLT, RZ, Bool.and_self, Bool.not_true, e2, g]
        rw [hst, if_pos ⟨c1, c2⟩]
        refine .inr ⟨by simp, by simp, x1.keep (Nat.le_refl _) ?_, pv, ⟨?_, y.ge, hq, y1.own.keep (Nat.le_refl _) fun b hb => ?_, y.six, c1.2, by show v % 32768 < 32768; omega⟩, fun c hc => .inl hc⟩
        · rw [zaar _ _ hpq, zaar _ _ hpq]
        · rw [zaaz]; unfold pkB; simp only [he]; rfl
        · rw [zaar _ _ (y1.ne hb), zaar _ _ (y1.ne hb)]
    · have : (decide ((2 : Int) ≤ ((v / 32768 : Nat) : Int)) && decide (((v / 32768 : Nat) : Int) ≤ 6)) = false := by
        cases e : (decide ((2 : Int) ≤ ((v / 32768 : Nat) : Int)) && decide (((v / 32768 : Nat) : Int) ≤ 6)) with
        | false => rfl
        | true => rw [Bool.and_eq_true, decide_eq_true_eq, decide_eq_true_eq] at e; exact absurd (by omega) c1
      rw [this]
      try simp (disch := first | omega | assumption | exact zaae _ _ | exact zaab _ _ _ | exact zaaf _ | exact zaad _ | exact zaaa _) only [Nat.reduceAdd, Nat.reduceLT, RZ, Bool.not_false]
      refine zaay okd (zbpm (lf := lf) (d := d + 2) y1) (Nat.le_refl _) (fun b _ hb => .inr (.inr hb)) fun v2 h2 n2 hn2 fr2 hq2 => ?_
      obtain ⟨rfl, rfl, k2, y2⟩ := hq2
      try simp (disch := first | omega | assumption | exact zaae _ _ | exact zaab _ _ _ | exact zaaf _ | exact zaad _ | exact zaaa _) only [Nat.reduceAdd, Nat.reduceLT, RZ]
      rw [hst, if_neg (by rintro ⟨q, _⟩; exact c1 q)]
      exact .inr ⟨by simp, by simp, rfl, ⟨_, x1.keep (Nat.le_refl _) (k2 p hpq)⟩, y2⟩
theorem zaww {α : Type} {dv : α} {O : List α} (hO : O.length = 6) {i : Nat} (hi : i < 6) : (tch dv O i).length = 6 := by
  unfold tch
  simp
  omega
theorem zchp (O : List Nat) (hO : O.length = 6) {i : Nat} (hi : i < 6) : tch undef (intsV .i64 (iN O)) i = intsV .i64 (iN (tch 0 O i)) := by
  obtain ⟨a, b, c, d, e, f, rfl⟩ := cut6 hO
  rcases i with _ | _ | _ | _ | _ | _ | i <;> first | rfl | omega
theorem zckh (O : List Nat) (hO : O.length = 6) {i : Nat} (hi : i < 6) : (intsV .i64 (iN O)).getD i undef = .int .i64 (O.getD i 0 : Int) := by
  obtain ⟨a, b, c, d, e, f, rfl⟩ := cut6 hO
  rcases i with _ | _ | _ | _ | _ | _ | i <;> first | rfl | omega
theorem zciy (x : RdAt h n p S D A) (y : PAt h lo n q s pv false) (hpq : p ≠ q) (hpl : ¬ InBlk pv p) (h0 : s.count ≠ 0) (hl : s.picks.length ≤ 100000) (hlo : lo ≤ n) (hlf : 100 ≤ lf) :
    Run (fun b => b = p ∨ b = q ∨ InBlk pv b) n (zaac Tryz.prog gt lf (d + 4) 121 #[.pointer (some ⟨q, 0, none⟩), .pointer (some ⟨p, 0, none⟩)]) h n (PMid h n p S D A lo q s pv) := by
  obtain ⟨bs, hbs⟩ : ∃ bs, restB S D A = bs := ⟨_, rfl⟩
  have hq := y.lt
  obtain ⟨a, b, c, dd, e, f, he, g⟩ := y.cells
  have hst : stepP s bs = match pickB s.t 0 bs with
    | .short => .short
    | .bad e => .bad e
    | .ok o u => .ok ⟨s.t, s.count, tch 0 s.ord o, s.picks ++ [s.ord.getD o 0]⟩ u := by unfold stepP; rw [if_neg h0]; cases pickB s.t 0 bs <;> rfl
  unfold PMid PPost
  rw [hbs, zbda]
  refine Run.inside_ ?_
  unfold zarm
  have z1 : ((3 : Int) != 0) = true := rfl
  have z0 : ((0 : Int) != 0) = false := rfl
  try simp (disch := first | omega | assumption | exact zaae _ _ | exact zaab _ _ _ | exact zaaf _ | exact zaad _ | exact zaaa _) only [Nat.reduceAdd, Nat.reduceLT, RZ, g]
  have dk : ∀ {h1 : H} {n1 : Nat}, n1 = n → (∀ b, b < n → b ≠ p → h1.get b = h.get b) → PAt h1 lo n1 q s pv false := by
    rintro h1 _ rfl fr
    exact y.keep (Nat.le_refl _) fun b hb hb2 => fr b hb (by
      rcases hb2 with rfl | hb2
      · exact fun e => hpq e.symm
      · exact fun e => hpl (e ▸ hb2))
  refine zafq s.t (fun fu i (_ : Unit) => zada lf (d + 3) fu (zabi lf (d + 3)) (.pointer (some ⟨q, 0, none⟩)) (.pointer (some ⟨p, 0, none⟩)) (.int .i64 0) (.int .i64 (s.t : Nat)) (.int .i64 (i : Nat))) (fun i _ h' n' => (n' = n ∧ (∀ b, b < n → b ≠ p → h'.get b = h.get b)) ∧ RdAt h' n' p S D (A + i) ∧ pickB s.t 0 bs = pickB (s.t - i) i (bs.drop i)) ?_ ?_ lf 0 () h n (Nat.zero_le _) (by have := y.few; omega) ⟨⟨rfl, fun _ _ _ => rfl⟩, x, rfl⟩
  · rintro fu _ h' n' ⟨⟨rfl, fr⟩, x1, hpk⟩
    rw [zanb]
    try simp (disch := first | omega | assumption | exact zaae _ _ | exact zaab _ _ _ | exact zaaf _ | exact zaad _ | exact zaaa _) only [Nat.reduceAdd, Nat.reduceLT, RZ, Int.lt_irrefl]
    rw [zbbc]
    have y1 := dk rfl fr
    refine zaay okd (zbpm (lf := lf) (d := d + 2) y1) (Nat.le_refl _) (fun b _ hb => .inr (.inr (.inl hb))) fun v2 h2 n2 hn2 fr2 hq2 => ?_
    obtain ⟨rfl, rfl, k2, y2⟩ := hq2
    try simp (disch := first | omega | assumption | exact zaae _ _ | exact zaab _ _ _ | exact zaaf _ | exact zaad _ | exact zaaa _) only [Nat.reduceAdd, Nat.reduceLT, RZ]
    rw [Nat.sub_self] at hpk
    rw [hst, hpk]
    exact .inr ⟨by simp, by simp [pickB], rfl, ⟨_, x1.keep (Nat.le_refl _) (k2 p hpq)⟩, y2⟩
  · rintro fu i _ h' n' hi ⟨⟨rfl, fr⟩, x1, hpk⟩ next
    rw [zanb]
    have y1 := dk rfl fr
    have c1 : ((i : Nat) : Int) < ((s.t : Nat) : Int) := by omega
    have few := y.few
    have hrest : restB S D (A + i) = bs.drop i := by rw [← zawr x.lo, hbs]
    obtain ⟨r, hr⟩ : ∃ r, s.t - i = r + 1 := ⟨s.t - i - 1, by omega⟩
    rw [hr] at hpk
    try simp (disch := first | omega | assumption | exact zaae _ _ | exact zaab _ _ _ | exact zaaf _ | exact zaad _ | exact zaaa _) only [Nat.reduceAdd, Nat.reduceLT, RZ, c1]
    refine zaay okd (zbcs (lf := lf) (d := d) x1 1 (by omega) (by omega)) (Nat.le_refl _) (fun b _ hb => .inr (.inl hb)) fun v1 h1 n1 hn1 fr1 hq1 => ?_
    obtain ⟨rfl, hq1⟩ := hq1
    rw [hrest] at hq1
    rcases hq1 with ⟨sh, rfl, rfl⟩ | ⟨lg, rfl, x2⟩
    · try simp (disch := first | omega | assumption | exact zaae _ _ | exact zaab _ _ _ | exact zaaf _ | exact zaad _ | exact zaaa _) only [Nat.reduceAdd, Nat.reduceLT, RZ, ext0, ext1, z1]
      rw [zbar]
      try simp (disch := first | omega | assumption | exact zaae _ _ | exact zaab _ _ _ | exact zaaf _ | exact zaad _ | exact zaaa _) only [Nat.reduceAdd, Nat.reduceLT, RZ]
      have : bs.drop i = [] := List.eq_nil_of_length_eq_zero (by omega)
      rw [this] at hpk
      exact .inl ⟨by rw [hst, hpk]; rfl, ⟨_, x1⟩, y1⟩
    · obtain ⟨b, bs', hbb⟩ : ∃ b bs', bs.drop i = b :: bs' := by
        cases e : bs.drop i with
        | nil => rw [e] at lg; simp at lg
        | cons b bs' => exact ⟨b, bs', rfl⟩
      rw [hbb] at hpk
      have nb : num ((bs.drop i).take 1) 0 = bn b := by rw [hbb]; show 2 * 0 + bn b = _; omega
      rw [nb]
      have fr2 : ∀ c, c < n1 → c ≠ p → h1.get c = h.get c := fun c hc hp => (fr1 c hc hp).trans (fr c hc hp)
      cases b with
      | true =>
        have ez : (((bn true : Nat) : Int) == 0) = false := rfl
        try simp (disch := first | omega | assumption | exact zaae _ _ | exact zaab _ _ _ | exact zaaf _ | exact zaad _ | exact zaaa _) only [Nat.reduceAdd, Nat.reduceLT, RZ, ext0, ext1, z0, ez]
        refine next () _ _ ⟨⟨rfl, fr2⟩, x2, ?_⟩
        rw [hpk, show s.t - (i + 1) = r by omega]
        rw [← List.drop_drop, hbb]
        rfl
      | false =>
        have ez : (((bn false : Nat) : Int) == 0) = true := rfl
        have y2 := dk rfl fr2
        obtain ⟨a2, b2, c2, d2, e2, f2, he2, g2⟩ := y2.cells
        have hi6 : i < 6 := by omega
        try simp (disch := first | omega | assumption | exact zaae _ _ | exact zaab _ _ _ | exact zaaf _ | exact zaad _ | exact zaaa _) only [Nat.reduceAdd, Nat.reduceLT, RZ, ext0, ext1, z0, ez]
        refine zbrq ag22 q 8 _ g2 hq rfl fun T1 t1 t2 t3 => ?_
        try simp (disch := first | omega | assumption | exact zaae _ _ | exact zaab _ _ _ | exact zaaf _ | exact zaad _ | exact zaaa _) only [Nat.reduceAdd, Nat.reduceLT, RZ]
        have tou : RunE (InO q 2) (zaac Tryz.prog gt lf (d + 3) 129 #[.pointer (some ⟨q, 2, none⟩), .int .i64 (i : Int)]) h1 n1 _ := zcey (lf := lf) (d := d + 2) (e := 135) (A := [.int .i64 (s.t : Int), .int .i64 (s.count : Int)]) (O := intsV .i64 (iN s.ord)) (Z := [pv, .bool false]) (by rw [zabm, zadn]; exact y.six) (fun v hv => by
          obtain ⟨x, _, rfl⟩ := List.mem_map.1 hv
          exact zaae _ _) y2.get hq hi6 hlf
        refine zbub okd tou (fun e he => he.1) (Nat.le_refl _) (.inr (.inr (.inl rfl))) fun v3 h3 n3 T2 hn3 fr3 hq3 u1 u2 u3 => ?_
        obtain ⟨rfl, rfl, g3, k3⟩ := hq3
        have cl := zbzp t1 t2 t3 u1 u2 u3 hq (fun e he => by
          obtain ⟨_, j, h7, h8, h9⟩ := he
          exact ⟨j, h7, by omega⟩)
        rw [zckh s.ord y.six hi6]
        have o3 : Own h3 lo _ 3 pv (intsV .i64 (iN s.picks)) := y2.own.keep (Nat.le_refl _) fun b hb => k3 b (y2.ne hb)
        rw [zchp s.ord y.six hi6] at g3
        obtain ⟨a4, b4, c4, d4, e4, f4, he4⟩ := cut6 (zaww (dv := 0) y.six hi6)
        rw [he4] at g3
        have g3 : h3.get q = some ⟨135, true, [.int .i64 (s.t : Int), .int .i64 (s.count : Int), .int .i64 (a4 : Int), .int .i64 (b4 : Int), .int .i64 (c4 : Int), .int .i64 (d4 : Int), .int .i64 (e4 : Int), .int .i64 (f4 : Int), pv, .bool false]⟩ := g3
        refine zbka c1x22 (zaae _ _) o3 (by rw [zabm, zadn]; omega) (fun c hc => .inr (.inr (.inr hc))) _ fun w T3 T4 h4 g4 k4 => ?_
        have g5 : h4.get q = _ := (k4 q hq fun r => y2.ne r rfl).trans g3
        have hq4 : q < n3 + 2 := by omega
        try simp (disch := first | omega | assumption | exact zaae _ _ | exact zaab _ _ _ | exact zaaf _ | exact zaad _ | exact zaaa _) only [Nat.reduceAdd, Nat.reduceLT, RZ]
        refine zbpn (fun _ _ => rfl) ?_
        try simp (disch := first | omega | assumption | exact zaae _ _ | exact zaab _ _ _ | exact zaaf _ | exact zaad _ | exact zaaa _) only [Nat.reduceAdd, Nat.reduceLT, RZ, g5, cl, Bool.not_false, Bool.and_self, zaew]
        rw [zbay]
        try simp (disch := first | omega | assumption | exact zaae _ _ | exact zaab _ _ _ | exact zaaf _ | exact zaad _ | exact zaaa _) only [Nat.reduceAdd, Nat.reduceLT, RZ]
        have hst2 : stepP s bs = .ok ⟨s.t, s.count, tch 0 s.ord i, s.picks ++ [s.ord.getD i 0]⟩ (i + 1) := by rw [hst, hpk]; rfl
        have on : intsV .i64 (iN (s.picks ++ [s.ord.getD i 0])) = intsV .i64 (iN s.picks) ++ [.int .i64 ((s.ord.getD i 0 : Nat) : Int)] := by
          rw [zbic, zall]; rfl
        refine .inr ⟨by simp, ?_⟩
        rw [hst2]
        refine ⟨by simp, x2.keep (by omega) ?_, .slice (some ⟨n3 + 1, 0, none⟩) ((intsV .i64 (iN s.picks)).length + 1) (CAP + ((intsV .i64 (iN s.picks)).length + 1)), ⟨?_, y.ge, hq4, ?_, zaww (dv := 0) y.six hi6, y.few, y.cnt⟩, fun c hc => .inr (by rw [hc.inj]; omega)⟩
        · rw [zaar _ _ hpq, k4 p x2.lt hpl, k3 p hpq]
        · rw [zaaz]; unfold pkB; simp only [he4]; rfl
        · rw [on]
          exact .inr ⟨n3 + 1, by simp, by rw [zaar _ _ (by omega)]; exact g4, by omega, by omega⟩
theorem zcgw (x : RdAt h n p S D A) (y : PAt h lo n q s pv false) (hpq : p ≠ q) (hpl : ¬ InBlk pv p) (hd : s.count = 0 ∨ s.picks.length < s.count) (hlo : lo ≤ n) (hlf : 100 ≤ lf) :
    Run (fun b => b = p ∨ b = q ∨ InBlk pv b) n (zaac Tryz.prog gt lf (d + 5) 94 #[.pointer (some ⟨q, 0, none⟩), .pointer (some ⟨p, 0, none⟩)]) h n (PPost h n p S D A lo q s pv) := by
  have hq := y.lt
  obtain ⟨a, b, c, dd, e, f, he, g⟩ := y.cells
  have hcnt := y.cnt
  rw [zbdu]
  refine Run.inside_ ?_
  unfold zarw
  have hdone : (decide (0 < s.count) && decide (s.picks.length = s.count)) = false := by
    cases e : (decide (0 < s.count) && decide (s.picks.length = s.count)) with
    | false => rfl
    | true => rw [Bool.and_eq_true, decide_eq_true_eq, decide_eq_true_eq] at e; omega
  -- behind the call of one of the two
  have tail : ∀ (v1 : Value) (h1 : H) (n1 : Nat), n ≤ n1 → PMid h n p S D A lo q s pv v1 h1 n1 →
      Run (fun b => b = p ∨ b = q ∨ InBlk pv b) n (optK (bin2 Tryz.prog .eql 29 v1 (Value.int .i64 3)) fun v39n13 =>
            ifV v39n13 (
              (inside (zaac Tryz.prog gt lf (d + 4) 21 #[.pointer (some ⟨p, 0, none⟩), .int .i64 (A : Int)])).bind fun v42n14 =>
              outK [v1]) (
              outK [v1])) h1 n1 (PPost h n p S D A lo q s pv) := by
    intro v1 h1 n1 hn1 hq1
    rcases hq1 with ⟨rfl, hst, ⟨B, x1⟩, y1⟩ | ⟨hv, hst, hp⟩
    · have e3 : ((3 : Int) == 3) = true := rfl
      try simp (disch := first | omega | assumption | exact zaae _ _ | exact zaab _ _ _ | exact zaaf _ | exact zaad _ | exact zaaa _) only [Nat.reduceAdd, Nat.reduceLT, RZ, e3]
      refine zaay okd (zbol (lf := lf) (d := d + 2) x1 A x.lo x.hi) (by omega) (fun b _ hb => .inr (.inl hb)) fun v2 h2 n2 hn2 fr2 hq2 => ?_
      obtain ⟨_, rfl, x2⟩ := hq2
      try simp (disch := first | omega | assumption | exact zaae _ _ | exact zaab _ _ _ | exact zaaf _ | exact zaad _ | exact zaaa _) only [Nat.reduceAdd, Nat.reduceLT, RZ]
      unfold PPost
      rw [hst]
      exact ⟨rfl, x2, y1.keep (Nat.le_refl _) fun b hb hb2 => fr2 b hb (by
        rcases hb2 with rfl | hb2
        · exact fun e => hpq e.symm
        · exact fun e => hpl (e ▸ hb2))⟩
    · obtain ⟨e, rfl⟩ : ∃ e : Int, v1 = .int .i64 e := by
        unfold PPost at hp
        split at hp
        · exact ⟨_, hp.1⟩
        · exact ⟨_, hp.1⟩
        · exact ⟨_, hp.1⟩
      have e3 : (e == 3) = false := beq_eq_false_iff_ne.2 fun q => hv (by rw [q])
      try simp (disch := first | omega | assumption | exact zaae _ _ | exact zaab _ _ _ | exact zaaf _ | exact zaad _ | exact zaaa _) only [Nat.reduceAdd, Nat.reduceLT, RZ, e3]
      exact hp
  try simp (disch := first | omega | assumption | exact zaae _ _ | exact zaab _ _ _ | exact zaaf _ | exact zaad _ | exact zaaa _) only [Nat.reduceAdd, Nat.reduceLT, RZ]
  refine zaaw (zbjf (lf := lf) (d := d + 3) y) (Nat.le_refl _) (fun _ _ h => h.elim) ?_
  rw [hdone]
  try simp (disch := first | omega | assumption | exact zaae _ _ | exact zaab _ _ _ | exact zaaf _ | exact zaad _ | exact zaaa _) only [Nat.reduceAdd, Nat.reduceLT, RZ, g]
  refine zaaw (s_rAt (lf := lf) (d := d + 3) x) (Nat.le_refl _) (fun _ _ h => h.elim) ?_
  by_cases h0 : s.count = 0
  · have e0 : ((s.count : Int) == 0) = true := by rw [h0]; rfl
    try simp (disch := first | omega | assumption | exact zaae _ _ | exact zaab _ _ _ | exact zaaf _ | exact zaad _ | exact zaaa _) only [Nat.reduceAdd, Nat.reduceLT, RZ, g, e0, callH]
    exact zaay okd (zckl (lf := lf) (d := d) x y hpq hpl h0 hlf) (Nat.le_refl _) (fun b _ hb => hb.elim (fun hb => .inr (.inl hb)) fun hb => .inr (.inr (.inl hb))) fun v1 h1 n1 hn1 fr1 hq1 => tail v1 h1 n1 hn1 hq1
  · have e0 : ((s.count : Int) == 0) = false := beq_eq_false_iff_ne.2 (by omega)
    try simp (disch := first | omega | assumption | exact zaae _ _ | exact zaab _ _ _ | exact zaaf _ | exact zaad _ | exact zaaa _) only [Nat.reduceAdd, Nat.reduceLT, RZ, g, e0, callP]
    exact zaay okd (zciy (lf := lf) (d := d) x y hpq hpl h0 (by omega) hlo hlf) (Nat.le_refl _) (fun b _ hb => .inr hb) fun v1 h1 n1 hn1 fr1 hq1 => tail v1 h1 n1 hn1 hq1
end
end Go.Proofs.YtdagfcflbphoiaaGreatDoor

import Derived.Test.YtdagfcflbphoiaaGreatDoorMao
namespace Go.Proofs.YtdagfcflbphoiaaGreatDoor
set_option linter.unusedVariables false
set_option linter.unusedSimpArgs false
open Go.RowKit Ev Cn

def pickB : Nat → Nat → List Bool → St Nat
  | 0, _, _ => .bad 25
  | _ + 1, _, [] => .short
  | _ + 1, o, false :: _ => .ok o (o + 1)
  | r + 1, o, true :: bs => pickB r (o + 1) bs
structure Pk where
  t : Nat
  count : Nat
  ord : List Nat
  picks : List Nat
def stepP (s : Pk) (bs : List Bool) : St Pk :=
  if s.count = 0 then (if bs.length < 18 then .short else if (2 ≤ num (bs.take 18) 0 / 32768 ∧ num (bs.take 18) 0 / 32768 ≤ 6) ∧ num (bs.take 18) 0 % 32768 ≠ 0 then .ok ⟨num (bs.take 18) 0 / 32768, num (bs.take 18) 0 % 32768, s.ord, s.picks⟩ 18 else .bad 25)
  else match pickB s.t 0 bs with
    | .short => .short
    | .bad e => .bad e
    | .ok o u => .ok ⟨s.t, s.count, tch 0 s.ord o, s.picks ++ [s.ord.getD o 0]⟩ u
def pkB (s : Pk) (pv : Value) (wrong : Bool) : AB := ⟨135, true, [.int .i64 (s.t : Int), .int .i64 (s.count : Int)] ++ (intsV .i64 (iN s.ord) ++ [pv, .bool wrong])⟩
structure PAt (h : H) (lo n q : Nat) (s : Pk) (pv : Value) (wrong : Bool) : Prop where
  get : h.get q = some (pkB s pv wrong)
  ge : lo ≤ q
  lt : q < n
  own : Own h lo n 3 pv (intsV .i64 (iN s.picks))
  six : s.ord.length = 6
  few : s.t ≤ 6
  cnt : s.count < 32768
theorem PAt.ne {h : H} {lo n q : Nat} {s : Pk} {pv : Value} {wrong : Bool} (x : PAt h lo n q s pv wrong) {b : Nat} (hb : InBlk pv b) : b ≠ q := fun e => by
  obtain ⟨B, h1, h2⟩ := x.own.elem hb
  rw [e, x.get] at h1
  cases h1
  exact absurd (show (135 : Nat) = 3 from h2) (by decide)
theorem PAt.keep {h h' : H} {lo n n' q : Nat} {s : Pk} {pv : Value} {wrong : Bool} (x : PAt h lo n q s pv wrong) (hn : n ≤ n') (hk : ∀ b, b < n → (b = q ∨ InBlk pv b) → h'.get b = h.get b) : PAt h' lo n' q s pv wrong :=
  ⟨(hk q x.lt (.inl rfl)).trans x.get, x.ge, Nat.lt_of_lt_of_le x.lt hn, x.own.keep hn fun b hb => hk b (x.own.lt hb).2 (.inr hb), x.six, x.few, x.cnt⟩
theorem PAt.cells {h : H} {lo n q : Nat} {s : Pk} {pv : Value} {wrong : Bool} (x : PAt h lo n q s pv wrong) : ∃ a b c d e f : Nat, s.ord = [a, b, c, d, e, f] ∧ h.get q = some ⟨135, true, [.int .i64 (s.t : Int), .int .i64 (s.count : Int), .int .i64 (a : Int), .int .i64 (b : Int), .int .i64 (c : Int), .int .i64 (d : Int), .int .i64 (e : Int), .int .i64 (f : Int), pv, .bool wrong]⟩ := by
  obtain ⟨a, b, c, d, e, f, he⟩ := cut6 x.six
  refine ⟨a, b, c, d, e, f, he, ?_⟩
  rw [x.get]
  unfold pkB
  rw [he]
  rfl
theorem zcjh (a b c d e f : Value) : evBuild Tryz.prog 135 [(2, .agg #[a, b, c, d, e, f])] = M.ret (.agg #[.int .i64 0, .int .i64 0, a, b, c, d, e, f, .slice none 0 0, .bool false]) := by kernel_rfl
section
variable {lf d n p q lo : Nat} {h : H} {S : List UInt8} {D A : Nat} {pv : Value} {s : Pk} {wrong : Bool}
theorem zcez (z : Int) : Run (fun _ => False) n (zaac Tryz.prog gt lf (d + 1) 102 #[.int .i64 z]) h n fun v' h' n' => v' = .bool (decide (2 ≤ z) && decide (z ≤ 6)) ∧ h' = h ∧ n' = n := by
  rw [zbmz]
  refine Run.inside_ ?_
  unfold zbbo
  by_cases c : 2 ≤ z
  · try simp (disch := first | omega | assumption | exact zaae _ _ | exact zaab _ _ _ | exact zaaf _ | exact zaad _ | exact zaaa _) only [Nat.reduceAdd, Nat.reduceLT, RZ, c]
  · try simp (disch := first | omega | assumption | exact zaae _ _ | exact zaab _ _ _ | exact zaaf _ | exact zaad _ | exact zaaa _) only [Nat.reduceAdd, Nat.reduceLT, RZ, c]
theorem zbjf (x : PAt h lo n q s pv wrong) : Run (fun _ => False) n (zaac Tryz.prog gt lf (d + 1) 59 #[.pointer (some ⟨q, 0, none⟩)]) h n fun v' h' n' => v' = .bool (decide (0 < s.count) && decide (s.picks.length = s.count)) ∧ h' = h ∧ n' = n := by
  obtain ⟨a, b, c, dd, e, f, he, g⟩ := x.cells
  have hq := x.lt
  have hr := x.own.row
  obtain ⟨a1, c1, rfl⟩ := hr.len
  rw [zbem]
  refine Run.inside_ ?_
  unfold zasj
  have e : ((((iN s.picks).length : Nat) : Int) == (s.count : Int)) = decide (s.picks.length = s.count) := by
    rw [zadn]
    by_cases e : s.picks.length = s.count
    · rw [decide_eq_true e, e]; simp
    · rw [decide_eq_false e]; exact beq_eq_false_iff_ne.2 fun q => e (by omega)
  by_cases c0 : 0 < s.count
  · have e0 : decide ((0 : Int) < (s.count : Int)) = true := decide_eq_true (by omega)
    rw [decide_eq_true c0]
    try simp (disch := first | omega | assumption | exact zaae _ _ | exact zaab _ _ _ | exact zaaf _ | exact zaad _ | exact zaaa _) only [Nat.reduceAdd, Nat.reduceLT, RZ, Int.reduceBEq, Int.reduceBNe, Int.reduceLT, Int.reduceLE, Int.reduceEq, Int.reduceNe, Int.reduceAdd, Int.reduceSub, Int.reduceMul, Int.reduceNeg, g, e, e0, Bool.true_and]
  · have e0 : decide ((0 : Int) < (s.count : Int)) = false := decide_eq_false (by omega)
    rw [decide_eq_false c0]
    try simp (disch := first | omega | assumption | exact zaae _ _ | exact zaab _ _ _ | exact zaaf _ | exact zaad _ | exact zaaa _) only [Nat.reduceAdd, Nat.reduceLT, RZ, Int.reduceBEq, Int.reduceBNe, Int.reduceLT, Int.reduceLE, Int.reduceEq, Int.reduceNe, Int.reduceAdd, Int.reduceSub, Int.reduceMul, Int.reduceNeg, g, e, e0, Bool.false_and]
theorem zcbv (x : PAt h lo n q s pv wrong) : Run (fun _ => False) n (zaac Tryz.prog gt lf (d + 1) 61 #[.pointer (some ⟨q, 0, none⟩)]) h n fun v' h' n' => v' = .int .i64 (s.t : Int) ∧ h' = h ∧ n' = n := by
  obtain ⟨a, b, c, dd, e, f, he, g⟩ := x.cells
  have hq := x.lt
  rw [zban]
  refine Run.inside_ ?_
  unfold zapc
  try simp (disch := first | omega | assumption | exact zaae _ _ | exact zaab _ _ _ | exact zaaf _ | exact zaad _ | exact zaaa _) only [Nat.reduceAdd, Nat.reduceLT, RZ, Int.reduceBEq, Int.reduceBNe, Int.reduceLT, Int.reduceLE, Int.reduceEq, Int.reduceNe, Int.reduceAdd, Int.reduceSub, Int.reduceMul, Int.reduceNeg, g]
theorem zbsn (x : PAt h lo n q s pv wrong) (h0 : 0 < s.picks.length) (hl : s.picks.length ≤ 100000) : Run (fun _ => False) n (zaac Tryz.prog gt lf (d + 2) 63 #[.pointer (some ⟨q, 0, none⟩)]) h n fun v' h' n' => Row h' n' 3 .i64 v' (iN s.picks) ∧ ∀ b, InBlk v' b → n ≤ b := by
  obtain ⟨a, b, c, dd, e, f, he, g⟩ := x.cells
  have hq := x.lt
  rw [zbbl]
  refine Run.inside_ ?_
  unfold zaqa
  try simp (disch := first | omega | assumption | exact zaae _ _ | exact zaab _ _ _ | exact zaaf _ | exact zaad _ | exact zaaa _) only [Nat.reduceAdd, Nat.reduceLT, RZ, Int.reduceBEq, Int.reduceBNe, Int.reduceLT, Int.reduceLE, Int.reduceEq, Int.reduceNe, Int.reduceAdd, Int.reduceSub, Int.reduceMul, Int.reduceNeg, g]
  refine zaay okd (zbog lf d n h pv (iN s.picks) x.own.row (by rw [zadn]; exact h0) (by rw [zadn]; omega)) (Nat.le_refl _) (fun _ _ h => h.elim) fun v1 h1 n1 hn1 fr1 hq => ?_
  try simp (disch := first | omega | assumption | exact zaae _ _ | exact zaab _ _ _ | exact zaaf _ | exact zaad _ | exact zaaa _) only [Nat.reduceAdd, Nat.reduceLT, RZ]
  exact hq.2
theorem zbpm (x : PAt h lo n q s pv wrong) : Run (fun b => b = q) n (zaac Tryz.prog gt lf (d + 1) 137 #[.pointer (some ⟨q, 0, none⟩)]) h n fun v' h' n' => v' = .int .i64 25 ∧ n' = n ∧ (∀ b, b ≠ q → h'.get b = h.get b) ∧ PAt h' lo n q s pv true := by
  obtain ⟨a, b, c, dd, e, f, he, g⟩ := x.cells
  have hq := x.lt
  rw [zbel]
  refine Run.inside_ ?_
  unfold zary
  try simp (disch := first | omega | assumption | exact zaae _ _ | exact zaab _ _ _ | exact zaaf _ | exact zaad _ | exact zaaa _) only [Nat.reduceAdd, Nat.reduceLT, RZ, Int.reduceBEq, Int.reduceBNe, Int.reduceLT, Int.reduceLE, Int.reduceEq, Int.reduceNe, Int.reduceAdd, Int.reduceSub, Int.reduceMul, Int.reduceNeg, g, true_or, or_true]
  refine ⟨fun b hb => zaar _ _ hb, ⟨by rw [zaaz]; unfold pkB; rw [he]; rfl, x.ge, hq, x.own.keep (Nat.le_refl _) fun b hb => zaar _ _ (x.ne hb), x.six, x.few, x.cnt⟩⟩
end
end Go.Proofs.YtdagfcflbphoiaaGreatDoor

/- Layer 47: digits, words, a part as text, by the evaluator with any list of known functions. -/
import Derived.Test.YtmjolmggelkjlaaGreatShM
import Derived.Test.YtmjolmggelkjlaaGreatEvYi
namespace Go.Proofs.YtmjolmggelkjlaaGreat
set_option linter.unusedVariables false
set_option linter.unusedSimpArgs false
open Go.RowKit Ev Ip

theorem wrap_succ {x : Nat} (h : x < 9223372036854775807) : IntKind.i64.wrap ((x : Int) + 1) = ((x + 1 : Nat) : Int) := by rw [wrap_id (by omega) (by omega)]; rfl
theorem wrap_pred {x : Nat} (h : x < 9223372036854775807) : IntKind.i64.wrap (((x + 1 : Nat) : Int) - 1) = ((x : Nat) : Int) := by rw [wrap_id (by omega) (by omega)]; omega
/-- (this text writes the third form as it stands: theorem st_) -/
theorem shK {kn : List FuncId} {lf d : Nat} {f : FuncId} {a : Array Value} {b : RT → M Value} (s : ∀ r, evStep Tryz.prog gt lf r f a = b r) (h : kn.contains f = false) : evCallN kn Tryz.prog gt lf (d + 1) f a = b (evCallN kn Tryz.prog gt lf d) := by
  show (match kn.contains f with
    | true => _
    | false => evStep Tryz.prog gt lf (evCallN kn Tryz.prog gt lf d) f a : M Value) = _
  rw [h]
  exact s _
structure KOk (kn : List FuncId) : Prop where
  dg : kn.contains 107 = false
  wd : kn.contains 67 = false
  ln : kn.contains 19 = false
  hx : kn.contains 68 = true
theorem tdiv10 (x : Nat) : (x : Int).tdiv 10 = ((x / 10 : Nat) : Int) := rfl
theorem tmod10 (x : Nat) : (x : Int).tmod 10 = ((x % 10 : Nat) : Int) := rfl
theorem u8d {m : Nat} (h : m < 10) : IntKind.u8.wrap (48 + (m : Int)) = ((48 + m : Nat) : Int) := by
  have : IntKind.u8.wrap ((48 + m : Nat) : Int) = ((48 + m : Nat) : Int) := IntWalk.u8_in _ (by omega)
  rwa [Int.natCast_add] at this
def dgB (k x : Nat) : List Nat := (digs k x).map (48 + ·)
theorem digs_len : ∀ (k n : Nat), (digs k n).length ≤ k
  | 0, _ => Nat.le_refl _
  | k + 1, n => by
    unfold digs
    by_cases h1 : n < 10
    · rw [if_pos h1]; simp
    · rw [if_neg h1]
      have := digs_len k (n / 10)
      simp; omega
theorem bS_app (a b : List Nat) : bS (a ++ b) = bS a ++ bS b := by unfold bS; rw [List.map_append]
theorem stB_add (a b : List Nat) (h : a.length + b.length ≤ 9223372036854775807) (K : Value → M Value) : kad (stB a) (stB b) K = K (stB (a ++ b)) := by
  have := s_addS (k := K) (bS a) (bS b) (by unfold bS; simpa using h)
  rw [← bS_app] at this
  exact this
theorem dgB_len (k x : Nat) : (dgB k x).length ≤ k := by unfold dgB; rw [List.length_map]; exact digs_len k x
section
variable {kn : List FuncId} (ko : KOk kn) (lf : Nat)
include ko
theorem n_small (d n : Nat) (h : H) {x : Nat} (hx : x < 10) : Run (fun _ => False) n (evCallN kn Tryz.prog gt lf (d + 1) 107 #[.int .i64 (x : Int)]) h n fun v h' n' => v = .string ⟨(bS [48 + x]).toArray⟩ := by
  rw [shK (fun _ => st_tester_Digits) ko.dg]
  refine Run.inside_ ?_
  unfold b_tester_Digits
  have e1 := u8d (m := x) hx
  have c1 : (x : Int) < 10 := by omega
  have c2 : ¬ ((x : Int) < 0) := by omega
  try simp (disch := first | omega | assumption | exact Int.natCast_nonneg _) only [RXA, RXB, Nat.reduceAdd, Nat.reduceLT, wrap_id, wrap_succ, wrap_pred, zr33, zr34, zr43, zr51, zr60, zr67, zr73, zr85, zr87, zr98, zr107, zr120, zr126, zr132, zr134, zr139, zr142, zr144, zr150, zr152, zr157, zr159, zr168, zr171, zr185, zr188, zr207, zr212, zr224, zr228, zr233, zr235, zr243, zr252, zr255, zr269, zr280, zr282, zr299, zr317, zr328, zr333, c1, c2, e1]
  refine run_lit1 trivial (one_int _ _) _ ?_
  refine run_toStr (ws := [48 + x]) (get_eq _ _ _) (Nat.lt_succ_self _) (by simp) rfl _ ?_
  try simp (disch := first | omega | assumption | exact Int.natCast_nonneg _) only [RXA, RXB, Nat.reduceAdd, Nat.reduceLT, wrap_id, wrap_succ, wrap_pred, zr33, zr34, zr43, zr51, zr60, zr67, zr73, zr85, zr87, zr98, zr107, zr120, zr126, zr132, zr134, zr139, zr142, zr144, zr150, zr152, zr157, zr159, zr168, zr171, zr185, zr188, zr207, zr212, zr224, zr228, zr233, zr235, zr243, zr252, zr255, zr269, zr280, zr282, zr299, zr317, zr328, zr333]
theorem n_Digits (d : Nat) : ∀ (k x n : Nat) (h : H), x < 10 ^ (k + 1) → x ≤ 9223372036854775807 → k < 100 → Run (fun _ => False) n (evCallN kn Tryz.prog gt lf (d + (k + 1)) 107 #[.int .i64 (x : Int)]) h n fun v h' n' => v = .string ⟨(bS (dgB (k + 1) x)).toArray⟩ := by
  intro k
  induction k with
  | zero =>
    intro x n h hx hx2 _
    have hx : x < 10 := by simpa using hx
    have := n_small ko lf d n h hx
    unfold dgB digs
    rw [if_pos hx]
    exact this
  | succ k ih =>
    intro x n h hx hx2 hk
    by_cases h10 : x < 10
    · have := n_small ko lf (d + (k + 1)) n h h10
      unfold dgB digs
      rw [if_pos h10]
      exact this
    · have h11 : ¬ ((x : Int) < 10) := by omega
      unfold dgB digs
      rw [if_neg h10]
      show Run (fun _ => False) n (evCallN kn Tryz.prog gt lf (d + (k + 1) + 1) 107 #[.int .i64 (x : Int)]) h n _
      rw [shK (fun _ => st_tester_Digits) ko.dg]
      refine Run.inside_ ?_
      unfold b_tester_Digits
      have e1 := u8d (m := x % 10) (by omega)
      try simp (disch := first | omega | assumption | exact Int.natCast_nonneg _) only [RXA, RXB, Nat.reduceAdd, Nat.reduceLT, wrap_id, wrap_succ, wrap_pred, zr33, zr34, zr43, zr51, zr60, zr67, zr73, zr85, zr87, zr98, zr107, zr120, zr126, zr132, zr134, zr139, zr142, zr144, zr150, zr152, zr157, zr159, zr168, zr171, zr185, zr188, zr207, zr212, zr224, zr228, zr233, zr235, zr243, zr252, zr255, zr269, zr280, zr282, zr299, zr317, zr328, zr333, h11, tdiv10]
      refine timed_callN okd (ih (x / 10) n h (by rw [Nat.pow_succ] at hx; omega) (by omega) (by omega)) ?_
      rintro v h1 n1 L hn fr rfl hL
      try simp (disch := first | omega | assumption | exact Int.natCast_nonneg _) only [RXA, RXB, Nat.reduceAdd, Nat.reduceLT, wrap_id, wrap_succ, wrap_pred, zr33, zr34, zr43, zr51, zr60, zr67, zr73, zr85, zr87, zr98, zr107, zr120, zr126, zr132, zr134, zr139, zr142, zr144, zr150, zr152, zr157, zr159, zr168, zr171, zr185, zr188, zr207, zr212, zr224, zr228, zr233, zr235, zr243, zr252, zr255, zr269, zr280, zr282, zr299, zr317, zr328, zr333, tmod10, e1]
      refine timed_retB _ _ hn fun T1 t1 => ?_
      refine timed_step (ins_ret (newK 5 [Value.int .u8 ((48 + x % 10 : Nat) : Int)] (fun id => Value.slice (some ⟨id, 0, none⟩) 1 1) h1 n1)) (Nat.le_succ n1) (by simp) ?_
      obtain ⟨L2, k1, k2, k3⟩ := str1_run (n := n1 + 1) (get_eq h1 n1 (some ⟨5, true, [Value.int .u8 ((48 + x % 10 : Nat) : Int)]⟩)) (by omega) 1
      refine timed_step k1 (Nat.le_refl _) (fun e he hw => by rw [k2 e he] at hw; cases hw) ?_
      have ad := fun (K : Value → M Value) => s_addS (k := K) (bS (dgB (k + 1) (x / 10))) (bS [48 + x % 10]) (by
        have := digs_len (k + 1) (x / 10)
        unfold bS dgB
        simp
        omega)
      have c1 := hL.clash t1
      have c2 : clash3 ⟨n, n1, L⟩ ⟨n1, n1 + 1, []⟩ = false := hL.clash ⟨by simp, by simp, hn⟩
      have c3 : clash3 ⟨n, n1, L⟩ ⟨n1 + 1, n1 + 1, L2⟩ = false := clash_far hL.wr k2 (fun e he => by have := hL.lt e he; show e.b < n1 + 1; omega) (fun e he => by rw [k3 e he]; exact Nat.le_refl _)
      try simp (disch := first | omega | assumption | exact Int.natCast_nonneg _) only [RXA, RXB, Nat.reduceAdd, Nat.reduceLT, wrap_id, wrap_succ, wrap_pred, zr33, zr34, zr43, zr51, zr60, zr67, zr73, zr85, zr87, zr98, zr107, zr120, zr126, zr132, zr134, zr139, zr142, zr144, zr150, zr152, zr157, zr159, zr168, zr171, zr185, zr188, zr207, zr212, zr224, zr228, zr233, zr235, zr243, zr252, zr255, zr269, zr280, zr282, zr299, zr317, zr328, zr333, ad, c1, c2, c3, List.filter_nil, Bool.not_false, Bool.and_self, chk_true]
      rw [← bS_app]
      simp [dgB]
theorem n_hexed (d n : Nat) (h : H) {x : Int} (h0 : 0 ≤ x) (h1 : x < 4294967296) : Run (fun _ => False) n (evCallN kn Tryz.prog gt lf (d + 1) 68 #[.int .u32 x]) h n fun v h' n' => v = stB (hexB x.toNat) ∧ h' = h ∧ n' = n := by
  have e : evCallN kn Tryz.prog gt lf (d + 1) 68 #[.int .u32 x] = M.ret (stB (hexB x.toNat)) := by
    unfold evCallN
    rw [ko.hx]
    have hN : hexN [.int .u32 x] = some (stB (hexB x.toNat)) := if_pos ⟨h0, h1⟩
    show M.lift (hexN [.int .u32 x]) = _
    rw [hN]
    rfl
  rw [e]
  exact (run_ret _).2 ⟨rfl, rfl, rfl⟩
omit ko in
theorem numB_eq {x : Nat} : numB (x : Int) = dgB 19 x := rfl
theorem words_loop (d n0 : Nat) {a0 : Value} : ∀ (xs : List Int) (m i fu n : Nat) (h : H) (s : List Nat) (v b : Value) (ys : List Int), Row h n 3 .i64 v ys → ys.drop i = xs → xs.length = m → m < fu → (∀ x ∈ ys, 0 ≤ x ∧ x ≤ 9223372036854775807) → ys.length ≤ 10 → s.length + 30 * m ≤ 1000000 → i ≤ ys.length → n0 ≤ n →
    Run (fun _ => False) n0 (lpA_inspect_words lf (evCallN kn Tryz.prog gt lf (d + 19)) fu (kcA_inspect_words lf (evCallN kn Tryz.prog gt lf (d + 19))) (stB s) b a0 v (.int .i64 (ys.length : Int)) (.int .i64 (i : Int))) h n fun v' h' n' => v' = stB (wordsB s xs) := by
  intro xs
  induction xs with
  | nil =>
    intro m i fu n h s v b ys hR hd hm hf hx hl hs hi hn0
    obtain ⟨fu, rfl⟩ : ∃ f, fu = f + 1 := ⟨fu - 1, by omega⟩
    have : i = ys.length := by
      have := congrArg List.length hd
      simp at this
      omega
    subst this
    rw [lpA_inspect_words]
    try simp (disch := first | omega | assumption | exact Int.natCast_nonneg _) only [RXA, RXB, Nat.reduceAdd, Nat.reduceLT, wrap_id, wrap_succ, wrap_pred, zr33, zr34, zr43, zr51, zr60, zr67, zr73, zr85, zr87, zr98, zr107, zr120, zr126, zr132, zr134, zr139, zr142, zr144, zr150, zr152, zr157, zr159, zr168, zr171, zr185, zr188, zr207, zr212, zr224, zr228, zr233, zr235, zr243, zr252, zr255, zr269, zr280, zr282, zr299, zr317, zr328, zr333, Int.lt_irrefl]
    unfold kcA_inspect_words
    try simp (disch := first | omega | assumption | exact Int.natCast_nonneg _) only [RXA, RXB, Nat.reduceAdd, Nat.reduceLT, wrap_id, wrap_succ, wrap_pred, zr33, zr34, zr43, zr51, zr60, zr67, zr73, zr85, zr87, zr98, zr107, zr120, zr126, zr132, zr134, zr139, zr142, zr144, zr150, zr152, zr157, zr159, zr168, zr171, zr185, zr188, zr207, zr212, zr224, zr228, zr233, zr235, zr243, zr252, zr255, zr269, zr280, zr282, zr299, zr317, zr328, zr333]
    rfl
  | cons x xs ih =>
    intro m i fu n h s v b ys hR hd hm hf hx hl hs hi hn0
    obtain ⟨fu, rfl⟩ : ∃ f, fu = f + 1 := ⟨fu - 1, by simp at hm; omega⟩
    have hlt : i < ys.length := by
      have := congrArg List.length hd
      simp at this
      omega
    have hxi : ys[i] = x := by
      have := congrArg (·[0]?) hd
      simp at this
      rw [List.getElem?_eq_getElem hlt] at this
      simpa using this
    have hb := hx x (by rw [← hxi]; exact List.getElem_mem _)
    obtain ⟨y, rfl⟩ : ∃ y : Nat, x = y := ⟨x.toNat, by omega⟩
    obtain ⟨bb, off, cap, o, ks, rfl, hg, hbn, _, _, _, hat⟩ := hR.some (by omega)
    have a1 := hat i hlt
    have e0 : ys.getD i 0 = (y : Int) := by rw [List.getD_eq_getElem?_getD, List.getElem?_eq_getElem hlt, hxi]; rfl
    rw [e0] at a1
    have e1 : ((i : Nat) : Int) < ((ys.length : Nat) : Int) := by omega
    have l1 := dgB_len 19 y
    have w1 : ((i : Nat) : Int) + 1 = ((i + 1 : Nat) : Int) := rfl
    simp only [List.length_cons] at hm
    rw [lpA_inspect_words]
    try simp (disch := first | omega | assumption | exact Int.natCast_nonneg _) only [RXA, RXB, Nat.reduceAdd, Nat.reduceLT, wrap_id, wrap_succ, wrap_pred, zr33, zr34, zr43, zr51, zr60, zr67, zr73, zr85, zr87, zr98, zr107, zr120, zr126, zr132, zr134, zr139, zr142, zr144, zr150, zr152, zr157, zr159, zr168, zr171, zr185, zr188, zr207, zr212, zr224, zr228, zr233, zr235, zr243, zr252, zr255, zr269, zr280, zr282, zr299, zr317, zr328, zr333, e1, hg, a1]
    refine run_callN okd (n_Digits ko lf d 18 y n h (by omega) (by omega) (by omega)) hn0 (fun _ _ h => h.elim) ?_
    rintro v1 h1 n1 hn1 fr rfl
    have ad1 := fun K => stB_add [32] (dgB 19 y) (by simp; omega) K
    have ad2 := fun K => stB_add s (32 :: dgB 19 y) (by simp; omega) K
    show Run (fun _ => False) n0 (kad (stB [32]) (stB (dgB 19 y)) _) h1 n1 _
    rw [ad1]
    show Run (fun _ => False) n0 (kad (stB s) (stB (32 :: dgB 19 y)) _) h1 n1 _
    rw [ad2]
    try simp (disch := first | omega | assumption | exact Int.natCast_nonneg _) only [RXA, RXB, Nat.reduceAdd, Nat.reduceLT, wrap_id, wrap_succ, wrap_pred, zr33, zr34, zr43, zr51, zr60, zr67, zr73, zr85, zr87, zr98, zr107, zr120, zr126, zr132, zr134, zr139, zr142, zr144, zr150, zr152, zr157, zr159, zr168, zr171, zr185, zr188, zr207, zr212, zr224, zr228, zr233, zr235, zr243, zr252, zr255, zr269, zr280, zr282, zr299, zr317, zr328, zr333]
    rw [w1]
    have hR1 := hR.keep hn1 fun b hb => fr b hb id
    exact ih (m - 1) (i + 1) fu n1 h1 (s ++ 32 :: dgB 19 y) _ b ys hR1 (by rw [← List.tail_drop, hd]; rfl) (by omega) (by omega) hx hl (by simp; omega) (by omega) (by omega)
theorem n_words (d n : Nat) (h : H) (s : List Nat) (v : Value) (ys : List Int) (hR : Row h n 3 .i64 v ys) (hx : ∀ x ∈ ys, 0 ≤ x ∧ x ≤ 9223372036854775807) (hl : ys.length ≤ 10) (hs : s.length ≤ 1000) (hlf : 100 ≤ lf) : Run (fun _ => False) n (evCallN kn Tryz.prog gt lf (d + 20) 67 #[stB s, v]) h n fun v' h' n' => v' = stB (wordsB s ys) := by
  rw [shK (fun _ => st_inspect_words) ko.wd]
  refine Run.inside_ ?_
  unfold b_inspect_words
  obtain ⟨a, c, rfl⟩ := hR.len
  try simp (disch := first | omega | assumption | exact Int.natCast_nonneg _) only [RXA, RXB, Nat.reduceAdd, Nat.reduceLT, wrap_id, wrap_succ, wrap_pred, zr33, zr34, zr43, zr51, zr60, zr67, zr73, zr85, zr87, zr98, zr107, zr120, zr126, zr132, zr134, zr139, zr142, zr144, zr150, zr152, zr157, zr159, zr168, zr171, zr185, zr188, zr207, zr212, zr224, zr228, zr233, zr235, zr243, zr252, zr255, zr269, zr280, zr282, zr299, zr317, zr328, zr333]
  exact words_loop ko lf d n ys ys.length 0 lf n h s _ _ ys hR (by simp) rfl (by omega) hx hl (by omega) (by omega) (Nat.le_refl _)
omit ko in
theorem run_lits {W : Nat → Prop} {n0 n : Nat} {h : H} {Q : Value → H → Nat → Prop} {e len : Nat} {z : List Value} {ps : List (Nat × Nat × Value)} {cs : List Value} (hf : fillQ z ps = some cs) (k : Value → M Value) (x : Run W n0 (k (.slice (some ⟨n, 0, none⟩) len len)) (h.set n (some ⟨e, true, cs⟩)) (n + 1) Q) : Run W n0 (kbs e z len ps k) h n Q := by
  unfold kbs
  rw [hf]
  exact run_ins (run_new (newK _ _ (fun id => Value.slice (some ⟨id, 0, none⟩) len len) _ _) (Nat.le_succ n) x)
omit ko in
theorem timed_lits {W : Nat → Prop} {n0 n m : Nat} {h : H} {Q : Value → H → Nat → Prop} {e len : Nat} {z : List Value} {ps : List (Nat × Nat × Value)} {cs : List Value} (hf : fillQ z ps = some cs) (hm : m ≤ n) (k : Value × Tk → M Value) (x : ∀ T, RB T m → Run W n0 (k (.slice (some ⟨n, 0, none⟩) len len, T)) (h.set n (some ⟨e, true, cs⟩)) (n + 1) Q) : Run W n0 ((timed (kbs e z len ps M.ret)).bind k) h n Q := by
  have e1 : kbs e z len ps M.ret = insB ((newB3 e cs).bind fun id => M.ret (Value.slice (some ⟨id, 0, none⟩) len len)) M.ret := by
    unfold kbs
    rw [hf]
  rw [e1]
  exact timed_step (ins_ret (newK _ _ (fun id => Value.slice (some ⟨id, 0, none⟩) len len) _ _)) (Nat.le_succ n) (by simp) (x _ ⟨by simp, by simp, hm⟩)
omit ko in
theorem m6_eq (a b c d e f : Int) (k : Value → M Value) : km6 (.int .i64 a) (.int .i64 b) (.int .i64 c) (.int .i64 d) (.int .i64 e) (.int .i64 f) k = k (.int .i64 (imin (imin (imin (imin (imin a b) c) d) e) f)) := by
  have st : ∀ (x y : Int) (k : Value → M Value), kmi (.int .i64 x) (.int .i64 y) k = k (.int .i64 (imin x y)) := fun x y k => by
    unfold kmi imin
    simp only [ilt_eq]
    by_cases h : y < x <;> simp [h]
  unfold km6
  simp only [st]
omit ko in
theorem m6_neg (p : Pt) : (imin (imin (imin (imin (imin p.level p.frm) p.to_) p.orig) p.last) p.len < 0) ↔ p.small = true := by
  unfold imin Pt.small
  simp only [Bool.or_eq_true, decide_eq_true_eq]
  repeat' split
  all_goals omega
omit ko in
theorem fresh_row {h : H} {n : Nat} {k : Nat} (xs : List Int) (hk : xs.length = k) (h0 : 0 < k) : Row (h.set n (some ⟨3, true, intsV .i64 xs⟩)) (n + 1) 3 .i64 (.slice (some ⟨n, 0, none⟩) k k) xs := by
  subst hk
  refine .inr ⟨n, 0, xs.length, true, intsV .i64 xs, rfl, get_eq _ _ _, by omega, by rw [intsV_len]; omega, ?_, Nat.le_refl _⟩
  rw [List.drop_zero, ← intsV_len (k := .i64) (xs := xs), List.take_length]
omit ko in
theorem pt_ok {p : Pt} (h : p.ok = true) (hs : ¬ p.small = true) : (0 ≤ p.level ∧ p.level ≤ 9223372036854775807) ∧ (0 ≤ p.frm ∧ p.frm ≤ 9223372036854775807) ∧ (0 ≤ p.to_ ∧ p.to_ ≤ 9223372036854775807) ∧ (0 ≤ p.orig ∧ p.orig ≤ 9223372036854775807) ∧ (0 ≤ p.last ∧ p.last ≤ 9223372036854775807) ∧ (0 ≤ p.len ∧ p.len ≤ 9223372036854775807) := by
  unfold Pt.ok i64ok at h
  unfold Pt.small at hs
  simp only [Bool.and_eq_true, Bool.or_eq_true, decide_eq_true_eq] at h hs
  omega
set_option maxHeartbeats 1000000 in
theorem n_Line (d n : Nat) (h : H) (p : Pt) (hp : p.ok = true) (hlf : 100 ≤ lf) : Run (fun _ => False) n (evCallN kn Tryz.prog gt lf (d + 21) 19 #[.agg p.cells.toArray]) h n fun v' h' n' => v' = ansB (lineB p) := by
  rw [shK (fun _ => st_inspect_Line) ko.ln]
  refine Run.inside_ ?_
  unfold b_inspect_Line
  refine run_box trivial _ _ ?_
  obtain ⟨h2, hh2⟩ : ∃ h2, h.set n (some ⟨33, true, (Value.agg p.cells.toArray).cells.toList⟩) = h2 := ⟨_, rfl⟩
  have g2 : h2.get n = some ⟨33, true, [.int .i64 p.what, .int .i64 p.level, .int .i64 p.frm, .int .i64 p.to_, .int .u32 p.sum, .int .i64 p.orig, .int .i64 p.last, .int .i64 p.len]⟩ := by rw [← hh2, get_eq]; rfl
  rw [hh2]
  have lt1 : n < n + 1 := by omega
  by_cases hs : p.small = true
  · have c0 := (m6_neg p).2 hs
    have e0 : lineB p = none := by unfold lineB; rw [if_pos hs]
    try simp (disch := first | omega | assumption | exact Int.natCast_nonneg _) only [RXA, RXB, Nat.reduceAdd, Nat.reduceLT, wrap_id, wrap_succ, wrap_pred, zr33, zr34, zr43, zr51, zr60, zr67, zr73, zr85, zr87, zr98, zr107, zr120, zr126, zr132, zr134, zr139, zr142, zr144, zr150, zr152, zr157, zr159, zr168, zr171, zr185, zr188, zr207, zr212, zr224, zr228, zr233, zr235, zr243, zr252, zr255, zr269, zr280, zr282, zr299, zr317, zr328, zr333, g2, m6_eq, c0]
    rw [e0]
    rfl
  have c0 : ¬ _ < _ := fun q => hs ((m6_neg p).1 q)
  obtain ⟨b1, b2, b3, b4, b5, b6⟩ := pt_ok hp hs
  by_cases w1 : p.what = 1
  · have z1 : (p.what == 1) = true := by rw [w1]; rfl
    have e0 : lineB p = some (wordsB beginB [p.level, p.frm, p.to_]) := by unfold lineB; rw [if_neg hs, if_pos w1]
    try simp (disch := first | omega | assumption | exact Int.natCast_nonneg _) only [RXA, RXB, Nat.reduceAdd, Nat.reduceLT, wrap_id, wrap_succ, wrap_pred, zr33, zr34, zr43, zr51, zr60, zr67, zr73, zr85, zr87, zr98, zr107, zr120, zr126, zr132, zr134, zr139, zr142, zr144, zr150, zr152, zr157, zr159, zr168, zr171, zr185, zr188, zr207, zr212, zr224, zr228, zr233, zr235, zr243, zr252, zr255, zr269, zr280, zr282, zr299, zr317, zr328, zr333, g2, m6_eq, c0, z1]
    refine run_lits (cs := intsV .i64 [p.level, p.frm, p.to_]) rfl _ ?_
    refine run_callN okd (n_words ko lf d (n + 1 + 1) _ beginB _ _ (fresh_row [p.level, p.frm, p.to_] rfl (by simp)) (by intro x hx; simp at hx; omega) (by simp) (by decide) hlf) (by omega) (fun _ _ h => h.elim) ?_
    rintro v1 h1 n1 hn1 fr rfl
    try simp (disch := first | omega | assumption | exact Int.natCast_nonneg _) only [RXA, RXB, Nat.reduceAdd, Nat.reduceLT, wrap_id, wrap_succ, wrap_pred, zr33, zr34, zr43, zr51, zr60, zr67, zr73, zr85, zr87, zr98, zr107, zr120, zr126, zr132, zr134, zr139, zr142, zr144, zr150, zr152, zr157, zr159, zr168, zr171, zr185, zr188, zr207, zr212, zr224, zr228, zr233, zr235, zr243, zr252, zr255, zr269, zr280, zr282, zr299, zr317, zr328, zr333]
    rw [e0]
    rfl
  have n1 : (p.what == 1) = false := beq_eq_false_iff_ne.2 w1
  have sm : 0 ≤ p.sum ∧ p.sum < 4294967296 := by
    unfold Pt.ok at hp
    simp only [Bool.and_eq_true, decide_eq_true_eq] at hp
    omega
  have hl8 : (hexB p.sum.toNat).length = 8 := by unfold hexB; simp
  by_cases w2 : p.what = 2
  · have z2 : (p.what == 2) = true := by rw [w2]; rfl
    have e0 : lineB p = some (wordsB (blockB ++ hexB p.sum.toNat) [p.orig, p.last, p.len, p.frm, p.to_]) := by unfold lineB; rw [if_neg hs, if_neg w1, if_pos w2]
    have ad := fun K => stB_add blockB (hexB p.sum.toNat) (by rw [hl8]; decide) K
    try simp (disch := first | omega | assumption | exact Int.natCast_nonneg _) only [RXA, RXB, Nat.reduceAdd, Nat.reduceLT, wrap_id, wrap_succ, wrap_pred, zr33, zr34, zr43, zr51, zr60, zr67, zr73, zr85, zr87, zr98, zr107, zr120, zr126, zr132, zr134, zr139, zr142, zr144, zr150, zr152, zr157, zr159, zr168, zr171, zr185, zr188, zr207, zr212, zr224, zr228, zr233, zr235, zr243, zr252, zr255, zr269, zr280, zr282, zr299, zr317, zr328, zr333, g2, m6_eq, c0, n1, z2]
    refine timed_ldB trivial _ _ _ g2 lt1 (Nat.le_refl _) rfl fun T0 t0 => ?_
    refine timed_callN okd (n_hexed ko lf (d + 19) (n + 1) h2 sm.1 sm.2) ?_
    rintro v1 h1 n1' L1 hn1 fr ⟨rfl, rfl, rfl⟩ r1
    show Run (fun _ => False) n (kad (stB blockB) (stB (hexB p.sum.toNat)) _) _ _ _
    rw [ad]
    try simp (disch := first | omega | assumption | exact Int.natCast_nonneg _) only [RXA, RXB, Nat.reduceAdd, Nat.reduceLT, wrap_id, wrap_succ, wrap_pred, zr33, zr34, zr43, zr51, zr60, zr67, zr73, zr85, zr87, zr98, zr107, zr120, zr126, zr132, zr134, zr139, zr142, zr144, zr150, zr152, zr157, zr159, zr168, zr171, zr185, zr188, zr207, zr212, zr224, zr228, zr233, zr235, zr243, zr252, zr255, zr269, zr280, zr282, zr299, zr317, zr328, zr333]
    refine timed_ldB trivial _ _ _ g2 lt1 hn1 rfl fun T1 t1 => ?_
    try simp (disch := first | omega | assumption | exact Int.natCast_nonneg _) only [RXA, RXB, Nat.reduceAdd, Nat.reduceLT, wrap_id, wrap_succ, wrap_pred, zr33, zr34, zr43, zr51, zr60, zr67, zr73, zr85, zr87, zr98, zr107, zr120, zr126, zr132, zr134, zr139, zr142, zr144, zr150, zr152, zr157, zr159, zr168, zr171, zr185, zr188, zr207, zr212, zr224, zr228, zr233, zr235, zr243, zr252, zr255, zr269, zr280, zr282, zr299, zr317, zr328, zr333]
    refine timed_ldB trivial _ _ _ g2 lt1 hn1 rfl fun T2 t2 => ?_
    try simp (disch := first | omega | assumption | exact Int.natCast_nonneg _) only [RXA, RXB, Nat.reduceAdd, Nat.reduceLT, wrap_id, wrap_succ, wrap_pred, zr33, zr34, zr43, zr51, zr60, zr67, zr73, zr85, zr87, zr98, zr107, zr120, zr126, zr132, zr134, zr139, zr142, zr144, zr150, zr152, zr157, zr159, zr168, zr171, zr185, zr188, zr207, zr212, zr224, zr228, zr233, zr235, zr243, zr252, zr255, zr269, zr280, zr282, zr299, zr317, zr328, zr333]
    refine timed_ldB trivial _ _ _ g2 lt1 hn1 rfl fun T3 t3 => ?_
    try simp (disch := first | omega | assumption | exact Int.natCast_nonneg _) only [RXA, RXB, Nat.reduceAdd, Nat.reduceLT, wrap_id, wrap_succ, wrap_pred, zr33, zr34, zr43, zr51, zr60, zr67, zr73, zr85, zr87, zr98, zr107, zr120, zr126, zr132, zr134, zr139, zr142, zr144, zr150, zr152, zr157, zr159, zr168, zr171, zr185, zr188, zr207, zr212, zr224, zr228, zr233, zr235, zr243, zr252, zr255, zr269, zr280, zr282, zr299, zr317, zr328, zr333]
    refine timed_ldB trivial _ _ _ g2 lt1 hn1 rfl fun T4 t4 => ?_
    try simp (disch := first | omega | assumption | exact Int.natCast_nonneg _) only [RXA, RXB, Nat.reduceAdd, Nat.reduceLT, wrap_id, wrap_succ, wrap_pred, zr33, zr34, zr43, zr51, zr60, zr67, zr73, zr85, zr87, zr98, zr107, zr120, zr126, zr132, zr134, zr139, zr142, zr144, zr150, zr152, zr157, zr159, zr168, zr171, zr185, zr188, zr207, zr212, zr224, zr228, zr233, zr235, zr243, zr252, zr255, zr269, zr280, zr282, zr299, zr317, zr328, zr333]
    refine timed_ldB trivial _ _ _ g2 lt1 hn1 rfl fun T5 t5 => ?_
    try simp (disch := first | omega | assumption | exact Int.natCast_nonneg _) only [RXA, RXB, Nat.reduceAdd, Nat.reduceLT, wrap_id, wrap_succ, wrap_pred, zr33, zr34, zr43, zr51, zr60, zr67, zr73, zr85, zr87, zr98, zr107, zr120, zr126, zr132, zr134, zr139, zr142, zr144, zr150, zr152, zr157, zr159, zr168, zr171, zr185, zr188, zr207, zr212, zr224, zr228, zr233, zr235, zr243, zr252, zr255, zr269, zr280, zr282, zr299, zr317, zr328, zr333]
    refine timed_lits (cs := intsV .i64 [p.orig, p.last, p.len, p.frm, p.to_]) rfl hn1 _ fun T6 t6 => ?_
    refine timed_callN okd (n_words ko lf d _ _ (blockB ++ hexB p.sum.toNat) _ _ (fresh_row [p.orig, p.last, p.len, p.frm, p.to_] rfl (by simp)) (by intro x hx; simp at hx; omega) (by simp) (by rw [List.length_append, hl8]; decide) hlf) ?_
    rintro v2 h3 n3 L2 hn3 fr3 rfl r2
    try simp (disch := first | omega | assumption | exact Int.natCast_nonneg _) only [RXA, RXB, Nat.reduceAdd, Nat.reduceLT, wrap_id, wrap_succ, wrap_pred, zr33, zr34, zr43, zr51, zr60, zr67, zr73, zr85, zr87, zr98, zr107, zr120, zr126, zr132, zr134, zr139, zr142, zr144, zr150, zr152, zr157, zr159, zr168, zr171, zr185, zr188, zr207, zr212, zr224, zr228, zr233, zr235, zr243, zr252, zr255, zr269, zr280, zr282, zr299, zr317, zr328, zr333, r1.clash t1, r1.clash t2, r1.clash t3, r1.clash t4, r1.clash t5, r1.clash t6, Bool.not_false, Bool.and_self, chk_true]
    rw [e0]
    rfl
  have n2 : (p.what == 2) = false := beq_eq_false_iff_ne.2 w2
  by_cases w3 : p.what = 3
  · have z3 : (p.what == 3) = true := by rw [w3]; rfl
    have e0 : lineB p = some (wordsB (endB ++ hexB p.sum.toNat) [p.frm, p.to_]) := by unfold lineB; rw [if_neg hs, if_neg w1, if_neg w2, if_pos w3]
    have ad := fun K => stB_add endB (hexB p.sum.toNat) (by rw [hl8]; decide) K
    try simp (disch := first | omega | assumption | exact Int.natCast_nonneg _) only [RXA, RXB, Nat.reduceAdd, Nat.reduceLT, wrap_id, wrap_succ, wrap_pred, zr33, zr34, zr43, zr51, zr60, zr67, zr73, zr85, zr87, zr98, zr107, zr120, zr126, zr132, zr134, zr139, zr142, zr144, zr150, zr152, zr157, zr159, zr168, zr171, zr185, zr188, zr207, zr212, zr224, zr228, zr233, zr235, zr243, zr252, zr255, zr269, zr280, zr282, zr299, zr317, zr328, zr333, g2, m6_eq, c0, n1, n2, z3]
    refine timed_ldB trivial _ _ _ g2 lt1 (Nat.le_refl _) rfl fun T0 t0 => ?_
    refine timed_callN okd (n_hexed ko lf (d + 19) (n + 1) h2 sm.1 sm.2) ?_
    rintro v1 h1 n1' L1 hn1 fr ⟨rfl, rfl, rfl⟩ r1
    show Run (fun _ => False) n (kad (stB endB) (stB (hexB p.sum.toNat)) _) _ _ _
    rw [ad]
    try simp (disch := first | omega | assumption | exact Int.natCast_nonneg _) only [RXA, RXB, Nat.reduceAdd, Nat.reduceLT, wrap_id, wrap_succ, wrap_pred, zr33, zr34, zr43, zr51, zr60, zr67, zr73, zr85, zr87, zr98, zr107, zr120, zr126, zr132, zr134, zr139, zr142, zr144, zr150, zr152, zr157, zr159, zr168, zr171, zr185, zr188, zr207, zr212, zr224, zr228, zr233, zr235, zr243, zr252, zr255, zr269, zr280, zr282, zr299, zr317, zr328, zr333]
    refine timed_ldB trivial _ _ _ g2 lt1 hn1 rfl fun T1 t1 => ?_
    try simp (disch := first | omega | assumption | exact Int.natCast_nonneg _) only [RXA, RXB, Nat.reduceAdd, Nat.reduceLT, wrap_id, wrap_succ, wrap_pred, zr33, zr34, zr43, zr51, zr60, zr67, zr73, zr85, zr87, zr98, zr107, zr120, zr126, zr132, zr134, zr139, zr142, zr144, zr150, zr152, zr157, zr159, zr168, zr171, zr185, zr188, zr207, zr212, zr224, zr228, zr233, zr235, zr243, zr252, zr255, zr269, zr280, zr282, zr299, zr317, zr328, zr333]
    refine timed_ldB trivial _ _ _ g2 lt1 hn1 rfl fun T2 t2 => ?_
    try simp (disch := first | omega | assumption | exact Int.natCast_nonneg _) only [RXA, RXB, Nat.reduceAdd, Nat.reduceLT, wrap_id, wrap_succ, wrap_pred, zr33, zr34, zr43, zr51, zr60, zr67, zr73, zr85, zr87, zr98, zr107, zr120, zr126, zr132, zr134, zr139, zr142, zr144, zr150, zr152, zr157, zr159, zr168, zr171, zr185, zr188, zr207, zr212, zr224, zr228, zr233, zr235, zr243, zr252, zr255, zr269, zr280, zr282, zr299, zr317, zr328, zr333]
    refine timed_lits (cs := intsV .i64 [p.frm, p.to_]) rfl hn1 _ fun T6 t6 => ?_
    refine timed_callN okd (n_words ko lf d _ _ (endB ++ hexB p.sum.toNat) _ _ (fresh_row [p.frm, p.to_] rfl (by simp)) (by intro x hx; simp at hx; omega) (by simp) (by rw [List.length_append, hl8]; decide) hlf) ?_
    rintro v2 h3 n3 L2 hn3 fr3 rfl r2
    try simp (disch := first | omega | assumption | exact Int.natCast_nonneg _) only [RXA, RXB, Nat.reduceAdd, Nat.reduceLT, wrap_id, wrap_succ, wrap_pred, zr33, zr34, zr43, zr51, zr60, zr67, zr73, zr85, zr87, zr98, zr107, zr120, zr126, zr132, zr134, zr139, zr142, zr144, zr150, zr152, zr157, zr159, zr168, zr171, zr185, zr188, zr207, zr212, zr224, zr228, zr233, zr235, zr243, zr252, zr255, zr269, zr280, zr282, zr299, zr317, zr328, zr333, r1.clash t1, r1.clash t2, r1.clash t6, Bool.not_false, Bool.and_self, chk_true]
    rw [e0]
    rfl
  have n3 : (p.what == 3) = false := beq_eq_false_iff_ne.2 w3
  have e0 : lineB p = none := by unfold lineB; rw [if_neg hs, if_neg w1, if_neg w2, if_neg w3]
  try simp (disch := first | omega | assumption | exact Int.natCast_nonneg _) only [RXA, RXB, Nat.reduceAdd, Nat.reduceLT, wrap_id, wrap_succ, wrap_pred, zr33, zr34, zr43, zr51, zr60, zr67, zr73, zr85, zr87, zr98, zr107, zr120, zr126, zr132, zr134, zr139, zr142, zr144, zr150, zr152, zr157, zr159, zr168, zr171, zr185, zr188, zr207, zr212, zr224, zr228, zr233, zr235, zr243, zr252, zr255, zr269, zr280, zr282, zr299, zr317, zr328, zr333, g2, m6_eq, c0, n1, n2, n3]
  rw [e0]
  rfl
end
end Go.Proofs.YtmjolmggelkjlaaGreat

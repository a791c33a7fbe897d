/- Layer 47: the references' digits, words, digits of a sum. -/
import Derived.Test.YtmjolmggelkjlaaGreatIF
namespace Go.Proofs.YtmjolmggelkjlaaGreat
set_option linter.unusedVariables false
set_option linter.unusedSimpArgs false
open Go.RowKit Ev Ip

def tenB : ByteArray := ⟨#[48, 49, 50, 51, 52, 53, 54, 55, 56, 57]⟩
def hexT : ByteArray := ⟨#[48, 49, 50, 51, 52, 53, 54, 55, 56, 57, 97, 98, 99, 100, 101, 102]⟩
theorem ten_sx : ∀ (q : Nat), q < 10 → ∀ (k : Value → M Value), ksx (.string ⟨#[48, 49, 50, 51, 52, 53, 54, 55, 56, 57]⟩) (some (.int .i64 (q : Int))) (some (.int .i64 ((q : Int) + 1))) k = k (stB [48 + q])
  | 0, _, _ => rfl
  | 1, _, _ => rfl
  | 2, _, _ => rfl
  | 3, _, _ => rfl
  | 4, _, _ => rfl
  | 5, _, _ => rfl
  | 6, _, _ => rfl
  | 7, _, _ => rfl
  | 8, _, _ => rfl
  | 9, _, _ => rfl
  | q + 10, h, _ => by omega
theorem hex_sx : ∀ (q : Nat), q < 16 → ∀ (k : Value → M Value), ksx (.string ⟨#[48, 49, 50, 51, 52, 53, 54, 55, 56, 57, 97, 98, 99, 100, 101, 102]⟩) (some (.int .u32 (q : Int))) (some (.int .u32 ((q : Int) + 1))) k = k (stB [hexD q])
  | 0, _, _ => rfl
  | 1, _, _ => rfl
  | 2, _, _ => rfl
  | 3, _, _ => rfl
  | 4, _, _ => rfl
  | 5, _, _ => rfl
  | 6, _, _ => rfl
  | 7, _, _ => rfl
  | 8, _, _ => rfl
  | 9, _, _ => rfl
  | 10, _, _ => rfl
  | 11, _, _ => rfl
  | 12, _, _ => rfl
  | 13, _, _ => rfl
  | 14, _, _ => rfl
  | 15, _, _ => rfl
  | q + 16, h, _ => by omega
def preB (k x : Nat) : List Nat := if x < 10 then [] else dgB k (x / 10)
theorem dgB_pre (k x : Nat) : dgB (k + 1) x = preB k x ++ [48 + x % 10] := by
  unfold dgB preB digs
  by_cases h : x < 10
  · rw [if_pos h, if_pos h, Nat.mod_eq_of_lt h]; rfl
  · rw [if_neg h, if_neg h, List.map_append]; rfl
section
variable {lf d : Nat}
theorem rdig_loop {n0 : Nat} (b d1 : Value) : ∀ (k x fu n : Nat) (h : H) (out : List Nat), x < 10 ^ (k + 1) → x ≤ 9223372036854775807 → k < fu → out.length + k ≤ 100 → n0 ≤ n →
    Run (fun _ => False) n0 (lpA_balerref25_Digits lf ((evCall2 Tryz.prog gt lf d)) fu (kcA_balerref25_Digits lf ((evCall2 Tryz.prog gt lf d))) (.int .i64 (x : Int)) b (stB out) d1) h n fun v' h' n' => v' = stB (preB k x ++ out) ∧ h' = h ∧ n' = n := by
  intro k
  induction k generalizing b with
  | zero =>
    intro x fu n h out hx hx2 hf hl hn
    obtain ⟨fu, rfl⟩ : ∃ f, fu = f + 1 := ⟨fu - 1, by omega⟩
    have hx : x < 10 := by simpa using hx
    have c1 : ¬ (10 : Int) ≤ (x : Int) := by omega
    rw [lpA_balerref25_Digits]
    try simp (disch := first | omega | assumption | exact Int.natCast_nonneg _) only [RXA, RXB, Nat.reduceAdd, Nat.reduceLT, wrap_id, wrap_succ, wrap_pred, zr33, zr34, zr43, zr51, zr60, zr67, zr73, zr85, zr87, zr98, zr107, zr120, zr126, zr132, zr134, zr139, zr142, zr144, zr150, zr152, zr157, zr159, zr168, zr171, zr185, zr188, zr207, zr212, zr224, zr228, zr233, zr235, zr243, zr252, zr255, zr269, zr280, zr282, zr299, zr317, zr328, zr333, c1]
    unfold kcA_balerref25_Digits preB
    rw [if_pos hx]
    try simp (disch := first | omega | assumption | exact Int.natCast_nonneg _) only [RXA, RXB, Nat.reduceAdd, Nat.reduceLT, wrap_id, wrap_succ, wrap_pred, zr33, zr34, zr43, zr51, zr60, zr67, zr73, zr85, zr87, zr98, zr107, zr120, zr126, zr132, zr134, zr139, zr142, zr144, zr150, zr152, zr157, zr159, zr168, zr171, zr185, zr188, zr207, zr212, zr224, zr228, zr233, zr235, zr243, zr252, zr255, zr269, zr280, zr282, zr299, zr317, zr328, zr333]
    first | exact ⟨rfl, rfl, rfl⟩ | rfl
  | succ k ih =>
    intro x fu n h out hx hx2 hf hl hn
    obtain ⟨fu, rfl⟩ : ∃ f, fu = f + 1 := ⟨fu - 1, by omega⟩
    rw [lpA_balerref25_Digits]
    by_cases h10 : x < 10
    · have c1 : ¬ (10 : Int) ≤ (x : Int) := by omega
      try simp (disch := first | omega | assumption | exact Int.natCast_nonneg _) only [RXA, RXB, Nat.reduceAdd, Nat.reduceLT, wrap_id, wrap_succ, wrap_pred, zr33, zr34, zr43, zr51, zr60, zr67, zr73, zr85, zr87, zr98, zr107, zr120, zr126, zr132, zr134, zr139, zr142, zr144, zr150, zr152, zr157, zr159, zr168, zr171, zr185, zr188, zr207, zr212, zr224, zr228, zr233, zr235, zr243, zr252, zr255, zr269, zr280, zr282, zr299, zr317, zr328, zr333, c1]
      unfold kcA_balerref25_Digits preB
      rw [if_pos h10]
      try simp (disch := first | omega | assumption | exact Int.natCast_nonneg _) only [RXA, RXB, Nat.reduceAdd, Nat.reduceLT, wrap_id, wrap_succ, wrap_pred, zr33, zr34, zr43, zr51, zr60, zr67, zr73, zr85, zr87, zr98, zr107, zr120, zr126, zr132, zr134, zr139, zr142, zr144, zr150, zr152, zr157, zr159, zr168, zr171, zr185, zr188, zr207, zr212, zr224, zr228, zr233, zr235, zr243, zr252, zr255, zr269, zr280, zr282, zr299, zr317, zr328, zr333]
      first | exact ⟨rfl, rfl, rfl⟩ | rfl
    · have c1 : (10 : Int) ≤ (x : Int) := by omega
      have sx := fun (K : Value → M Value) => ten_sx (x / 10 % 10) (by omega) K
      have ad := fun (K : Value → M Value) => stB_add [48 + x / 10 % 10] out (by simp; omega) K
      try simp (disch := first | omega | assumption | exact Int.natCast_nonneg _) only [RXA, RXB, Nat.reduceAdd, Nat.reduceLT, wrap_id, wrap_succ, wrap_pred, zr33, zr34, zr43, zr51, zr60, zr67, zr73, zr85, zr87, zr98, zr107, zr120, zr126, zr132, zr134, zr139, zr142, zr144, zr150, zr152, zr157, zr159, zr168, zr171, zr185, zr188, zr207, zr212, zr224, zr228, zr233, zr235, zr243, zr252, zr255, zr269, zr280, zr282, zr299, zr317, zr328, zr333, c1, tdiv10, tmod10]
      rw [sx]
      rw [ad]
      have := ih b (x / 10) fu n h ([48 + x / 10 % 10] ++ out) (by rw [Nat.pow_succ] at hx; omega) (by omega) (by omega) (by simp; omega) hn
      have e : preB k (x / 10) ++ ([48 + x / 10 % 10] ++ out) = preB (k + 1) x ++ out := by
        rw [← List.append_assoc, ← dgB_pre]
        unfold preB
        rw [if_neg h10]
      rw [e] at this
      exact this
theorem s_RDigits (n : Nat) (h : H) {x : Nat} (hx : x ≤ 9223372036854775807) (hlf : 100 ≤ lf) : Run (fun _ => False) n (evCall2 Tryz.prog gt lf (d + 1) 52 #[.int .i64 (x : Int)]) h n fun v' h' n' => v' = stB (dgB 19 x) ∧ h' = h ∧ n' = n := by
  have c1 : ¬ (x : Int) < 0 := by omega
  have sx := fun (K : Value → M Value) => ten_sx (x % 10) (by omega) K
  rw [shOf (fun _ => st_balerref25_Digits) rfl]
  refine Run.inside_ ?_
  unfold b_balerref25_Digits
  try simp (disch := first | omega | assumption | exact Int.natCast_nonneg _) only [RXA, RXB, Nat.reduceAdd, Nat.reduceLT, wrap_id, wrap_succ, wrap_pred, zr33, zr34, zr43, zr51, zr60, zr67, zr73, zr85, zr87, zr98, zr107, zr120, zr126, zr132, zr134, zr139, zr142, zr144, zr150, zr152, zr157, zr159, zr168, zr171, zr185, zr188, zr207, zr212, zr224, zr228, zr233, zr235, zr243, zr252, zr255, zr269, zr280, zr282, zr299, zr317, zr328, zr333, c1, tmod10]
  rw [sx, dgB_pre]
  exact rdig_loop _ _ 18 x lf n h [48 + x % 10] (by omega) hx (by omega) (by simp) (Nat.le_refl _)
theorem rwords_loop (n0 : Nat) {a0 e0 : Value} : ∀ (xs : List Int) (m i fu n : Nat) (h : H) (s : List Nat) (v : Value) (ys : List Int), Row h n 3 .i64 v ys → ys.drop i = xs → xs.length = m → m < fu → (∀ x ∈ ys, 0 ≤ x ∧ x ≤ 9223372036854775807) → ys.length ≤ 10 → s.length + 30 * m ≤ 1000000 → i ≤ ys.length → n0 ≤ n → 100 ≤ lf →
    Run (fun _ => False) n0 (lpA_balerref47_words lf (evCall2 Tryz.prog gt lf (d + 1)) fu (kcA_balerref47_words lf (evCall2 Tryz.prog gt lf (d + 1))) (stB s) a0 e0 v (.int .i64 (ys.length : Int)) (.int .i64 (i : Int))) h n fun v' h' n' => v' = stB (wordsB s xs) := by
  intro xs
  induction xs with
  | nil =>
    intro m i fu n h s v ys hR hd hm hf hx hl hs hi hn0 hlf
    obtain ⟨fu, rfl⟩ : ∃ f, fu = f + 1 := ⟨fu - 1, by omega⟩
    have : i = ys.length := by
      have := congrArg List.length hd
      simp at this
      omega
    subst this
    rw [lpA_balerref47_words]
    try simp (disch := first | omega | assumption | exact Int.natCast_nonneg _) only [RXA, RXB, Nat.reduceAdd, Nat.reduceLT, wrap_id, wrap_succ, wrap_pred, zr33, zr34, zr43, zr51, zr60, zr67, zr73, zr85, zr87, zr98, zr107, zr120, zr126, zr132, zr134, zr139, zr142, zr144, zr150, zr152, zr157, zr159, zr168, zr171, zr185, zr188, zr207, zr212, zr224, zr228, zr233, zr235, zr243, zr252, zr255, zr269, zr280, zr282, zr299, zr317, zr328, zr333, Int.lt_irrefl]
    unfold kcA_balerref47_words
    try simp (disch := first | omega | assumption | exact Int.natCast_nonneg _) only [RXA, RXB, Nat.reduceAdd, Nat.reduceLT, wrap_id, wrap_succ, wrap_pred, zr33, zr34, zr43, zr51, zr60, zr67, zr73, zr85, zr87, zr98, zr107, zr120, zr126, zr132, zr134, zr139, zr142, zr144, zr150, zr152, zr157, zr159, zr168, zr171, zr185, zr188, zr207, zr212, zr224, zr228, zr233, zr235, zr243, zr252, zr255, zr269, zr280, zr282, zr299, zr317, zr328, zr333]
    rfl
  | cons x xs ih =>
    intro m i fu n h s v ys hR hd hm hf hx hl hs hi hn0 hlf
    obtain ⟨fu, rfl⟩ : ∃ f, fu = f + 1 := ⟨fu - 1, by simp at hm; omega⟩
    have hlt : i < ys.length := by
      have := congrArg List.length hd
      simp at this
      omega
    have hxi : ys[i] = x := by
      have := congrArg (·[0]?) hd
      simp at this
      rw [List.getElem?_eq_getElem hlt] at this
      simpa using this
    have hb := hx x (by rw [← hxi]; exact List.getElem_mem _)
    obtain ⟨y, rfl⟩ : ∃ y : Nat, x = y := ⟨x.toNat, by omega⟩
    obtain ⟨bb, off, cap, o, ks, rfl, hg, hbn, _, _, _, hat⟩ := hR.some (by omega)
    have a1 := hat i hlt
    have e0 : ys.getD i 0 = (y : Int) := by rw [List.getD_eq_getElem?_getD, List.getElem?_eq_getElem hlt, hxi]; rfl
    rw [e0] at a1
    have e1 : ((i : Nat) : Int) < ((ys.length : Nat) : Int) := by omega
    have l1 := dgB_len 19 y
    have w1 : ((i : Nat) : Int) + 1 = ((i + 1 : Nat) : Int) := rfl
    simp only [List.length_cons] at hm
    have ad1 := fun (K : Value → M Value) => stB_add s [32] (by simp; omega) K
    have ad2 := fun (K : Value → M Value) => stB_add (s ++ [32]) (dgB 19 y) (by simp; omega) K
    rw [lpA_balerref47_words]
    try simp (disch := first | omega | assumption | exact Int.natCast_nonneg _) only [RXA, RXB, Nat.reduceAdd, Nat.reduceLT, wrap_id, wrap_succ, wrap_pred, zr33, zr34, zr43, zr51, zr60, zr67, zr73, zr85, zr87, zr98, zr107, zr120, zr126, zr132, zr134, zr139, zr142, zr144, zr150, zr152, zr157, zr159, zr168, zr171, zr185, zr188, zr207, zr212, zr224, zr228, zr233, zr235, zr243, zr252, zr255, zr269, zr280, zr282, zr299, zr317, zr328, zr333, e1, hg, a1]
    show Run (fun _ => False) n0 (kad (stB s) (stB [32]) _) h n _
    rw [ad1]
    refine run_same (s_RDigits (lf := lf) (d := d) n h (by omega) hlf) hn0 (fun _ _ h => h.elim) ?_
    rw [ad2]
    try simp (disch := first | omega | assumption | exact Int.natCast_nonneg _) only [RXA, RXB, Nat.reduceAdd, Nat.reduceLT, wrap_id, wrap_succ, wrap_pred, zr33, zr34, zr43, zr51, zr60, zr67, zr73, zr85, zr87, zr98, zr107, zr120, zr126, zr132, zr134, zr139, zr142, zr144, zr150, zr152, zr157, zr159, zr168, zr171, zr185, zr188, zr207, zr212, zr224, zr228, zr233, zr235, zr243, zr252, zr255, zr269, zr280, zr282, zr299, zr317, zr328, zr333]
    rw [w1]
    have := ih (m - 1) (i + 1) fu n h ((s ++ [32]) ++ dgB 19 y) _ ys hR (by rw [← List.tail_drop, hd]; rfl) (by omega) (by omega) hx hl (by simp; omega) (by omega) (by omega) hlf
    have e2 : wordsB (s ++ [32] ++ dgB 19 y) xs = wordsB s ((y : Int) :: xs) := by
      show _ = wordsB (s ++ 32 :: numB (y : Int)) xs
      rw [numB_eq, List.append_assoc]
      rfl
    rw [e2] at this
    exact this
theorem s_RWords (n : Nat) (h : H) (s : List Nat) (v : Value) (ys : List Int) (hR : Row h n 3 .i64 v ys) (hx : ∀ x ∈ ys, 0 ≤ x ∧ x ≤ 9223372036854775807) (hl : ys.length ≤ 10) (hs : s.length ≤ 1000) (hlf : 100 ≤ lf) : Run (fun _ => False) n (evCall2 Tryz.prog gt lf (d + 2) 69 #[stB s, v]) h n fun v' h' n' => v' = stB (wordsB s ys) := by
  rw [shOf (fun _ => st_balerref47_words) rfl]
  refine Run.inside_ ?_
  unfold b_balerref47_words
  obtain ⟨a, c, rfl⟩ := hR.len
  try simp (disch := first | omega | assumption | exact Int.natCast_nonneg _) only [RXA, RXB, Nat.reduceAdd, Nat.reduceLT, wrap_id, wrap_succ, wrap_pred, zr33, zr34, zr43, zr51, zr60, zr67, zr73, zr85, zr87, zr98, zr107, zr120, zr126, zr132, zr134, zr139, zr142, zr144, zr150, zr152, zr157, zr159, zr168, zr171, zr185, zr188, zr207, zr212, zr224, zr228, zr233, zr235, zr243, zr252, zr255, zr269, zr280, zr282, zr299, zr317, zr328, zr333]
  exact rwords_loop n ys ys.length 0 lf n h s _ ys hR (by simp) rfl (by omega) hx hl (by omega) (by omega) (Nat.le_refl _) hlf
def hexP (x i : Nat) : List Nat := (List.range i).map fun j => hexD (x / 16 ^ (i - 1 - j) % 16)
theorem hexP_succ (x i : Nat) : hexP x (i + 1) = hexD (x / 16 ^ i % 16) :: hexP x i := by
  unfold hexP
  rw [List.range_succ_eq_map, List.map_cons, List.map_map]
  congr 1
  apply List.map_congr_left
  intro j hj
  have := List.mem_range.1 hj
  show hexD (x / 16 ^ (i + 1 - 1 - (j + 1)) % 16) = _
  rw [show i + 1 - 1 - (j + 1) = i - 1 - j by omega]
theorem udiv16 (x : Nat) : (x : Int).tdiv 16 = ((x / 16 : Nat) : Int) := rfl
theorem umod16 (x : Nat) : (x : Int).tmod 16 = ((x % 16 : Nat) : Int) := rfl
theorem rhex_loop {n0 : Nat} {b : Value} (x : Nat) (hx : x < 4294967296) : ∀ (m i fu n : Nat) (h : H), i + m = 8 → m < fu → n0 ≤ n →
    Run (fun _ => False) n0 (lpA_balerref47_hex lf ((evCall2 Tryz.prog gt lf d)) fu (kcA_balerref47_hex lf ((evCall2 Tryz.prog gt lf d))) (.int .u32 ((x / 16 ^ i : Nat) : Int)) b (stB (hexP x i)) (.int .i64 (i : Int))) h n fun v' h' n' => v' = stB (hexB x) ∧ h' = h ∧ n' = n := by
  intro m
  induction m with
  | zero =>
    intro i fu n h hi hf hn
    obtain ⟨fu, rfl⟩ : ∃ f, fu = f + 1 := ⟨fu - 1, by omega⟩
    obtain rfl : i = 8 := by omega
    rw [lpA_balerref47_hex]
    try simp (disch := first | omega | assumption | exact Int.natCast_nonneg _) only [RXA, RXB, Nat.reduceAdd, Nat.reduceLT, wrap_id, wrap_succ, wrap_pred, zr33, zr34, zr43, zr51, zr60, zr67, zr73, zr85, zr87, zr98, zr107, zr120, zr126, zr132, zr134, zr139, zr142, zr144, zr150, zr152, zr157, zr159, zr168, zr171, zr185, zr188, zr207, zr212, zr224, zr228, zr233, zr235, zr243, zr252, zr255, zr269, zr280, zr282, zr299, zr317, zr328, zr333, Int.lt_irrefl]
    unfold kcA_balerref47_hex
    try simp (disch := first | omega | assumption | exact Int.natCast_nonneg _) only [RXA, RXB, Nat.reduceAdd, Nat.reduceLT, wrap_id, wrap_succ, wrap_pred, zr33, zr34, zr43, zr51, zr60, zr67, zr73, zr85, zr87, zr98, zr107, zr120, zr126, zr132, zr134, zr139, zr142, zr144, zr150, zr152, zr157, zr159, zr168, zr171, zr185, zr188, zr207, zr212, zr224, zr228, zr233, zr235, zr243, zr252, zr255, zr269, zr280, zr282, zr299, zr317, zr328, zr333]
    first | exact ⟨rfl, rfl, rfl⟩ | rfl
  | succ m ih =>
    intro i fu n h hi hf hn
    obtain ⟨fu, rfl⟩ : ∃ f, fu = f + 1 := ⟨fu - 1, by omega⟩
    have c1 : (i : Int) < 8 := by omega
    have hl : (hexP x i).length = i := by unfold hexP; simp
    have w1 : ((i : Nat) : Int) + 1 = ((i + 1 : Nat) : Int) := rfl
    have hq : x / 16 ^ i ≤ x := Nat.div_le_self _ _
    obtain ⟨y, hy⟩ : ∃ y, x / 16 ^ i = y := ⟨_, rfl⟩
    have hy2 : x / 16 ^ (i + 1) = y / 16 := by rw [← hy, Nat.pow_succ, Nat.div_div_eq_div_mul]
    rw [hy] at hq ⊢
    have sx := fun (K : Value → M Value) => hex_sx (y % 16) (by omega) K
    have ad := fun (K : Value → M Value) => stB_add [hexD (y % 16)] (hexP x i) (by simp; omega) K
    have w2 : IntKind.u32.wrap (((y % 16 : Nat) : Int) + 1) = ((y % 16 : Nat) : Int) + 1 := IntWalk.u32_in _ (by omega)
    have := ih (i + 1) fu n h (by omega) (by omega) hn
    rw [hexP_succ, hy, hy2] at this
    rw [lpA_balerref47_hex]
    try simp (disch := first | omega | assumption | exact Int.natCast_nonneg _) only [RXA, RXB, Nat.reduceAdd, Nat.reduceLT, wrap_id, wrap_succ, wrap_pred, zr33, zr34, zr43, zr51, zr60, zr67, zr73, zr85, zr87, zr98, zr107, zr120, zr126, zr132, zr134, zr139, zr142, zr144, zr150, zr152, zr157, zr159, zr168, zr171, zr185, zr188, zr207, zr212, zr224, zr228, zr233, zr235, zr243, zr252, zr255, zr269, zr280, zr282, zr299, zr317, zr328, zr333, c1, umod16, udiv16, w2]
    rw [sx, ad]
    have w3 : IntKind.u32.wrap ((y / 16 : Nat) : Int) = ((y / 16 : Nat) : Int) := IntWalk.u32_in _ (by omega)
    try simp (disch := first | omega | assumption | exact Int.natCast_nonneg _) only [RXA, RXB, Nat.reduceAdd, Nat.reduceLT, wrap_id, wrap_succ, wrap_pred, zr33, zr34, zr43, zr51, zr60, zr67, zr73, zr85, zr87, zr98, zr107, zr120, zr126, zr132, zr134, zr139, zr142, zr144, zr150, zr152, zr157, zr159, zr168, zr171, zr185, zr188, zr207, zr212, zr224, zr228, zr233, zr235, zr243, zr252, zr255, zr269, zr280, zr282, zr299, zr317, zr328, zr333, umod16, udiv16, w3]
    exact this
theorem s_RHex (n : Nat) (h : H) {x : Nat} (hx : x < 4294967296) (hlf : 100 ≤ lf) : Run (fun _ => False) n (evCall2 Tryz.prog gt lf (d + 1) 70 #[.int .u32 (x : Int)]) h n fun v' h' n' => v' = stB (hexB x) ∧ h' = h ∧ n' = n := by
  rw [shOf (fun _ => st_balerref47_hex) rfl]
  refine Run.inside_ ?_
  unfold b_balerref47_hex
  have := rhex_loop (lf := lf) (d := d) (n0 := n) (b := stB []) x hx 8 0 lf n h rfl (by omega) (Nat.le_refl _)
  rw [Nat.pow_zero, Nat.div_one] at this
  exact this
end
end Go.Proofs.YtmjolmggelkjlaaGreat

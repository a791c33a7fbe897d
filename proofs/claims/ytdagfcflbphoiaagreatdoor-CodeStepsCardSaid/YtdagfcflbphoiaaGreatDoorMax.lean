import Derived.Test.YtdagfcflbphoiaaGreatDoorMaw
namespace Go.Proofs.YtdagfcflbphoiaaGreatDoor
set_option linter.unusedVariables false
set_option linter.unusedSimpArgs false
open Go.RowKit Ev Cn

def ch (b : Bool) : UInt8 := if b = true then 49 else 48
def bsT (l : List Bool) : List UInt8 := l.map ch
def tx (l : List Bool) : Value := .string ⟨(bsT l).toArray⟩
theorem zatn (l : List Bool) : (bsT l).length = l.length := by unfold bsT; simp
theorem zcii (a b : List Bool) : bsT (a ++ b) = bsT a ++ bsT b := by unfold bsT; simp
theorem zbtj (l : List Bool) (k : Nat) : (bsT l).take k = bsT (l.take k) := by unfold bsT; rw [List.map_take]
theorem zbtf (l : List Bool) (k : Nat) : (bsT l).drop k = bsT (l.drop k) := by unfold bsT; rw [List.map_drop]
theorem zcin {l : List Bool} {i : Nat} (h : i < l.length) : (bsT l).getD i 0 = ch l[i] := by
  unfold bsT
  rw [List.getD_eq_getElem?_getD, List.getElem?_map, List.getElem?_eq_getElem h]
  rfl
theorem zcjg {a b : Bool} (h : ch a = ch b) : a = b := by
  cases a <;> cases b <;> first | rfl | exact absurd h (by decide)
theorem zbxr : ∀ {a b : List Bool}, bsT a = bsT b → a = b
  | [], [], _ => rfl
  | [], b :: m, h => by simp [bsT] at h
  | a :: l, [], h => by simp [bsT] at h
  | a :: l, b :: m, h => by
    unfold bsT at h
    simp only [List.map_cons, List.cons.injEq] at h
    rw [zcjg h.1, zbxr (a := l) (b := m) h.2]
theorem zckc (b : Bool) : ((ch b).toNat : Int) = 48 + (bn b : Int) := by cases b <;> rfl
theorem zcbx : Value.string { data := #[] } = tx [] := rfl
theorem tx_0 : Value.string { data := #[48] } = tx [false] := rfl
theorem tx_1 : Value.string { data := #[49] } = tx [true] := rfl
theorem tx_01 : Value.string { data := #[48, 49] } = tx [false, true] := rfl
theorem zcce (l : List Bool) : one (tx l) = true := rfl
theorem zacs (l : List Bool) : len2 Tryz.prog #[9] [tx l] = some (.int .i64 (l.length : Int)) := by unfold tx; rw [len9, zatn]
theorem zbcg (a b : List Bool) (h : a.length + b.length ≤ 1000000000) : bin2 Tryz.prog .add 9 (tx a) (tx b) = some (tx (a ++ b)) := by
  unfold tx
  rw [badd9 _ _ (by rw [zatn, zatn]; omega), zcii]
theorem zbsi (a b : List Bool) : bin2 Tryz.prog .eql 9 (tx a) (tx b) = some (.bool (decide (a = b))) := by
  unfold tx
  rw [beql9]
  by_cases e : a = b
  · rw [decide_eq_true e, decide_eq_true (by rw [e])]
  · rw [decide_eq_false e, decide_eq_false fun q => e (zbxr q)]
theorem zbcq (l : List Bool) (k : IntKind) (i : Int) (h0 : 0 ≤ i) (h1 : i < l.length) : zaee Tryz.prog 9 (tx l) (.int k i) = some (.int .u8 (48 + (bn (l.getD i.toNat false) : Int))) := by
  unfold tx
  rw [ixs9 _ _ _ h0 (by rw [zatn]; exact h1), zcin (by omega), zckc, List.getD_eq_getElem?_getD, List.getElem?_eq_getElem (by omega)]
  rfl
theorem tx_hi {β : Type} (l : List Bool) (kd : IntKind) (j : Int) (k : Value → M β) (h0 : 0 ≤ j) (h1 : j ≤ l.length) : zabo Tryz.prog 9 (tx l) none (some (.int kd j)) none k = k (tx (l.take j.toNat)) := by
  unfold tx
  rw [slh9 _ _ _ _ h0 (by rw [zatn]; exact h1), zbtj]
theorem tx_lo {β : Type} (l : List Bool) (kd : IntKind) (j : Int) (k : Value → M β) (h0 : 0 ≤ j) (h1 : j ≤ l.length) : zabo Tryz.prog 9 (tx l) (some (.int kd j)) none none k = k (tx (l.drop j.toNat)) := by
  unfold tx
  rw [sll9 _ _ _ _ h0 (by rw [zatn]; exact h1), zbtf]
theorem zbwi {β : Type} (l : List Bool) (kd kd' : IntKind) (i j : Int) (k : Value → M β) (h0 : 0 ≤ i) (h1 : i ≤ j) (h2 : j ≤ l.length) : zabo Tryz.prog 9 (tx l) (some (.int kd i)) (some (.int kd' j)) none k = k (tx ((l.drop i.toNat).take (j.toNat - i.toNat))) := by
  unfold tx
  rw [slb9 _ _ _ _ _ _ h0 h1 (by rw [zatn]; exact h2), zbtf, zbtj]
section
variable {lf d n : Nat} {h : H}
theorem zchy (v k : Nat) (hv : v < 4294967296) (hk : k ≤ 64) (hlf : 100 ≤ lf) : Run (fun _ => False) n (zaac Tryz.prog gt lf (d + 1) 19 #[.int .u32 (v : Int), .int .i64 (k : Int)]) h n fun v' h' n' => v' = tx (fieldB v k) ∧ h' = h ∧ n' = n := by
  rw [zbgw]
  refine Run.inside_ ?_
  unfold zaun
  refine zafq k (fun fu i (s : Nat × List Bool) => zagl lf d fu (zajf lf d) (.int .u32 (s.1 : Int)) (.int .i64 (k : Int)) (.string { data := #[] }) (tx s.2) (.int .i64 (k : Int)) (.int .i64 (i : Nat))) (fun i s h' n' => (h' = h ∧ n' = n) ∧ s.1 < 4294967296 ∧ s.2.length = i ∧ fieldB v k = fieldB s.1 (k - i) ++ s.2) ?_ ?_ lf 0 (v, []) h n (Nat.zero_le _) (by omega) ⟨⟨rfl, rfl⟩, hv, rfl, by simp⟩
  · rintro fu ⟨w, t⟩ h' n' ⟨⟨rfl, rfl⟩, _, _, e⟩
    rw [zanw]
    try simp (disch := first | omega | assumption | exact zaae _ _ | exact zaab _ _ _ | exact zaaf _ | exact zaad _ | exact zaaa _) only [Nat.reduceAdd, Nat.reduceLT, RZ, Int.lt_irrefl]
    rw [zbcd]
    try simp (disch := first | omega | assumption | exact zaae _ _ | exact zaab _ _ _ | exact zaaf _ | exact zaad _ | exact zaaa _) only [Nat.reduceAdd, Nat.reduceLT, RZ]
    rw [e, Nat.sub_self]
    rfl
  · rintro fu i ⟨w, t⟩ h' n' hi ⟨⟨rfl, rfl⟩, hw, ht, e⟩ next
    rw [zanw]
    have hw : w < 4294967296 := hw
    have ht : t.length = i := ht
    have c1 : ((i : Nat) : Int) < ((k : Nat) : Int) := by omega
    have e1 : ((w : Nat) : Int).tmod 2 = ((w % 2 : Nat) : Int) := rfl
    have e2 : ((w : Nat) : Int).tdiv 2 = ((w / 2 : Nat) : Int) := rfl
    have w1 : IntKind.u32.wrap ((w % 2 : Nat) : Int) = ((w % 2 : Nat) : Int) := w32 (by omega)
    have w2 : IntKind.u32.wrap ((w / 2 : Nat) : Int) = ((w / 2 : Nat) : Int) := w32 (by omega)
    have w3 : IntKind.u32.wrap (((w % 2 : Nat) : Int) + 1) = ((w % 2 + 1 : Nat) : Int) := (w32 (x := w % 2 + 1) (by omega))
    have l1 : ((([48, 49] : List UInt8).drop (w % 2)).take (w % 2 + 1 - w % 2)) = [ch (decide (w % 2 = 1))] := by
      rcases Nat.mod_two_eq_zero_or_one w with q | q <;> rw [q] <;> rfl
    have l2 : (([48, 49] : List UInt8).length) = 2 := rfl
    have l3 : ([ch (decide (w % 2 = 1))] ++ bsT t).length = t.length + 1 := by simp [bsT]
    have l1 : ((([false, true] : List Bool).drop (w % 2)).take (w % 2 + 1 - w % 2)) = [decide (w % 2 = 1)] := by
      rcases Nat.mod_two_eq_zero_or_one w with q | q <;> rw [q] <;> rfl
    have l4 : [decide (w % 2 = 1)].length + t.length ≤ 1000000000 := by simp; omega
    have s1 := fun {β : Type} (kk : Value → M β) => zbwi (β := β) [false, true] .u32 .u32 ((w % 2 : Nat) : Int) ((w % 2 + 1 : Nat) : Int) kk (by omega) (by omega) (by show _ ≤ (2 : Int); omega)
    try simp (disch := first | omega | assumption | exact zaae _ _ | exact zaab _ _ _ | exact zaaf _ | exact zaad _ | exact zaaa _) only [Nat.reduceAdd, Nat.reduceLT, RZ, c1, e1, e2, w1, w2, w3, tx_01, s1, l1, zbcg _ _ l4]
    refine next (w / 2, decide (w % 2 = 1) :: t) _ _ ⟨⟨rfl, rfl⟩, by show w / 2 < _; omega, by show t.length + 1 = _; omega, ?_⟩
    rw [e]
    obtain ⟨r, hr⟩ : ∃ r, k - i = r + 1 := ⟨k - i - 1, by omega⟩
    rw [hr, show k - (i + 1) = r by omega]
    show (fieldB (w / 2) r ++ [decide (w % 2 = 1)]) ++ t = fieldB (w / 2) r ++ (decide (w % 2 = 1) :: t)
    simp
theorem zcjd {S : List UInt8} (hs : S.length ≤ 100000) (hlf : S.length < lf) (hl2 : 100 ≤ lf) : Run (fun _ => False) n (zaac Tryz.prog gt lf (d + 2) 26 #[.string ⟨S.toArray⟩]) h n fun v' h' n' => v' = tx (bitsS S) ∧ h' = h ∧ n' = n := by
  rw [zbip]
  refine Run.inside_ ?_
  unfold zawc
  refine zafq S.length (fun fu i (_ : Unit) => zahh lf (d + 1) fu (zakf lf (d + 1)) (.string ⟨S.toArray⟩) (.string { data := #[] }) (tx (bitsS (S.take i))) (.int .i64 (i : Nat))) (fun i _ h' n' => h' = h ∧ n' = n) ?_ ?_ lf 0 () h n (Nat.zero_le _) (by omega) ⟨rfl, rfl⟩
  · rintro fu _ h' n' ⟨rfl, rfl⟩
    rw [zapg]
    try simp (disch := first | omega | assumption | exact zaae _ _ | exact zaab _ _ _ | exact zaaf _ | exact zaad _ | exact zaaa _) only [Nat.reduceAdd, Nat.reduceLT, RZ, Int.lt_irrefl]
    rw [zbdj]
    try simp (disch := first | omega | assumption | exact zaae _ _ | exact zaab _ _ _ | exact zaaf _ | exact zaad _ | exact zaaa _) only [Nat.reduceAdd, Nat.reduceLT, RZ]
    rw [List.take_length]
  · rintro fu i _ h' n' hi ⟨rfl, rfl⟩ next
    rw [zapg]
    have c1 : ((i : Nat) : Int) < ((S.length : Nat) : Int) := by omega
    obtain ⟨b, hb⟩ : ∃ b, S.getD i 0 = b := ⟨_, rfl⟩
    have hb2 := b.toNat_lt
    have w1 : IntKind.u32.wrap ((b.toNat : Nat) : Int) = ((b.toNat : Nat) : Int) := w32 (by omega)
    try simp (disch := first | omega | assumption | exact zaae _ _ | exact zaab _ _ _ | exact zaaf _ | exact zaad _ | exact zaaa _) only [Nat.reduceAdd, Nat.reduceLT, RZ, c1, hb, w1]
    refine zaaw (zchy (lf := lf) (d := d) b.toNat 8 (by omega) (by omega) hl2) (Nat.le_refl _) (fun _ _ h => h.elim) ?_
    have l1 : (bitsS (S.take i)).length + (fieldB b.toNat 8).length ≤ 1000000000 := by
      rw [zapf, zabh, List.length_take]; omega
    try simp (disch := first | omega | assumption | exact zaae _ _ | exact zaab _ _ _ | exact zaaf _ | exact zaad _ | exact zaaa _) only [Nat.reduceAdd, Nat.reduceLT, RZ, zbcg _ _ l1]
    have e : bitsS (S.take (i + 1)) = bitsS (S.take i) ++ fieldB b.toNat 8 := by
      rw [List.take_succ_eq_append_getElem hi, zbpy]
      have : S[i] = b := by rw [← hb, List.getD_eq_getElem?_getD, List.getElem?_eq_getElem hi]; rfl
      rw [this]
      show _ ++ (fieldB b.toNat 8 ++ []) = _
      rw [List.append_nil]
    have := next () h' n' ⟨rfl, rfl⟩
    rw [e] at this
    exact this
theorem s_num (l : List Bool) (hl : l.length ≤ 31) (hlf : 100 ≤ lf) : Run (fun _ => False) n (zaac Tryz.prog gt lf (d + 1) 86 #[tx l]) h n fun v' h' n' => v' = .int .u32 (num l 0 : Int) ∧ h' = h ∧ n' = n := by
  rw [zbef]
  refine Run.inside_ ?_
  unfold zarq
  refine zafq l.length (fun fu i (_ : Unit) => zafn lf d fu (zait lf d) (tx l) (.int .u32 0) (.int .u32 (num (l.take i) 0 : Int)) (.int .i64 (i : Nat))) (fun i _ h' n' => h' = h ∧ n' = n) ?_ ?_ lf 0 () h n (Nat.zero_le _) (by omega) ⟨rfl, rfl⟩
  · rintro fu _ h' n' ⟨rfl, rfl⟩
    rw [zamy]
    try simp (disch := first | omega | assumption | exact zaae _ _ | exact zaab _ _ _ | exact zaaf _ | exact zaad _ | exact zaaa _) only [Nat.reduceAdd, Nat.reduceLT, RZ, zacs, Int.lt_irrefl]
    rw [zbat]
    try simp (disch := first | omega | assumption | exact zaae _ _ | exact zaab _ _ _ | exact zaaf _ | exact zaad _ | exact zaaa _) only [Nat.reduceAdd, Nat.reduceLT, RZ]
    rw [List.take_length]
  · rintro fu i _ h' n' hi ⟨rfl, rfl⟩ next
    rw [zamy]
    have c1 : ((i : Nat) : Int) < ((l.length : Nat) : Int) := by omega
    obtain ⟨b, hb⟩ : ∃ b, l.getD i false = b := ⟨_, rfl⟩
    have bl := bn_lt b
    have nl := zagu (l.take i)
    have n2 : num (l.take i) 0 < 2147483648 := Nat.lt_of_lt_of_le nl (by
      have : 2 ^ (l.take i).length ≤ 2 ^ 31 := Nat.pow_le_pow_right (by decide) (by rw [List.length_take]; omega)
      exact this)
    have w0 : IntKind.u8.wrap (48 + (bn b : Int) - 48) = (bn b : Int) := by
      rw [show (48 + (bn b : Int) - 48) = (bn b : Int) by omega]; exact w8 (by omega)
    have w1 : IntKind.u32.wrap ((bn b : Nat) : Int) = (bn b : Int) := w32 (by omega)
    have w2 : IntKind.u32.wrap (2 * ((num (l.take i) 0 : Nat) : Int)) = ((2 * num (l.take i) 0 : Nat) : Int) := by
      rw [show (2 * ((num (l.take i) 0 : Nat) : Int)) = ((2 * num (l.take i) 0 : Nat) : Int) by omega]; exact w32 (by omega)
    have w3 : IntKind.u32.wrap (((2 * num (l.take i) 0 : Nat) : Int) + (bn b : Int)) = ((2 * num (l.take i) 0 + bn b : Nat) : Int) := by
      rw [show (((2 * num (l.take i) 0 : Nat) : Int) + (bn b : Int)) = ((2 * num (l.take i) 0 + bn b : Nat) : Int) by omega]; exact w32 (by omega)
    try simp (disch := first | omega | assumption | exact zaae _ _ | exact zaab _ _ _ | exact zaaf _ | exact zaad _ | exact zaaa _) only [Nat.reduceAdd, Nat.reduceLT, RZ, zacs, zbcq, c1, hb, w0, w1, w2, w3]
    have e : num (l.take (i + 1)) 0 = 2 * num (l.take i) 0 + bn b := by
      rw [List.take_succ_eq_append_getElem hi, zbde]
      have : l[i] = b := by rw [← hb, List.getD_eq_getElem?_getD, List.getElem?_eq_getElem hi]; rfl
      rw [this]
    have := next () h' n' ⟨rfl, rfl⟩
    rw [e] at this
    exact this
def onesL : List Bool → Nat
  | true :: l => onesL l + 1
  | _ => 0
theorem zbwc : ∀ l : List Bool, onesL l ≤ l.length
  | [] => Nat.le_refl _
  | false :: l => Nat.zero_le _
  | true :: l => by have := zbwc l; show onesL l + 1 ≤ l.length + 1; omega
theorem zcje (l : List Bool) (hl : l.length < lf) (hs : l.length ≤ 1000000000) : Run (fun _ => False) n (zaac Tryz.prog gt lf (d + 1) 87 #[tx l]) h n fun v' h' n' => v' = .int .i64 (onesL l : Int) ∧ h' = h ∧ n' = n := by
  rw [zbhu]
  refine Run.inside_ ?_
  unfold zawf
  have key : ∀ (r : Nat) (i fu : Nat), l.length - i = r → r < fu → i ≤ l.length → onesL l = i + onesL (l.drop i) → Run (fun _ => False) n (zahb lf d fu (zakk lf d) (tx l) (.int .i64 0) (.int .i64 (i : Nat))) h n fun v' h' n' => v' = .int .i64 (onesL l : Int) ∧ h' = h ∧ n' = n := by
    intro r
    induction r with
    | zero =>
      intro i fu hr hf hi e
      obtain ⟨fu, rfl⟩ : ∃ f, fu = f + 1 := ⟨fu - 1, by omega⟩
      obtain rfl : i = l.length := by omega
      rw [zapj]
      try simp (disch := first | omega | assumption | exact zaae _ _ | exact zaab _ _ _ | exact zaaf _ | exact zaad _ | exact zaaa _) only [Nat.reduceAdd, Nat.reduceLT, RZ, zacs, Int.lt_irrefl]
      rw [zapt]
      try simp (disch := first | omega | assumption | exact zaae _ _ | exact zaab _ _ _ | exact zaaf _ | exact zaad _ | exact zaaa _) only [Nat.reduceAdd, Nat.reduceLT, RZ]
      rw [e, List.drop_length]
      rfl
    | succ r ih =>
      intro i fu hr hf hi e
      obtain ⟨fu, rfl⟩ : ∃ f, fu = f + 1 := ⟨fu - 1, by omega⟩
      have hi2 : i < l.length := by omega
      have c1 : ((i : Nat) : Int) < ((l.length : Nat) : Int) := by omega
      have hdr : l.drop i = l[i] :: l.drop (i + 1) := List.drop_eq_getElem_cons hi2
      have hget : l.getD i false = l[i] := by rw [List.getD_eq_getElem?_getD, List.getElem?_eq_getElem hi2]; rfl
      rw [zapj]
      cases hb : l[i] with
      | true =>
        have e1 : (48 + ((bn true : Nat) : Int) == 49) = true := rfl
        try simp (disch := first | omega | assumption | exact zaae _ _ | exact zaab _ _ _ | exact zaaf _ | exact zaad _ | exact zaaa _) only [Nat.reduceAdd, Nat.reduceLT, RZ, zacs, zbcq, c1, hget, hb, e1]
        exact ih (i + 1) fu (by omega) (by omega) (by omega) (by rw [e, hdr, hb]; show i + (onesL _ + 1) = _; omega)
      | false =>
        have e1 : (48 + ((bn false : Nat) : Int) == 49) = false := rfl
        try simp (disch := first | omega | assumption | exact zaae _ _ | exact zaab _ _ _ | exact zaaf _ | exact zaad _ | exact zaaa _) only [Nat.reduceAdd, Nat.reduceLT, RZ, zacs, zbcq, c1, hget, hb, e1]
        rw [zapt]
        try simp (disch := first | omega | assumption | exact zaae _ _ | exact zaab _ _ _ | exact zaaf _ | exact zaad _ | exact zaaa _) only [Nat.reduceAdd, Nat.reduceLT, RZ]
        rw [e, hdr, hb]
        rfl
  exact key l.length 0 lf (by omega) hl (Nat.zero_le _) (by rw [Nat.zero_add]; rfl)
end
end Go.Proofs.YtdagfcflbphoiaaGreatDoor

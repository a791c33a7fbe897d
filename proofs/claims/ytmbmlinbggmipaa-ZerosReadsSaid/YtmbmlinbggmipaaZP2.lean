/- Plain laws of rows of zeros: the two readers tell the same; decoding what was encoded; encoding what was decoded. No program in sight. -/
import Derived.Test.YtmbmlinbggmipaaZP
namespace Go.Proofs.Ytmbmlinbggmipaa.Zp
set_option linter.unusedVariables false
set_option linter.unusedSimpArgs false

theorem le_mul1 (w k : Int) (hw : 1 ≤ w) (hk : 1 ≤ k) : w ≤ w * k := by
  have := Int.mul_le_mul_of_nonneg_left hk (show 0 ≤ w by omega)
  omega
theorem one_le_two_pow (n : Nat) : 1 ≤ (2 : Int) ^ n := by
  induction n with
  | zero => simp
  | succ n ih => rw [Int.pow_succ]; omega
/-- what codes 0 and 1 stand for, of whatever size -/
def valX : List Int → Int
  | [] => 0
  | c :: cs => 1 + c + 2 * valX cs
theorem valX_rowN (m : Nat) : valX (rowN m) = m := by
  induction m using Nat.strongRecOn with
  | _ m ih =>
    by_cases h0 : m = 0
    · subst h0; rfl
    · by_cases h : m % 2 = 1
      · rw [rowN_odd m h]; simp only [valX]; rw [ih ((m - 1) / 2) (by omega)]; omega
      · rw [rowN_even m h0 (by omega)]; simp only [valX]; rw [ih ((m - 2) / 2) (by omega)]; omega
theorem valX_nonneg : ∀ l : List Int, (∀ c ∈ l, 0 ≤ c ∧ c ≤ 1) → 0 ≤ valX l
  | [], _ => by simp [valX]
  | c :: cs, h => by
    have := valX_nonneg cs (fun x hx => h x (by simp [hx]))
    have := h c (by simp)
    simp only [valX]; omega
theorem rowN_valX : ∀ l : List Int, (∀ c ∈ l, 0 ≤ c ∧ c ≤ 1) → rowN (valX l).toNat = l
  | [], _ => rfl
  | c :: cs, h => by
    have ih := rowN_valX cs (fun x hx => h x (by simp [hx]))
    have h0 := valX_nonneg cs (fun x hx => h x (by simp [hx]))
    have hc := h c (by simp)
    have hcc : c = 0 ∨ c = 1 := by omega
    simp only [valX]
    rcases hcc with rfl | rfl
    · rw [rowN_odd _ (by omega), show ((1 + 0 + 2 * valX cs).toNat - 1) / 2 = (valX cs).toNat by omega, ih]
    · rw [rowN_even _ (by omega) (by omega), show ((1 + 1 + 2 * valX cs).toNat - 2) / 2 = (valX cs).toNat by omega, ih]
theorem valFrom_or : ∀ (l : List Int) (m w : Int), valFrom m w l = 2199023255552 ∨ valFrom m w l = m + w * valX l
  | [], m, w => by right; simp [valFrom, valX]
  | c :: cs, m, w => by
    simp only [valFrom]
    split
    · left; rfl
    · rcases valFrom_or cs (m + w + c * w) (2 * w) with h | h
      · left; exact h
      · right; rw [h]; simp only [valX]
        rw [Int.mul_add, Int.mul_add, Int.mul_one, Int.mul_comm c w, Int.mul_comm 2 w, Int.mul_assoc, ]
        omega
theorem valN_exact (l : List Int) (h : valN l ≤ 1099511627776) : valN l = valX l := by
  rcases valFrom_or l 0 1 with h1 | h1
  · unfold valN at h; omega
  · unfold valN; rw [h1]; omega
theorem valFrom_row (n : Nat) : ∀ m w : Int, 1 ≤ w → w * n ≤ 1099511627776 → valFrom m w (rowN n) = m + w * n := by
  induction n using Nat.strongRecOn with
  | _ n ih =>
    intro m w hw hb
    by_cases h0 : n = 0
    · subst h0; simp [rowN_zero, valFrom]
    · have hle : w ≤ w * n := le_mul1 _ _ (by omega) (by omega)
      by_cases h : n % 2 = 1
      · have e : (n : Int) = 1 + 2 * (((n - 1) / 2 : Nat) : Int) := by omega
        have e2 : w * n = w + 2 * w * (((n - 1) / 2 : Nat) : Int) := by rw [e, Int.mul_add, Int.mul_one, Int.mul_comm 2 w, Int.mul_assoc]
        rw [rowN_odd n h, valFrom, if_neg (by omega), ih ((n - 1) / 2) (by omega) _ _ (by omega) (by omega)]
        omega
      · have e : (n : Int) = 2 + 2 * (((n - 2) / 2 : Nat) : Int) := by omega
        have e2 : w * n = 2 * w + 2 * w * (((n - 2) / 2 : Nat) : Int) := by rw [e, Int.mul_add, Int.mul_comm 2 w, Int.mul_assoc, Int.mul_comm w 2]
        rw [rowN_even n h0 (by omega), valFrom, if_neg (by omega), ih ((n - 2) / 2) (by omega) _ _ (by omega) (by omega)]
        omega
theorem valN_rowN (m : Nat) (h : m ≤ 1099511627776) : valN (rowN m) = m := by
  unfold valN; rw [valFrom_row m 0 1 (by omega) (by omega)]; omega
theorem rowN_codes (m : Nat) : ∀ c ∈ rowN m, 0 ≤ c ∧ c ≤ 1 := by
  induction m using Nat.strongRecOn with
  | _ m ih =>
    intro c hc
    by_cases h0 : m = 0
    · subst h0; simp [rowN_zero] at hc
    · by_cases h : m % 2 = 1
      · rw [rowN_odd m h] at hc
        rcases List.mem_cons.1 hc with rfl | hc
        · omega
        · exact ih _ (by omega) c hc
      · rw [rowN_even m h0 (by omega)] at hc
        rcases List.mem_cons.1 hc with rfl | hc
        · omega
        · exact ih _ (by omega) c hc

theorem valFrom_append : ∀ (l l2 : List Int) (m w : Int), 1 ≤ w → w * 2 ^ l.length ≤ 2199023255552 → valFrom m w (l ++ l2) = valFrom (m + w * valX l) (w * 2 ^ l.length) l2
  | [], l2, m, w, _, _ => by simp [valX]
  | c :: cs, l2, m, w, hw, hb => by
    have e : w * 2 ^ (c :: cs).length = 2 * w * 2 ^ cs.length := by
      rw [List.length_cons, Int.pow_succ, Int.mul_comm (2 ^ cs.length) 2, ← Int.mul_assoc, Int.mul_comm w 2]
    rw [e] at hb
    have hp : 1 ≤ (2 : Int) ^ cs.length := one_le_two_pow _
    have hle : 2 * w ≤ 2 * w * 2 ^ cs.length := le_mul1 _ _ (by omega) hp
    rw [List.cons_append, valFrom, if_neg (by omega), valFrom_append cs l2 _ _ (by omega) hb, e]
    congr 1
    simp only [valX]
    rw [Int.mul_add, Int.mul_add, Int.mul_one, Int.mul_comm c w, Int.mul_comm 2 w, Int.mul_assoc]
    omega
theorem valN_snoc (row : List Int) (c : Int) (h : (2 : Int) ^ row.length ≤ 2199023255552) : valN (row ++ [c]) = valX row + 2 ^ row.length * (1 + c) ∧ valN row = valX row := by
  have h1 := valFrom_append row [c] 0 1 (by omega) (by omega)
  have h2 := valFrom_append row [] 0 1 (by omega) (by omega)
  constructor
  · unfold valN
    rw [h1]
    simp only [valFrom]
    rw [if_neg (by omega), Int.mul_add, Int.mul_comm c, Int.mul_one]
    simp only [Int.one_mul]
    omega
  · unfold valN
    rw [List.append_nil] at h2
    rw [h2]
    simp only [valFrom]
    omega

section
variable (r : RS) (q : RR) (c : Int)
theorem putS_done (h : r.done = true) : putS r c = (r, 0, 0, 7) := by unfold putS; rw [if_pos h]
theorem putS_bad (h : r.done = false) (hc : c < 0 ∨ r.n + 1 < c) : putS r c = (r, 0, 0, 25) := by unfold putS; rw [if_neg (by simp [h]), if_pos hc]
theorem putS_long (h : r.done = false) (h0 : 0 ≤ c) (h1 : c ≤ 1) (hn : 1 ≤ r.n) (hg : r.most - (r.told + r.zeros) < r.weight * (1 + c)) : putS r c = (r, 0, 0, 2) := by
  unfold putS moreS; rw [if_neg (by simp [h]), if_neg (by omega), if_pos h1, if_pos hg, if_neg (by simp)]
theorem putS_row (h : r.done = false) (h0 : 0 ≤ c) (h1 : c ≤ 1) (hn : 1 ≤ r.n) (hg : ¬ r.most - (r.told + r.zeros) < r.weight * (1 + c)) : putS r c = ({ r with zeros := r.zeros + r.weight * (1 + c), weight := r.weight * 2 }, 0, -1, 0) := by
  unfold putS moreS; rw [if_neg (by simp [h]), if_neg (by omega), if_pos h1, if_neg hg, if_pos rfl]
theorem putS_end (h : r.done = false) (hn : 1 ≤ r.n) (hc : c = r.n + 1) : putS r c = ({ r with told := r.told + r.zeros, zeros := 0, weight := 1, done := true }, r.zeros, -1, 0) := by
  unfold putS; rw [if_neg (by simp [h]), if_neg (by omega), if_neg (by omega), if_pos hc]
theorem putS_full (h : r.done = false) (h0 : 2 ≤ c) (h1 : c ≤ r.n) (hf : r.told + r.zeros = r.most) : putS r c = (r, 0, 0, 2) := by
  unfold putS; rw [if_neg (by simp [h]), if_neg (by omega), if_neg (by omega), if_neg (by omega), if_pos hf]
theorem putS_place (h : r.done = false) (h0 : 2 ≤ c) (h1 : c ≤ r.n) (hf : ¬ r.told + r.zeros = r.most) : putS r c = ({ r with told := r.told + 1 + r.zeros, zeros := 0, weight := 1 }, r.zeros, c - 1, 0) := by
  unfold putS; rw [if_neg (by simp [h]), if_neg (by omega), if_neg (by omega), if_neg (by omega), if_neg hf]
theorem putR_done (h : q.done = true) : putR q c = (q, 0, 0, 7) := by unfold putR; rw [if_pos h]
theorem putR_bad (h : q.done = false) (hc : c < 0 ∨ q.n + 1 < c) : putR q c = (q, 0, 0, 25) := by unfold putR; rw [if_neg (by simp [h]), if_pos hc]
theorem putR_long (h : q.done = false) (h0 : 0 ≤ c) (h1 : c ≤ 1) (hn : 1 ≤ q.n) (hg : q.most < q.told + valN (q.row ++ [c])) : putR q c = (q, 0, 0, 2) := by
  unfold putR; rw [if_neg (by simp [h]), if_neg (by omega), if_pos (by omega), if_pos hg]
theorem putR_row (h : q.done = false) (h0 : 0 ≤ c) (h1 : c ≤ 1) (hn : 1 ≤ q.n) (hg : ¬ q.most < q.told + valN (q.row ++ [c])) : putR q c = ({ q with row := q.row ++ [c] }, 0, -1, 0) := by
  unfold putR; rw [if_neg (by simp [h]), if_neg (by omega), if_pos (by omega), if_neg hg]
theorem putR_end (h : q.done = false) (hn : 1 ≤ q.n) (hc : c = q.n + 1) : putR q c = ({ q with told := q.told + valN q.row, row := [], done := true }, valN q.row, -1, 0) := by
  unfold putR; rw [if_neg (by simp [h]), if_neg (by omega), if_neg (by omega), if_pos hc]
theorem putR_full (h : q.done = false) (h0 : 2 ≤ c) (h1 : c ≤ q.n) (hf : q.most < q.told + valN q.row + 1) : putR q c = (q, 0, 0, 2) := by
  unfold putR; rw [if_neg (by simp [h]), if_neg (by omega), if_neg (by omega), if_neg (by omega), if_pos hf]
theorem putR_place (h : q.done = false) (h0 : 2 ≤ c) (h1 : c ≤ q.n) (hf : ¬ q.most < q.told + valN q.row + 1) : putR q c = ({ q with told := q.told + valN q.row + 1, row := [] }, valN q.row, c - 1, 0) := by
  unfold putR; rw [if_neg (by simp [h]), if_neg (by omega), if_neg (by omega), if_neg (by omega), if_neg hf]
end

theorem valX_snoc (c : Int) : ∀ row : List Int, valX (row ++ [c]) = valX row + 2 ^ row.length * (1 + c)
  | [] => by simp [valX]
  | a :: l => by
    simp only [List.cons_append, valX, valX_snoc c l, List.length_cons, Int.pow_succ]
    rw [Int.mul_add, ← Int.mul_assoc, Int.mul_comm 2 (2 ^ l.length)]
    omega

/-- the two readers in the same state -/
structure Sim (r : RS) (q : RR) : Prop where
  n : r.n = q.n
  most : r.most = q.most
  told : r.told = q.told
  done : r.done = q.done
  zeros : r.zeros = valX q.row
  weight : r.weight = 2 ^ q.row.length

theorem Sim.put {r : RS} {q : RR} (h : Sim r q) (hr : r.Ok) (c : Int) : Sim (putS r c).1 (putR q c).1 ∧ (putS r c).2 = (putR q c).2 := by
  have h0 := h
  obtain ⟨h1, h2, h3, h4, h5, h6⟩ := h
  have hw : (2 : Int) ^ q.row.length ≤ 2199023255552 := by rw [← h6]; exact hr.weight1
  have hsum := hr.sum
  have hn := hr.n0
  have hn2 : 1 ≤ q.n := by omega
  obtain ⟨hv1, hv2⟩ := valN_snoc q.row c hw
  rw [← h5] at hv1 hv2
  rw [← h6] at hv1
  cases hd : r.done with
  | true =>
    rw [putS_done r c hd, putR_done q c (by rw [← h4, hd])]
    exact ⟨h0, rfl⟩
  | false =>
    have hd2 : q.done = false := by rw [← h4, hd]
    by_cases hc : c < 0 ∨ r.n + 1 < c
    · rw [putS_bad r c hd hc, putR_bad q c hd2 (by omega)]
      exact ⟨h0, rfl⟩
    · by_cases hc1 : c ≤ 1
      · by_cases hg : r.most - (r.told + r.zeros) < r.weight * (1 + c)
        · rw [putS_long r c hd (by omega) hc1 hn hg, putR_long q c hd2 (by omega) hc1 hn2 (by rw [hv1]; omega)]
          exact ⟨h0, rfl⟩
        · rw [putS_row r c hd (by omega) hc1 hn hg, putR_row q c hd2 (by omega) hc1 hn2 (by rw [hv1]; omega)]
          refine ⟨⟨h1, h2, h3, by simp only; rw [hd, hd2], ?_, ?_⟩, rfl⟩
          · simp only; rw [valX_snoc, ← h5, ← h6]
          · simp only [List.length_append, List.length_singleton, Int.pow_succ]; rw [h6]
      · by_cases he : c = r.n + 1
        · rw [putS_end r c hd hn he, putR_end q c hd2 hn2 (by omega), hv2]
          exact ⟨⟨h1, h2, by simp only; omega, rfl, rfl, rfl⟩, rfl⟩
        · by_cases hf : r.told + r.zeros = r.most
          · rw [putS_full r c hd (by omega) (by omega) hf, putR_full q c hd2 (by omega) (by omega) (by rw [hv2]; omega)]
            exact ⟨h0, rfl⟩
          · rw [putS_place r c hd (by omega) (by omega) hf, putR_place q c hd2 (by omega) (by omega) (by rw [hv2]; omega), hv2]
            exact ⟨⟨h1, h2, by simp only; omega, by simp only; rw [hd, hd2], rfl, rfl⟩, rfl⟩

theorem putS_places (r : RS) (c : Int) (hr : r.Ok) : (putS r c).2.2.2 = 0 → (putS r c).2.2.1 = -1 ∨ 0 ≤ (putS r c).2.2.1 := by
  have hn := hr.n0
  cases hd : r.done with
  | true => rw [putS_done r c hd]; simp
  | false =>
    by_cases hc : c < 0 ∨ r.n + 1 < c
    · rw [putS_bad r c hd hc]; simp
    · by_cases hc1 : c ≤ 1
      · by_cases hg : r.most - (r.told + r.zeros) < r.weight * (1 + c)
        · rw [putS_long r c hd (by omega) hc1 hn hg]; simp
        · rw [putS_row r c hd (by omega) hc1 hn hg]; simp
      · by_cases he : c = r.n + 1
        · rw [putS_end r c hd hn he]; simp
        · by_cases hf : r.told + r.zeros = r.most
          · rw [putS_full r c hd (by omega) (by omega) hf]; simp
          · rw [putS_place r c hd (by omega) (by omega) hf]; intro _; right; simp only; omega

theorem Sim.dec : ∀ (l : List Int) {r : RS} {q : RR} (out : List Int), Sim r q → r.Ok → decGo l r out = decRGo l q out
  | [], r, q, out, h, hr => by simp only [decGo, decRGo, h.done]
  | c :: cs, r, q, out, h, hr => by
    have hp := h.put hr c
    have ho := putS_ok r c hr
    have hpl := putS_places r c hr
    have ih := fun o => Sim.dec cs o hp.1 ho.1
    simp only [decGo, decRGo]
    rw [← hp.2]
    generalize (putS r c).2 = q2 at *
    obtain ⟨z, p, er⟩ := q2
    dsimp only at *
    by_cases h0 : er = 0
    · subst h0
      rw [if_pos rfl, if_neg (show ¬ (0 : Int) = 7 by decide), if_neg (show ¬ (0 : Int) ≠ 0 by simp), ← ih]
      rcases hpl rfl with hpl | hpl
      · rw [if_pos hpl, if_neg (show ¬ 0 ≤ p by omega), List.append_nil]
      · rw [if_neg (show ¬ p = -1 by omega), if_pos hpl]
    · rw [if_neg h0]
      by_cases h7 : er = 7
      · rw [if_pos h7, if_pos h7]
      · rw [if_neg h7, if_neg h7, if_pos h0]

theorem Sim.start (n most : Int) : Sim ⟨n, most, 0, 0, 1, false⟩ ⟨n, most, 0, [], false⟩ := ⟨rfl, rfl, rfl, rfl, rfl, rfl⟩
theorem decN_eq (l : List Int) (n most : Int) : decN l n most = decRN l n most := by
  unfold decN decRN
  split
  · rename_i h
    exact Sim.dec l [] (Sim.start n most) (.start n most h.1 h.2.1 h.2.2.1 h.2.2.2)
  · rfl

end Go.Proofs.Ytmbmlinbggmipaa.Zp

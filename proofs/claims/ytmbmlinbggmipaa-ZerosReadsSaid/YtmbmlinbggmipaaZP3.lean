/- Plain laws of rows of zeros: decoding what was encoded, and encoding what was decoded. No program in sight. -/
import Derived.Test.YtmbmlinbggmipaaZP2
namespace Go.Proofs.Ytmbmlinbggmipaa.Zp
set_option linter.unusedVariables false
set_option linter.unusedSimpArgs false

/-- the codes of what is left, where so many places 0 have come -/
def encT (n : Int) : List Int → Nat → List Int
  | [], z => rowN z ++ [n + 1]
  | p :: ps, z => if p = 0 then encT n ps (z + 1) else rowN z ++ (p + 1) :: encT n ps 0
theorem encGo_T (n : Int) : ∀ (l : List Int) (z : Nat) (out : List Int), (∀ p ∈ l, 0 ≤ p ∧ p < n) → encGo n l z out = .ok (out ++ encT n l z)
  | [], z, out, _ => by simp [encGo, encT]
  | p :: ps, z, out, h => by
    have hp := h p (by simp)
    have ih := fun z out => encGo_T n ps z out (fun x hx => h x (by simp [hx]))
    simp only [encGo, encT]
    rw [if_neg (by omega)]
    split
    · exact ih _ _
    · rw [ih]; simp
theorem encGo_err (n : Int) : ∀ (l : List Int) (z : Nat) (out : List Int), ¬ (∀ p ∈ l, 0 ≤ p ∧ p < n) → encGo n l z out = .error 1
  | [], z, out, h => absurd (by simp) h
  | p :: ps, z, out, h => by
    simp only [encGo]
    by_cases hp : p < 0 ∨ n ≤ p
    · rw [if_pos hp]
    · rw [if_neg hp]
      have h' : ¬ ∀ x ∈ ps, 0 ≤ x ∧ x < n := fun h2 => h (fun x hx => by
        rcases List.mem_cons.1 hx with rfl | hx
        · omega
        · exact h2 x hx)
      split
      · exact encGo_err n ps _ _ h'
      · exact encGo_err n ps _ _ h'

theorem decGo_none {r r' : RS} {c : Int} {cs out : List Int} {z : Int} (h : putS r c = (r', z, -1, 0)) : decGo (c :: cs) r out = decGo cs r' (out ++ List.replicate z.toNat 0) := by
  simp [decGo, h]
theorem decGo_some {r r' : RS} {c : Int} {cs out : List Int} {z p : Int} (h : putS r c = (r', z, p, 0)) (hp : p ≠ -1) : decGo (c :: cs) r out = decGo cs r' (out ++ List.replicate z.toNat 0 ++ [p]) := by
  simp [decGo, h, hp]
theorem decRGo_none {r r' : RR} {c : Int} {cs out : List Int} {z : Int} (h : putR r c = (r', z, -1, 0)) : decRGo (c :: cs) r out = decRGo cs r' (out ++ List.replicate z.toNat 0) := by
  simp [decRGo, h]
theorem decRGo_some {r r' : RR} {c : Int} {cs out : List Int} {z p : Int} (h : putR r c = (r', z, p, 0)) (hp : 0 ≤ p) : decRGo (c :: cs) r out = decRGo cs r' (out ++ List.replicate z.toNat 0 ++ [p]) := by
  simp [decRGo, h, hp]
theorem decRGo_err {r r' : RR} {c : Int} {cs out : List Int} {z p er : Int} (h : putR r c = (r', z, p, er)) (he : er ≠ 0) : ∃ x, decRGo (c :: cs) r out = .error x := by
  by_cases h7 : er = 7
  · exact ⟨25, by simp [decRGo, h, h7]⟩
  · exact ⟨er, by simp [decRGo, h, h7, he]⟩

/-- a row, fed -/
theorem feed_row (n most told : Int) (hn : 1 ≤ n) (m : Nat) : ∀ (zs wt : Int) (cs out : List Int), 1 ≤ wt → told + zs + wt * m ≤ most →
    ∃ wt', 1 ≤ wt' ∧ decGo (rowN m ++ cs) ⟨n, most, told, zs, wt, false⟩ out = decGo cs ⟨n, most, told, zs + wt * m, wt', false⟩ out := by
  induction m using Nat.strongRecOn with
  | _ m ih =>
    intro zs wt cs out hwt hb
    by_cases h0 : m = 0
    · subst h0
      refine ⟨wt, hwt, ?_⟩
      rw [rowN_zero]
      simp
    · by_cases h : m % 2 = 1
      · have e : (m : Int) = 1 + 2 * (((m - 1) / 2 : Nat) : Int) := by omega
        have e2 : wt * m = wt + 2 * wt * (((m - 1) / 2 : Nat) : Int) := by rw [e, Int.mul_add, Int.mul_one, Int.mul_comm 2 wt, Int.mul_assoc]
        have hnn : 0 ≤ 2 * wt * (((m - 1) / 2 : Nat) : Int) := Int.mul_nonneg (by omega) (by omega)
        have hp := putS_row ⟨n, most, told, zs, wt, false⟩ 0 rfl (by omega) (by omega) hn (by simp only; omega)
        rw [rowN_odd m h, List.cons_append, decGo_none hp]
        simp only [Int.toNat_zero, List.replicate_zero, List.append_nil]
        obtain ⟨wt', h1, h2⟩ := ih ((m - 1) / 2) (by omega) (zs + wt * (1 + 0)) (wt * 2) cs out (by omega) (by rw [Int.mul_comm wt 2]; omega)
        refine ⟨wt', h1, ?_⟩
        rw [h2]
        congr 2
        rw [Int.mul_comm wt 2]; omega
      · have e : (m : Int) = 2 + 2 * (((m - 2) / 2 : Nat) : Int) := by omega
        have e2 : wt * m = 2 * wt + 2 * wt * (((m - 2) / 2 : Nat) : Int) := by rw [e, Int.mul_add, Int.mul_comm 2 wt, Int.mul_assoc, Int.mul_comm wt 2]
        have hnn : 0 ≤ 2 * wt * (((m - 2) / 2 : Nat) : Int) := Int.mul_nonneg (by omega) (by omega)
        have hp := putS_row ⟨n, most, told, zs, wt, false⟩ 1 rfl (by omega) (by omega) hn (by simp only; omega)
        rw [rowN_even m h0 (by omega), List.cons_append, decGo_none hp]
        simp only [Int.toNat_zero, List.replicate_zero, List.append_nil]
        obtain ⟨wt', h1, h2⟩ := ih ((m - 2) / 2) (by omega) (zs + wt * (1 + 1)) (wt * 2) cs out (by omega) (by rw [Int.mul_comm wt 2]; omega)
        refine ⟨wt', h1, ?_⟩
        rw [h2]
        congr 2
        rw [Int.mul_comm wt 2]; omega

theorem rep_snoc (z : Nat) (l : List Int) : List.replicate z 0 ++ 0 :: l = List.replicate (z + 1) 0 ++ l := by
  rw [List.replicate_succ']; simp

/-- 7.4: what was encoded, decoded -/
theorem dec_enc (n most : Int) (hn : 1 ≤ n) : ∀ (l : List Int) (z : Nat) (told : Int) (out : List Int), (∀ p ∈ l, 0 ≤ p ∧ p < n) → told + z + l.length ≤ most →
    decGo (encT n l z) ⟨n, most, told, 0, 1, false⟩ out = .ok (out ++ List.replicate z 0 ++ l)
  | [], z, told, out, _, hb => by
    obtain ⟨wt', h1, h2⟩ := feed_row n most told hn z 0 1 [n + 1] out (by omega) (by simp at hb; omega)
    simp only [encT]
    rw [h2]
    have hp := putS_end ⟨n, most, told, 0 + 1 * (z : Int), wt', false⟩ (n + 1) rfl hn rfl
    rw [decGo_none hp]
    simp [decGo]
  | p :: ps, z, told, out, h, hb => by
    have hp := h p (by simp)
    have ih := fun z told out => dec_enc n most hn ps z told out (fun x hx => h x (by simp [hx]))
    simp only [encT]
    simp only [List.length_cons] at hb
    by_cases h0 : p = 0
    · subst h0
      rw [if_pos rfl, ih (z + 1) told out (by omega)]
      rw [List.append_assoc, List.append_assoc, rep_snoc]
    · rw [if_neg h0]
      obtain ⟨wt', h1, h2⟩ := feed_row n most told hn z 0 1 ((p + 1) :: encT n ps 0) out (by omega) (by omega)
      rw [h2]
      have hq := putS_place ⟨n, most, told, 0 + 1 * (z : Int), wt', false⟩ (p + 1) rfl (by omega) (by simp only; omega) (by simp only; omega)
      rw [decGo_some hq (by omega)]
      dsimp only
      have e1 : (0 + 1 * (z : Int)).toNat = z := by omega
      rw [e1, ih 0 _ _ (by omega)]
      simp

theorem back (l : List Int) (n : Int) (c : List Int) (h : encN l n = .ok c) : decN c n l.length = .ok l ∨ (1099511627776 : Int) < l.length := by
  unfold encN at h
  split at h
  · rename_i hn
    by_cases hv : ∀ p ∈ l, 0 ≤ p ∧ p < n
    · rw [encGo_T n l 0 [] hv] at h
      cases h
      by_cases hl : (1099511627776 : Int) < l.length
      · exact .inr hl
      · left
        unfold decN
        rw [if_pos (by omega)]
        have := dec_enc n l.length hn.1 l 0 0 [] hv (by omega)
        simpa using this
    · rw [encGo_err n l 0 [] hv] at h; cases h
  · cases h

theorem encT_zeros (n : Int) : ∀ (k z : Nat) (l : List Int), encT n (List.replicate k 0 ++ l) z = encT n l (z + k)
  | 0, z, l => by simp
  | k + 1, z, l => by
    rw [List.replicate_succ, List.cons_append, encT, if_pos rfl, encT_zeros n k]
    congr 1; omega

/-- 7.3, 7.4: what was decoded, encoded -/
theorem enc_dec (n most : Int) (hn : 1 ≤ n) (hm : most ≤ 1099511627776) : ∀ (cs : List Int) (q : RR) (out p : List Int), q.done = false → q.n = n → q.most = most → 0 ≤ q.told → (∀ c ∈ q.row, 0 ≤ c ∧ c ≤ 1) → q.told + valN q.row ≤ most →
    decRGo cs q out = .ok p → ∃ rest, p = out ++ rest ∧ (∀ x ∈ rest, 0 ≤ x ∧ x < n) ∧ encT n rest 0 = q.row ++ cs
  | [], q, out, p, hd, _, _, _, _, _, h => by simp [decRGo, hd] at h
  | c :: cs, q, out, p, hd, hqn, hqm, hq0, hcodes, hsum, h => by
    have hv := valN_range q.row hcodes
    have hx : valN q.row = valX q.row := valN_exact q.row (by omega)
    have hrow : rowN (valN q.row).toNat = q.row := by rw [hx]; exact rowN_valX q.row hcodes
    by_cases hc : c < 0 ∨ q.n + 1 < c
    · obtain ⟨x, hx⟩ := decRGo_err (cs := cs) (out := out) (putR_bad q c hd hc) (by decide)
      rw [hx] at h; cases h
    · by_cases hc1 : c ≤ 1
      · by_cases hg : q.most < q.told + valN (q.row ++ [c])
        · obtain ⟨x, hx⟩ := decRGo_err (cs := cs) (out := out) (putR_long q c hd (by omega) hc1 (by omega) hg) (by decide)
          rw [hx] at h; cases h
        · rw [decRGo_none (putR_row q c hd (by omega) hc1 (by omega) hg)] at h
          simp only [Int.toNat_zero, List.replicate_zero, List.append_nil] at h
          obtain ⟨rest, h1, h2, h3⟩ := enc_dec n most hn hm cs { q with row := q.row ++ [c] } out p hd hqn hqm hq0 (fun x hx => by
            rcases List.mem_append.1 hx with hx | hx
            · exact hcodes x hx
            · simp at hx; omega) (by simp only; omega) h
          exact ⟨rest, h1, h2, by rw [h3]; simp⟩
      · by_cases he : c = q.n + 1
        · rw [decRGo_none (putR_end q c hd (by omega) he)] at h
          cases cs with
          | nil =>
            simp [decRGo] at h
            refine ⟨List.replicate (valN q.row).toNat 0, h.symm, fun x hx => ?_, ?_⟩
            · have := List.eq_of_mem_replicate hx; omega
            · have := encT_zeros n (valN q.row).toNat 0 []
              rw [List.append_nil, Nat.zero_add] at this
              rw [this, encT, hrow, he, hqn]
          | cons d ds =>
            obtain ⟨x, hx⟩ := decRGo_err (r := { q with told := q.told + valN q.row, row := [], done := true }) (cs := ds) (out := out ++ List.replicate (valN q.row).toNat 0) (putR_done _ d rfl) (by decide)
            rw [hx] at h; cases h
        · by_cases hf : q.most < q.told + valN q.row + 1
          · obtain ⟨x, hx⟩ := decRGo_err (cs := cs) (out := out) (putR_full q c hd (by omega) (by omega) hf) (by decide)
            rw [hx] at h; cases h
          · rw [decRGo_some (putR_place q c hd (by omega) (by omega) hf) (by omega)] at h
            have e0 : valN [] = 0 := rfl
            obtain ⟨rest, h1, h2, h3⟩ := enc_dec n most hn hm cs { q with told := q.told + valN q.row + 1, row := [] } _ p hd hqn hqm (by simp only; omega) (by simp) (by simp only [e0]; omega) h
            refine ⟨List.replicate (valN q.row).toNat 0 ++ (c - 1) :: rest, ?_, ?_, ?_⟩
            · rw [h1]; simp
            · intro x hx
              rcases List.mem_append.1 hx with hx | hx
              · have := List.eq_of_mem_replicate hx; omega
              · rcases List.mem_cons.1 hx with rfl | hx
                · omega
                · exact h2 x hx
            · rw [encT_zeros, Nat.zero_add, encT, if_neg (by omega), hrow, h3]
              simp

theorem forth (l : List Int) (n most : Int) (p : List Int) (h : decN l n most = .ok p) : encN p n = .ok l := by
  rw [decN_eq] at h
  unfold decRN at h
  split at h
  · rename_i hn
    have e0 : valN [] = 0 := rfl
    obtain ⟨rest, h1, h2, h3⟩ := enc_dec n most hn.1 hn.2.2.2 l _ [] p rfl rfl rfl (by simp) (by simp) (by simp only [e0]; omega) h
    simp only [List.nil_append] at h1 h3
    subst h1
    unfold encN
    rw [if_pos ⟨hn.1, hn.2.1⟩, encGo_T n p 0 [] h2, h3]
    simp
  · cases h

theorem dec_len (n most : Int) : ∀ (cs : List Int) (r : RS) (out p : List Int), r.Ok → (out.length : Int) = r.told → decGo cs r out = .ok p → (p.length : Int) ≤ r.most
  | [], r, out, p, hr, ho, h => by
    simp only [decGo] at h
    split at h
    · cases h; have := hr.sum; have := hr.zeros0; omega
    · cases h
  | c :: cs, r, out, p, hr, ho, h => by
    have hp := putS_ok r c hr
    have hm : (putS r c).1.most = r.most := by
      unfold putS moreS
      repeat (first | rfl | split)
    simp only [decGo] at h
    by_cases h0 : (putS r c).2.2.2 = 0
    · rw [if_pos h0] at h
      have := dec_len n most cs _ _ p hp.1 (by
        rw [(hp.2.2 h0).1]
        have := hp.2.1
        split <;> simp <;> omega) h
      rwa [hm] at this
    · rw [if_neg h0] at h
      split at h <;> cases h
theorem decN_len (l : List Int) (n most : Int) (p : List Int) (h : decN l n most = .ok p) : (p.length : Int) ≤ most := by
  unfold decN at h
  split at h
  · rename_i hn
    exact dec_len n most l _ [] p (.start n most hn.1 hn.2.1 hn.2.2.1 hn.2.2.2) rfl h
  · cases h

end Go.Proofs.Ytmbmlinbggmipaa.Zp

/- Plain facts on rows of zeros and their codes; no program in sight. -/
import Derived.WalkKit
namespace Go.Proofs.Ytmbmlinbggmipaa.Zp
set_option linter.unusedVariables false
set_option linter.unusedSimpArgs false

/-- 7.1: the codes of a row; the first number is fuel -/
def rowF : Nat → Nat → List Int
  | 0, _ => []
  | f + 1, m => if m = 0 then [] else if m % 2 = 1 then 0 :: rowF f ((m - 1) / 2) else 1 :: rowF f ((m - 2) / 2)
def rowN (m : Nat) : List Int := rowF m m
theorem rowF_more : ∀ f g m, m ≤ f → m ≤ g → rowF f m = rowF g m
  | 0, 0, m, _, _ => rfl
  | 0, g + 1, m, h, _ => by have : m = 0 := by omega
                            subst this; simp [rowF]
  | f + 1, 0, m, _, h => by have : m = 0 := by omega
                            subst this; simp [rowF]
  | f + 1, g + 1, m, h1, h2 => by
    simp only [rowF]
    split
    · rfl
    · split
      · rw [rowF_more f g _ (by omega) (by omega)]
      · rw [rowF_more f g _ (by omega) (by omega)]
theorem rowN_zero : rowN 0 = [] := rfl
theorem rowN_odd (m : Nat) (h : m % 2 = 1) : rowN m = 0 :: rowN ((m - 1) / 2) := by
  unfold rowN
  cases m with
  | zero => omega
  | succ m =>
    rw [rowF, if_neg (by omega), if_pos h, rowF_more m ((m + 1 - 1) / 2) _ (by omega) (by omega)]
theorem rowN_even (m : Nat) (h0 : m ≠ 0) (h : m % 2 = 0) : rowN m = 1 :: rowN ((m - 2) / 2) := by
  unfold rowN
  cases m with
  | zero => omega
  | succ m =>
    rw [rowF, if_neg (by omega), if_neg (by omega), rowF_more m ((m + 1 - 2) / 2) _ (by omega) (by omega)]
theorem rowN_length (m : Nat) : (rowN m).length ≤ m := by
  induction m using Nat.strongRecOn with
  | _ m ih =>
    by_cases h0 : m = 0
    · subst h0; simp [rowN_zero]
    · by_cases h : m % 2 = 1
      · rw [rowN_odd m h]; have := ih ((m - 1) / 2) (by omega); simp only [List.length_cons]; omega
      · rw [rowN_even m h0 (by omega)]; have := ih ((m - 2) / 2) (by omega); simp only [List.length_cons]; omega

/-- how many places codes stand for, up to 2^41; behind m, the next weight w -/
def valFrom (m w : Int) : List Int → Int
  | [] => m
  | c :: cs => if w > 2199023255552 then 2199023255552 else valFrom (m + w + c * w) (2 * w) cs
def valN (l : List Int) : Int := valFrom 0 1 l

/-- 7.1: places as codes: what is left of them, the zeros of the row that has not ended, the codes so far -/
def encGo (n : Int) : List Int → Nat → List Int → Except Int (List Int)
  | [], z, out => .ok (out ++ rowN z ++ [n + 1])
  | p :: ps, z, out => if p < 0 ∨ n ≤ p then .error 1 else if p = 0 then encGo n ps (z + 1) out else encGo n ps 0 (out ++ rowN z ++ [p + 1])
def encN (l : List Int) (n : Int) : Except Int (List Int) := if 1 ≤ n ∧ n ≤ 256 then encGo n l 0 [] else .error 1

/-- 7.2: a reader's state -/
structure RS where
  n : Int
  most : Int
  told : Int
  zeros : Int
  weight : Int
  done : Bool
structure RS.Ok (r : RS) : Prop where
  told0 : 0 ≤ r.told
  zeros0 : 0 ≤ r.zeros
  sum : r.told + r.zeros ≤ r.most
  most1 : r.most ≤ 1099511627776
  weight0 : 1 ≤ r.weight
  weight1 : r.weight ≤ 2199023255552
  n0 : 1 ≤ r.n
  n1 : r.n ≤ 256
def moreS (r : RS) (code : Int) : RS × Int :=
  if r.most - (r.told + r.zeros) < r.weight * (1 + code) then (r, 2) else ({ r with zeros := r.zeros + r.weight * (1 + code), weight := r.weight * 2 }, 0)
/-- what a code tells: the state behind it, the zeros, the place, the error -/
def putS (r : RS) (code : Int) : RS × Int × Int × Int :=
  if r.done then (r, 0, 0, 7)
  else if code < 0 ∨ r.n + 1 < code then (r, 0, 0, 25)
  else if code ≤ 1 then (if (moreS r code).2 = 0 then ((moreS r code).1, 0, -1, 0) else (r, 0, 0, (moreS r code).2))
  else if code = r.n + 1 then ({ r with told := r.told + r.zeros, zeros := 0, weight := 1, done := true }, r.zeros, -1, 0)
  else if r.told + r.zeros = r.most then (r, 0, 0, 2)
  else ({ r with told := r.told + 1 + r.zeros, zeros := 0, weight := 1 }, r.zeros, code - 1, 0)

/-- the reference's reader -/
structure RR where
  n : Int
  most : Int
  told : Int
  row : List Int
  done : Bool
structure RR.Ok (r : RR) : Prop where
  told0 : 0 ≤ r.told
  sum : r.told + valN r.row ≤ r.most
  most1 : r.most ≤ 1099511627776
  n0 : 1 ≤ r.n
  n1 : r.n ≤ 256
  row1 : r.row.length ≤ 1000
  codes : ∀ c ∈ r.row, 0 ≤ c ∧ c ≤ 1
def putR (r : RR) (code : Int) : RR × Int × Int × Int :=
  if r.done then (r, 0, 0, 7)
  else if code < 0 ∨ r.n + 1 < code then (r, 0, 0, 25)
  else if code < 2 then (if r.most < r.told + valN (r.row ++ [code]) then (r, 0, 0, 2) else ({ r with row := r.row ++ [code] }, 0, -1, 0))
  else if code = r.n + 1 then ({ r with told := r.told + valN r.row, row := [], done := true }, valN r.row, -1, 0)
  else if r.most < r.told + valN r.row + 1 then (r, 0, 0, 2)
  else ({ r with told := r.told + valN r.row + 1, row := [] }, valN r.row, code - 1, 0)

theorem valFrom_range : ∀ (l : List Int) (m w : Int), (∀ c ∈ l, 0 ≤ c ∧ c ≤ 1) → 0 ≤ m → m ≤ 2 * w → 1 ≤ w → w ≤ 4398046511104 → 0 ≤ valFrom m w l ∧ valFrom m w l ≤ 8796093022208
  | [], m, w, _, h0, h1, h2, h3 => by simp only [valFrom]; omega
  | c :: cs, m, w, hc, h0, h1, h2, h3 => by
    simp only [valFrom]
    split
    · omega
    · have hcc := hc c (by simp)
      have hcw : 0 ≤ c * w ∧ c * w ≤ w := by
        have : c = 0 ∨ c = 1 := by omega
        rcases this with rfl | rfl <;> omega
      exact valFrom_range cs _ _ (fun x hx => hc x (by simp [hx])) (by omega) (by omega) (by omega) (by omega)
theorem valN_range (l : List Int) (h : ∀ c ∈ l, 0 ≤ c ∧ c ≤ 1) : 0 ≤ valN l ∧ valN l ≤ 8796093022208 := valFrom_range l 0 1 h (by omega) (by omega) (by omega) (by omega)

/-- 7.3: codes' places -/
def decGo : List Int → RS → List Int → Except Int (List Int)
  | [], r, out => if r.done then .ok out else .error 24
  | c :: cs, r, out =>
    if (putS r c).2.2.2 = 0 then decGo cs (putS r c).1 (out ++ List.replicate (putS r c).2.1.toNat 0 ++ (if (putS r c).2.2.1 = -1 then [] else [(putS r c).2.2.1]))
    else if (putS r c).2.2.2 = 7 then .error 25 else .error (putS r c).2.2.2
def decN (l : List Int) (n most : Int) : Except Int (List Int) :=
  if 1 ≤ n ∧ n ≤ 256 ∧ 0 ≤ most ∧ most ≤ 1099511627776 then decGo l ⟨n, most, 0, 0, 1, false⟩ [] else .error 1

theorem RS.Ok.start (n most : Int) (h1 : 1 ≤ n) (h2 : n ≤ 256) (h3 : 0 ≤ most) (h4 : most ≤ 1099511627776) : RS.Ok ⟨n, most, 0, 0, 1, false⟩ :=
  ⟨by simp, by simp, by simpa using h3, h4, by simp, by simp, h1, h2⟩

theorem putS_ok (r : RS) (c : Int) (h : r.Ok) : (putS r c).1.Ok ∧ 0 ≤ (putS r c).2.1 ∧
    ((putS r c).2.2.2 = 0 → (putS r c).1.told = r.told + (putS r c).2.1 + (if (putS r c).2.2.1 = -1 then 0 else 1) ∧ (putS r c).2.1 ≤ r.zeros) := by
  have h' := h
  obtain ⟨h1, h2, h3, h4, h5, h6, h7, h8⟩ := h
  unfold putS
  split
  · exact ⟨h', by simp, by simp⟩
  · split
    · exact ⟨h', by simp, by simp⟩
    · rename_i hc
      split
      · rename_i hc1
        have hcc : c = 0 ∨ c = 1 := by omega
        unfold moreS
        by_cases hgt : r.most - (r.told + r.zeros) < r.weight * (1 + c)
        · simp only [hgt, if_true]
          exact ⟨h', by simp, by simp⟩
        · simp only [hgt, if_false, if_true]
          refine ⟨⟨h1, ?_, ?_, h4, ?_, ?_, h7, h8⟩, by simp, by simp [h2]⟩ <;> (simp only; rcases hcc with rfl | rfl <;> omega)
      · split
        · exact ⟨⟨by simp only; omega, by simp, by simp only; omega, h4, by simp, by simp, h7, h8⟩, by simpa using h2, by simp⟩
        · split
          · exact ⟨h', by simp, by simp⟩
          · refine ⟨⟨by simp only; omega, by simp, by simp only; omega, h4, by simp, by simp, h7, h8⟩, by simpa using h2, fun _ => ?_⟩
            simp only
            rw [if_neg (by omega)]
            exact ⟨by omega, Int.le_refl _⟩

/-- 7.3, of the reference -/
def decRGo : List Int → RR → List Int → Except Int (List Int)
  | [], r, out => if r.done then .ok out else .error 24
  | c :: cs, r, out =>
    if (putR r c).2.2.2 = 7 then .error 25 else if (putR r c).2.2.2 ≠ 0 then .error (putR r c).2.2.2
    else decRGo cs (putR r c).1 (if 0 ≤ (putR r c).2.2.1 then out ++ List.replicate (putR r c).2.1.toNat 0 ++ [(putR r c).2.2.1] else out ++ List.replicate (putR r c).2.1.toNat 0)
def decRN (l : List Int) (n most : Int) : Except Int (List Int) :=
  if 1 ≤ n ∧ n ≤ 256 ∧ 0 ≤ most ∧ most ≤ 1099511627776 then decRGo l ⟨n, most, 0, [], false⟩ [] else .error 1

theorem putR_ok (r : RR) (c : Int) (h : r.Ok) : (c < 2 → r.row.length < 1000) → (putR r c).1.Ok ∧ 0 ≤ (putR r c).2.1 ∧ (putR r c).2.1 ≤ 8796093022208 ∧ ((putR r c).1.row.length ≤ r.row.length + 1) := by
  intro hlen
  have h' := h
  obtain ⟨h1, h2, h3, h40, h4, h5, h6⟩ := h
  have hv := valN_range r.row h6
  unfold putR
  split
  · exact ⟨h', by simp, by simp, by simp⟩
  · split
    · exact ⟨h', by simp, by simp, by simp⟩
    · rename_i hc
      split
      · rename_i hc1
        split
        · exact ⟨h', by simp, by simp, by simp⟩
        · rename_i hgt
          refine ⟨⟨h1, by simp only; omega, h3, h40, h4, by have := hlen hc1; simp; omega, fun x hx => ?_⟩, by simp, by simp, by simp⟩
          rcases List.mem_append.1 hx with hx | hx
          · exact h6 x hx
          · simp at hx; omega
      · split
        · have e0 : valN [] = 0 := rfl
          exact ⟨⟨by simp only; omega, by simp only [e0]; omega, h3, h40, h4, by simp, by simp⟩, by simp only; omega, by simp only; omega, by simp⟩
        · split
          · exact ⟨h', by simp, by simp, by simp⟩
          · have e0 : valN [] = 0 := rfl
            exact ⟨⟨by simp only; omega, by simp only [e0]; omega, h3, h40, h4, by simp, by simp⟩, by simp only; omega, by simp only; omega, by simp⟩

theorem putR_told (r : RR) (c : Int) : (putR r c).2.2.2 = 0 → (putR r c).1.told = r.told + (putR r c).2.1 + (if 0 ≤ (putR r c).2.2.1 then 1 else 0) := by
  unfold putR
  split
  · simp
  · split
    · simp
    · rename_i hc
      split
      · split
        · simp
        · intro _; simp only; rw [if_neg (by omega)]; omega
      · split
        · intro _; simp only; rw [if_neg (by omega)]; omega
        · split
          · simp
          · intro _; simp only; rw [if_pos (by omega)]

end Go.Proofs.Ytmbmlinbggmipaa.Zp

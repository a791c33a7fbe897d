/- Plain facts on lists of bytes and their rotations; no program in sight. -/
import Derived.Lib.Strings
import Derived.WideShapes
import Derived.WalkLawsBesides
namespace Go.Proofs.Ytbakfaihnecmoaa.Pl
set_option linter.unusedVariables false
set_option linter.unusedSimpArgs false

/-- is a number a place of a text? -/
def isB (s : ByteArray) (i : Int) : Bool := decide (0 ≤ i ∧ i < s.size)
theorem isB_true {s : ByteArray} {i : Int} (h : isB s i = true) : 0 ≤ i ∧ i < s.size := by simpa [isB] using h
theorem isB_of {s : ByteArray} {i : Int} (h : 0 ≤ i) (h2 : i < s.size) : isB s i = true := by simp [isB, h, h2]
theorem isB_false {s : ByteArray} {i : Int} (h : isB s i = false) : i < 0 ∨ (s.size : Int) ≤ i := by
  simp [isB] at h; omega

def rotL (l : List UInt8) (i : Nat) : List UInt8 := l.drop i ++ l.take i

def cmpL : List UInt8 → List UInt8 → Int
  | x :: xs, y :: ys => if x < y then -1 else if y < x then 1 else cmpL xs ys
  | _, _ => 0

theorem length_rotL (l : List UInt8) (i : Nat) : (rotL l i).length = l.length := by
  simp [rotL]; omega

theorem getD_rotL (l : List UInt8) (i k : Nat) (hi : i < l.length) (hk : k < l.length) : (rotL l i).getD k 0 = l.getD ((i + k) % l.length) 0 := by
  unfold rotL
  simp only [List.getD_eq_getElem?_getD]
  by_cases h : i + k < l.length
  · rw [Nat.mod_eq_of_lt h]
    rw [List.getElem?_append_left (by simp; omega)]
    simp [List.getElem?_drop]
  · have e : (i + k) % l.length = i + k - l.length := by rw [Nat.mod_eq_sub_mod (by omega), Nat.mod_eq_of_lt (by omega)]
    rw [e, List.getElem?_append_right (by simp; omega)]
    simp only [List.length_drop, List.getElem?_take]
    rw [if_pos (by omega), show k - (l.length - i) = i + k - l.length by omega]

theorem drop_eq_getD_cons (l : List UInt8) (k : Nat) (h : k < l.length) : l.drop k = l.getD k 0 :: l.drop (k + 1) := by
  rw [List.drop_eq_getElem_cons h, List.getD_eq_getElem?_getD, List.getElem?_eq_getElem h]; rfl

def cmpI (x y : Int) : Int := if x < y then -1 else if y < x then 1 else 0
def byteAt (s : ByteArray) (i k : Nat) : Int := (s.data.toList.getD ((i + k) % s.size) 0).toNat

theorem byteAt_rotL (s : ByteArray) (i k : Nat) (hi : i < s.size) (hk : k < s.size) : byteAt s i k = ((rotL s.data.toList i).getD k 0).toNat := by
  have hl : s.data.toList.length = s.size := by rw [Array.length_toList]; rfl
  unfold byteAt
  rw [getD_rotL _ _ _ (by omega) (by omega), hl]

theorem cmpL_cons (x y : UInt8) (xs ys : List UInt8) : cmpL (x :: xs) (y :: ys) = if cmpI x.toNat y.toNat ≠ 0 then cmpI x.toNat y.toNat else cmpL xs ys := by
  simp only [cmpL, cmpI, UInt8.lt_iff_toNat_lt]
  by_cases h : x.toNat < y.toNat
  · simp [h]
  · by_cases h2 : y.toNat < x.toNat
    · simp [h, h2]
    · simp [h, h2]

theorem cmpL_at (s : ByteArray) (i k j : Nat) (hi : i < s.size) (hk : k < s.size) (hj : j < s.size) :
    cmpL ((rotL s.data.toList i).drop j) ((rotL s.data.toList k).drop j) = if cmpI (byteAt s i j) (byteAt s k j) ≠ 0 then cmpI (byteAt s i j) (byteAt s k j) else cmpL ((rotL s.data.toList i).drop (j + 1)) ((rotL s.data.toList k).drop (j + 1)) := by
  have hl : s.data.toList.length = s.size := by rw [Array.length_toList]; rfl
  rw [drop_eq_getD_cons (rotL s.data.toList i) j (by rw [length_rotL]; omega), drop_eq_getD_cons (rotL s.data.toList k) j (by rw [length_rotL]; omega), cmpL_cons, byteAt_rotL s i j hi hj, byteAt_rotL s k j hk hj]

theorem cmpL_stop (s : ByteArray) (i k j : Nat) (hi : i < s.size) (hk : k < s.size) (hj : j < s.size) (h : (cmpI (byteAt s i j) (byteAt s k j) != 0) = true) :
    cmpL ((rotL s.data.toList i).drop j) ((rotL s.data.toList k).drop j) = cmpI (byteAt s i j) (byteAt s k j) := by
  rw [cmpL_at s i k j hi hk hj, if_pos (by simpa using h)]
theorem cmpL_go (s : ByteArray) (i k j : Nat) (hi : i < s.size) (hk : k < s.size) (hj : j < s.size) (h : (cmpI (byteAt s i j) (byteAt s k j) != 0) = false) :
    cmpL ((rotL s.data.toList i).drop j) ((rotL s.data.toList k).drop j) = cmpL ((rotL s.data.toList i).drop (j + 1)) ((rotL s.data.toList k).drop (j + 1)) := by
  rw [cmpL_at s i k j hi hk hj, if_neg (by simpa using h)]

def cmpS (s : ByteArray) (i k : Int) : Int := cmpL (rotL s.data.toList i.toNat) (rotL s.data.toList k.toNat)
/-- 15.1: is a rotation ahead of another one -/
def aheadS (s : ByteArray) (i k : Int) : Bool := isB s i && isB s k && (decide (cmpS s i k < 0) || cmpS s i k == 0 && decide (i < k))
def rotS (s : ByteArray) (i : Nat) : ByteArray := s.extract i s.size ++ s.extract 0 i

/-- 15.2: the period, from a number on that is tried -/
def perFrom (s : ByteArray) (p : Nat) : Nat → Nat
  | 0 => p
  | f + 1 => if s.size % p = 0 ∧ cmpS s 0 p = 0 then p else perFrom s (p + 1) f
def perS (s : ByteArray) : Nat := if s.size = 0 then 0 else perFrom s 1 (s.size - 1)

/-- the first rotation's place, out of places below a number -/
def leastTo (s : ByteArray) : Nat → Nat
  | 0 => 0
  | k + 1 => if cmpS s k (leastTo s k) < 0 then k else leastTo s k
def leastS (s : ByteArray) : Int := if s.size = 0 then -1 else leastTo s s.size
theorem leastTo_lt (s : ByteArray) (k : Nat) (h : 0 < k) : leastTo s k < k := by
  induction k with
  | zero => omega
  | succ k ih =>
    simp only [leastTo]
    split
    · omega
    · by_cases h0 : k = 0
      · subst h0; simp [leastTo]
      · have := ih (by omega); omega

/-- is a place the right one behind the place before it -/
def okAt (s : ByteArray) (xs : List Int) (j : Nat) : Bool := isB s (xs.getD j 0) && (j == 0 || aheadS s (xs.getD (j - 1) 0) (xs.getD j 0))
def sortedS (s : ByteArray) (xs : List Int) : Bool := (List.range xs.length).all (okAt s xs) && xs.length == s.size
theorem sortedS_not (s : ByteArray) (xs : List Int) (j : Nat) (hj : j < xs.length) (h : okAt s xs j = false) : sortedS s xs = false := by
  unfold sortedS
  rw [Bool.and_eq_false_iff]
  left
  rw [List.all_eq_false]
  exact ⟨j, by simpa using hj, by simp [h]⟩
theorem sortedS_yes (s : ByteArray) (xs : List Int) (h : ∀ j, j < xs.length → okAt s xs j = true) : sortedS s xs = (xs.length == s.size) := by
  unfold sortedS
  have : (List.range xs.length).all (okAt s xs) = true := by
    rw [List.all_eq_true]
    intro j hj
    exact h j (by simpa using hj)
  rw [this, Bool.true_and]

theorem bytesLess_cmpL : ∀ (a b : List UInt8), a.length = b.length → Op.bytesLess a b = decide (cmpL a b < 0)
  | [], [], _ => by simp [Op.bytesLess, cmpL]
  | x :: xs, y :: ys, h => by
    have ih := bytesLess_cmpL xs ys (by simpa using h)
    simp only [Op.bytesLess, cmpL, ih]
    by_cases h1 : x < y
    · simp [h1]
    · by_cases h2 : y < x
      · have : ¬ x = y := by rintro rfl; exact UInt8.lt_irrefl _ h2
        simp [h1, h2, this]
      · have : x = y := UInt8.le_antisymm (UInt8.not_lt.1 h2) (UInt8.not_lt.1 h1)
        subst this
        simp
  | [], y :: ys, h => by simp at h
  | x :: xs, [], h => by simp at h
theorem cmpL_zero : ∀ (a b : List UInt8), a.length = b.length → (cmpL a b = 0 ↔ a = b)
  | [], [], _ => by simp [cmpL]
  | x :: xs, y :: ys, h => by
    have ih := cmpL_zero xs ys (by simpa using h)
    simp only [cmpL]
    by_cases h1 : x < y
    · have : ¬ x = y := by rintro rfl; exact UInt8.lt_irrefl _ h1
      simp [h1, this]
    · by_cases h2 : y < x
      · have : ¬ x = y := by rintro rfl; exact UInt8.lt_irrefl _ h2
        simp [h1, h2, this]
      · have : x = y := UInt8.le_antisymm (UInt8.not_lt.1 h2) (UInt8.not_lt.1 h1)
        subst this
        simp [ih]
  | [], y :: ys, h => by simp at h
  | x :: xs, [], h => by simp at h

theorem size_list' (s : ByteArray) : s.data.toList.length = s.size := by rw [Array.length_toList]; rfl
theorem list_inj {a b : ByteArray} (h : a.data.toList = b.data.toList) : a = b := WideShapes.bytes_inj h
theorem toList_inj {a b : ByteArray} : a.toList = b.toList ↔ a = b := by
  rw [ByteArray.toList_eq, ByteArray.toList_eq]; exact ⟨list_inj, fun h => by rw [h]⟩
theorem rotS_data (s : ByteArray) (i : Nat) : (rotS s i).data.toList = rotL s.data.toList i := by
  unfold rotS rotL
  have hl := size_list' s
  simp only [ByteArray.data_append, Array.toList_append, ByteArray.data_extract, Array.toList_extract, List.extract_eq_take_drop]
  rw [List.take_of_length_le (by simp)]
  simp
theorem rotS_size (s : ByteArray) (i : Nat) : (rotS s i).size = s.size := by
  rw [← size_list', rotS_data, length_rotL, size_list']
theorem rot0 (l : List UInt8) : rotL l 0 = l := by simp [rotL]
theorem cmpS_zero (s : ByteArray) (i k : Int) : cmpS s i k = 0 ↔ rotS s i.toNat = rotS s k.toNat := by
  unfold cmpS
  rw [cmpL_zero _ _ (by simp [length_rotL])]
  constructor
  · intro h; apply list_inj; rw [rotS_data, rotS_data, h]
  · intro h; rw [← rotS_data, ← rotS_data, h]
theorem rotS_zero (s : ByteArray) : rotS s 0 = s := by apply list_inj; rw [rotS_data, rot0]
theorem less_rotS (s : ByteArray) (i k : Int) : Op.bytesLess (rotS s i.toNat).toList (rotS s k.toNat).toList = decide (cmpS s i k < 0) := by
  rw [ByteArray.toList_eq, ByteArray.toList_eq, rotS_data, rotS_data, bytesLess_cmpL _ _ (by simp [length_rotL])]; rfl

/-- how the reference sorts: a place put into the sorted ones of the places below it -/
def insStep (s : ByteArray) (i : Int) (st : List Int × Bool) (k : Int) : List Int × Bool :=
  if !st.2 && aheadS s i k then (st.1 ++ [i] ++ [k], true) else (st.1 ++ [k], st.2)
def insTo (s : ByteArray) (i : Int) (l : List Int) (j : Nat) : List Int × Bool := (l.take j).foldl (insStep s i) ([], false)
def insAll (s : ByteArray) (i : Int) (l : List Int) : List Int := if (insTo s i l l.length).2 then (insTo s i l l.length).1 else (insTo s i l l.length).1 ++ [i]
def sortTo (s : ByteArray) : Nat → List Int
  | 0 => []
  | i + 1 => insAll s i (sortTo s i)
theorem insTo_succ (s : ByteArray) (i : Int) (l : List Int) (j : Nat) (h : j < l.length) : insTo s i l (j + 1) = insStep s i (insTo s i l j) (l.getD j 0) := by
  unfold insTo
  rw [List.take_succ_eq_append_getElem h, List.foldl_append, List.getD_eq_getElem?_getD, List.getElem?_eq_getElem h]; rfl
theorem insTo_length (s : ByteArray) (i : Int) (l : List Int) : ∀ j, j ≤ l.length → (insTo s i l j).1.length = j + (if (insTo s i l j).2 then 1 else 0)
  | 0, _ => by simp [insTo]
  | j + 1, h => by
    have ih := insTo_length s i l j (by omega)
    rw [insTo_succ s i l j (by omega)]
    unfold insStep
    cases h2 : (insTo s i l j).2 <;> cases h3 : aheadS s i (l.getD j 0) <;> simp_all
theorem insAll_length (s : ByteArray) (i : Int) (l : List Int) : (insAll s i l).length = l.length + 1 := by
  have := insTo_length s i l l.length (Nat.le_refl _)
  unfold insAll
  split <;> simp_all
theorem sortTo_length (s : ByteArray) : ∀ i, (sortTo s i).length = i
  | 0 => rfl
  | i + 1 => by rw [sortTo, insAll_length, sortTo_length s i]
end Go.Proofs.Ytbakfaihnecmoaa.Pl

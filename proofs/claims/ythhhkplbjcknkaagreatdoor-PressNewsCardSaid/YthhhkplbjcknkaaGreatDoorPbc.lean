/- Bits: fields, bytes out of bits, what putting a bit makes of bytes; the machine's own operations on them. No program in sight. -/
import Derived.Laws.BitsAllLaws
import Derived.IntWalk
namespace Go.Proofs.YthhhkplbjcknkaaGreatDoor
set_option linter.unusedVariables false
set_option linter.unusedSimpArgs false
open Go

def bn (b : Bool) : Nat := if b then 1 else 0
theorem bn_lt (b : Bool) : bn b < 2 := by cases b <;> decide
/-- the number of bits, the highest first -/
def num : List Bool → Nat → Nat
  | [], a => a
  | b :: l, a => num l (2 * a + bn b)
theorem num_app : ∀ (l m : List Bool) (a : Nat), num (l ++ m) a = num m (num l a)
  | [], _, _ => rfl
  | b :: l, m, a => num_app l m _
theorem num_lt : ∀ (l : List Bool) (a k : Nat), a < 2 ^ k → num l a < 2 ^ (k + l.length)
  | [], a, k, h => h
  | b :: l, a, k, h => by
    have := bn_lt b
    have := num_lt l (2 * a + bn b) (k + 1) (by rw [Nat.pow_succ]; omega)
    rw [List.length_cons, show k + (l.length + 1) = k + 1 + l.length by omega]
    exact this
theorem num0_lt (l : List Bool) : num l 0 < 2 ^ l.length := by
  have := num_lt l 0 0 (by decide)
  rwa [Nat.zero_add] at this
/-- a field of so many bits -/
def fieldB : Nat → Nat → List Bool
  | _, 0 => []
  | v, n + 1 => fieldB (v / 2) n ++ [decide (v % 2 = 1)]
theorem fieldB_len : ∀ (n v : Nat), (fieldB v n).length = n
  | 0, _ => rfl
  | n + 1, v => by simp [fieldB, fieldB_len n]
theorem bn_mod (v : Nat) : bn (decide (v % 2 = 1)) = v % 2 := by
  unfold bn
  by_cases h : v % 2 = 1 <;> simp [h] <;> omega
theorem num_field : ∀ (n v : Nat), num (fieldB v n) 0 = v % 2 ^ n
  | 0, v => by simp [fieldB, num, Nat.mod_one]
  | n + 1, v => by
    show num (fieldB (v / 2) n ++ [decide (v % 2 = 1)]) 0 = _
    rw [num_app, num_field n]
    show 2 * (v / 2 % 2 ^ n) + bn _ = _
    rw [bn_mod, Nat.pow_succ, Nat.mul_comm (2 ^ n) 2, Nat.mod_mul]
    omega
/-- bytes out of bits: whole ones, and the bits behind them -/
def pushB (s : List Nat × List Bool) (b : Bool) : List Nat × List Bool := if s.2.length = 7 then (s.1 ++ [num (s.2 ++ [b]) 0], []) else (s.1, s.2 ++ [b])
def pushBs (s : List Nat × List Bool) (l : List Bool) : List Nat × List Bool := l.foldl pushB s
theorem pushBs_app (s : List Nat × List Bool) (l m : List Bool) : pushBs s (l ++ m) = pushBs (pushBs s l) m := by unfold pushBs; rw [List.foldl_append]
theorem pushB_wlen (s : List Nat × List Bool) (b : Bool) : (pushB s b).1.length ≤ s.1.length + 1 := by
  unfold pushB
  split <;> simp
theorem pushBs_wlen : ∀ (l : List Bool) (s : List Nat × List Bool), (pushBs s l).1.length ≤ s.1.length + l.length
  | [], s => Nat.le_refl _
  | b :: l, s => by
    have h1 := pushB_wlen s b
    have h2 := pushBs_wlen l (pushB s b)
    show (pushBs (pushB s b) l).1.length ≤ _
    rw [List.length_cons]
    omega
theorem pushBs_lt8 : ∀ (l : List Bool) (ws : List Nat) (r : List Bool), r.length + l.length < 8 → pushBs (ws, r) l = (ws, r ++ l)
  | [], ws, r, _ => by simp [pushBs]
  | b :: l, ws, r, h => by
    simp only [List.length_cons] at h
    show pushBs (pushB (ws, r) b) l = _
    have : pushB (ws, r) b = (ws, r ++ [b]) := by unfold pushB; rw [if_neg (by simp; omega)]
    rw [this, pushBs_lt8 l ws (r ++ [b]) (by simp; omega)]
    simp
theorem pushBs_8 (ws : List Nat) (l : List Bool) (h : l.length = 8) : pushBs (ws, []) l = (ws ++ [num l 0], []) := by
  have hne : l ≠ [] := by intro e; rw [e] at h; simp at h
  obtain ⟨a, b, rfl⟩ : ∃ a b, l = a ++ [b] := ⟨l.dropLast, l.getLast hne, (List.dropLast_concat_getLast hne).symm⟩
  have h7 : a.length = 7 := by simpa using h
  rw [pushBs_app, pushBs_lt8 a ws [] (by rw [h7]; decide)]
  show pushB (ws, [] ++ a) b = _
  unfold pushB
  rw [if_pos (by simpa using h7)]
  rfl
/-- what the byte that is not whole holds -/
def restN (r : List Bool) : Nat := num r 0 * 2 ^ (8 - r.length)
theorem restN_lt {r : List Bool} (h : r.length ≤ 8) : restN r < 256 := by
  have h1 := num0_lt r
  have h2 : 2 ^ r.length * 2 ^ (8 - r.length) = 256 := by rw [← Nat.pow_add, show r.length + (8 - r.length) = 8 by omega]
  unfold restN
  calc num r 0 * 2 ^ (8 - r.length) < 2 ^ r.length * 2 ^ (8 - r.length) := Nat.mul_lt_mul_of_pos_right h1 (Nat.two_pow_pos _)
    _ = 256 := h2
theorem restN_push {r : List Bool} (h : r.length < 8) (b : Bool) : restN r ||| (bn b * 2 ^ (7 - r.length)) = restN (r ++ [b]) := by
  have hb : bn b * 2 ^ (7 - r.length) < 2 ^ (8 - r.length) := by
    rw [show 8 - r.length = 7 - r.length + 1 by omega, Nat.pow_succ, Nat.mul_comm _ 2]
    have := Nat.two_pow_pos (7 - r.length)
    exact Nat.mul_lt_mul_of_pos_right (bn_lt b) this
  unfold restN
  rw [Nat.mul_comm (num r 0), ← Nat.two_pow_add_eq_or_of_lt hb, num_app]
  show _ = (2 * num r 0 + bn b) * 2 ^ (8 - (r ++ [b]).length)
  rw [List.length_append, List.length_singleton, show 8 - r.length = 7 - r.length + 1 by omega, show 8 - (r.length + 1) = 7 - r.length by omega, Nat.pow_succ, Nat.add_mul]
  congr 1
  rw [Nat.mul_comm (2 ^ (7 - r.length)) 2, Nat.mul_assoc, Nat.mul_assoc, Nat.mul_comm (2 ^ (7 - r.length))]

theorem or8 {a b : Nat} (ha : a < 256) (hb : b < 256) : IntKind.u8.wrap ((BitVec.ofInt IntKind.u8.bits (a : Int) ||| BitVec.ofInt IntKind.u8.bits (b : Int)).toNat : Int) = ((a ||| b : Nat) : Int) := u8_or_nat a b ha hb
theorem w8 {x : Nat} (h : x < 256) : IntKind.u8.wrap (x : Int) = (x : Int) := IntWalk.u8_in _ (by omega)
theorem w32 {x : Nat} (h : x < 4294967296) : IntKind.u32.wrap (x : Int) = (x : Int) := IntWalk.u32_in _ (by omega)
theorem shl8 {b k : Nat} (hb : b < 2) (hk : k ≤ 7) : IntKind.u8.wrap ((b : Int) * 2 ^ (min ((k : Int)).toNat (IntKind.u8).bits)) = ((b * 2 ^ k : Nat) : Int) := by
  have e : min ((k : Int)).toNat (IntKind.u8).bits = k := by rw [Int.toNat_natCast]; exact Nat.min_eq_left (Nat.le_trans hk (by decide))
  rw [e]
  have hp : 2 ^ k ≤ 2 ^ 7 := Nat.pow_le_pow_right (by decide) hk
  have : b * 2 ^ k < 256 := by
    have : b * 2 ^ k ≤ 1 * 2 ^ 7 := Nat.mul_le_mul (by omega) hp
    omega
  have e2 : (b : Int) * 2 ^ k = ((b * 2 ^ k : Nat) : Int) := by push_cast; rfl
  rw [e2]
  exact w8 this
theorem fdiv_pow (v k : Nat) (kd : Nat) (h : k ≤ kd) : ((v : Int)).fdiv (2 ^ (min ((k : Int)).toNat kd)) = ((v / 2 ^ k : Nat) : Int) := by
  have e : min ((k : Int)).toNat kd = k := by rw [Int.toNat_natCast]; exact Nat.min_eq_left h
  rw [e]
  have e2 : ((2 : Int) ^ k) = ((2 ^ k : Nat) : Int) := by push_cast; rfl
  rw [e2, Int.fdiv_eq_ediv_of_nonneg _ (Int.natCast_nonneg _)]
  rfl
theorem and32_1 {a : Nat} (ha : a < 4294967296) : IntKind.u32.wrap ((BitVec.ofInt IntKind.u32.bits (a : Int) &&& BitVec.ofInt IntKind.u32.bits (1 : Int)).toNat : Int) = ((a % 2 : Nat) : Int) := by
  have h1 : (BitVec.ofInt 32 (a : Int)).toNat = a := by rw [BitVec.ofInt_natCast, BitVec.toNat_ofNat]; exact Nat.mod_eq_of_lt (by omega)
  show IntKind.u32.wrap ((BitVec.ofInt 32 (a : Int) &&& BitVec.ofInt 32 (1 : Int)).toNat : Int) = _
  rw [BitVec.toNat_and, h1]
  have h2 : (BitVec.ofInt 32 (1 : Int)).toNat = 1 := by decide
  rw [h2, Nat.and_one_is_mod]
  exact w32 (by omega)

end Go.Proofs.YthhhkplbjcknkaaGreatDoor
/- Numbers of 32 bits: what the machine makes of shifts, products and exclusive ors; a sum's table, place by place. No program in sight. -/
namespace Go.Proofs.YthhhkplbjcknkaaGreatDoor
set_option linter.unusedVariables false
set_option linter.unusedSimpArgs false
open Go
theorem shl32 {x k : Nat} : IntKind.u32.wrap ((x : Int) * 2 ^ k) = ((x * 2 ^ k % 4294967296 : Nat) : Int) := by
  have e2 : (x : Int) * 2 ^ k = ((x * 2 ^ k : Nat) : Int) := by push_cast; rfl
  rw [e2, IntKind.wrap_u32']
  rfl
theorem mul32 {x y : Nat} : IntKind.u32.wrap ((x : Int) * (y : Int)) = ((x * y % 4294967296 : Nat) : Int) := by
  have e2 : (x : Int) * (y : Int) = ((x * y : Nat) : Int) := by push_cast; rfl
  rw [e2, IntKind.wrap_u32']
  rfl
theorem ofI32 {a : Nat} (h : a < 4294967296) : (BitVec.ofInt 32 (a : Int)).toNat = a := by rw [BitVec.ofInt_natCast, BitVec.toNat_ofNat]; exact Nat.mod_eq_of_lt (by omega)
theorem xor32_lt {a b : Nat} (ha : a < 4294967296) (hb : b < 4294967296) : a ^^^ b < 4294967296 := Nat.xor_lt_two_pow (n := 32) ha hb
theorem xor32 {a b : Nat} (ha : a < 4294967296) (hb : b < 4294967296) : IntKind.u32.wrap ((BitVec.ofInt IntKind.u32.bits (a : Int) ^^^ BitVec.ofInt IntKind.u32.bits (b : Int)).toNat : Int) = ((a ^^^ b : Nat) : Int) := by
  show IntKind.u32.wrap ((BitVec.ofInt 32 (a : Int) ^^^ BitVec.ofInt 32 (b : Int)).toNat : Int) = _
  rw [BitVec.toNat_xor, ofI32 ha, ofI32 hb]
  exact w32 (xor32_lt ha hb)
/-- one step of a sum -/
def crcS (x : Nat) : Nat := (x * 2 ^ 1 % 4294967296) ^^^ (x / 2 ^ 31 * 79764919 % 4294967296)
theorem crcS_lt (x : Nat) : crcS x < 4294967296 := xor32_lt (Nat.mod_lt _ (by decide)) (Nat.mod_lt _ (by decide))
def crcI : Nat → Nat → Nat
  | 0, x => x
  | i + 1, x => crcS (crcI i x)
theorem crcI_lt : ∀ (i x : Nat), x < 4294967296 → crcI i x < 4294967296
  | 0, _, h => h
  | i + 1, _, _ => crcS_lt _
/-- what a byte makes -/
def crcT (b : Nat) : Nat := crcI 8 (b * 2 ^ 24 % 4294967296)
end Go.Proofs.YthhhkplbjcknkaaGreatDoor

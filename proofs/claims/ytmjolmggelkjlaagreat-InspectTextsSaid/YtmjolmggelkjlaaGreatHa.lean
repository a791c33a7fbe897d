/- Numbers and texts in a form that the kernel runs quickly. No program in sight. -/
import Derived.Test.YtmjolmggelkjlaaGreatEvA
namespace Go.Proofs.YtmjolmggelkjlaaGreat.Ev
set_option linter.unusedVariables false
set_option linter.unusedSimpArgs false
open Go Go.RowKit

/-! numbers -/
theorem wrap_id {x : Int} (h0 : -9223372036854775808 ≤ x) (h1 : x ≤ 9223372036854775807) : IntKind.i64.wrap x = x := IntWalk.i64_in x (by omega)
def fwrap (k : IntKind) (z : Int) : Int := match k, z with
  | .i64, .ofNat m => match Nat.ble m 9223372036854775807 with
    | true => z
    | false => k.wrap z
  | .i64, .negSucc m => match Nat.ble m 9223372036854775807 with
    | true => z
    | false => k.wrap z
  | .u8, .ofNat m => .ofNat (m % 256)
  | .u32, .ofNat m => .ofNat (m % 4294967296)
  | .u64, .ofNat m => .ofNat (m % 18446744073709551616)
  | _, _ => k.wrap z
theorem fwrap_eq (k : IntKind) (z : Int) : fwrap k z = k.wrap z := by
  unfold fwrap
  split
  · rename_i m
    cases h : Nat.ble m 9223372036854775807 with
    | true =>
      have : m ≤ 9223372036854775807 := Nat.le_of_ble_eq_true h
      exact (wrap_id (x := ((m : Nat) : Int)) (by omega) (by omega)).symm
    | false => rfl
  · rename_i m
    cases h : Nat.ble m 9223372036854775807 with
    | true =>
      have : m ≤ 9223372036854775807 := Nat.le_of_ble_eq_true h
      exact (wrap_id (x := Int.negSucc m) (by omega) (by omega)).symm
    | false => rfl
  · rename_i m
    show ((m % 256 : Nat) : Int) = IntKind.u8.wrap m
    simp [IntKind.wrap, IntKind.bits, IntKind.signed]
  · rename_i m
    show ((m % 4294967296 : Nat) : Int) = IntKind.u32.wrap m
    simp [IntKind.wrap, IntKind.bits, IntKind.signed]
  · rename_i m
    show ((m % 18446744073709551616 : Nat) : Int) = IntKind.u64.wrap m
    simp [IntKind.wrap, IntKind.bits, IntKind.signed]
  · rfl
def iadd (a b : Int) : Int := match a, b with
  | .ofNat x, .ofNat y => .ofNat (Nat.add x y)
  | _, _ => a + b
theorem iadd_eq (a b : Int) : iadd a b = a + b := by unfold iadd; split <;> rfl
def isub (a b : Int) : Int := match a, b with
  | .ofNat x, .ofNat y => match Nat.ble y x with
    | true => .ofNat (Nat.sub x y)
    | false => .negSucc (Nat.sub (Nat.sub y x) 1)
  | _, _ => a - b
theorem isub_eq (a b : Int) : isub a b = a - b := by
  unfold isub
  split
  · rename_i x y
    cases h : Nat.ble y x with
    | true =>
      have := Nat.le_of_ble_eq_true h
      show ((x - y : Nat) : Int) = (x : Int) - y
      omega
    | false =>
      have : ¬ y ≤ x := fun q => by rw [Nat.ble_eq_true_of_le q] at h; cases h
      show Int.negSucc (y - x - 1) = (x : Int) - y
      omega
  · rfl
def imul (a b : Int) : Int := match a, b with
  | .ofNat x, .ofNat y => .ofNat (Nat.mul x y)
  | _, _ => a * b
theorem imul_eq (a b : Int) : imul a b = a * b := by unfold imul; split <;> rfl
def ieq (a b : Int) : Bool := match a, b with
  | .ofNat x, .ofNat y => Nat.beq x y
  | _, _ => a == b
theorem ieq_eq (a b : Int) : ieq a b = (a == b) := by
  unfold ieq
  split
  · rename_i x y
    cases h : Nat.beq x y with
    | true => rw [Nat.eq_of_beq_eq_true h]; simp
    | false =>
      have : x ≠ y := Nat.ne_of_beq_eq_false h
      symm
      rw [beq_eq_false_iff_ne]
      intro q
      exact this (Int.ofNat.inj q)
  · rfl
def ile (a b : Int) : Bool := match a, b with
  | .ofNat x, .ofNat y => Nat.ble x y
  | _, _ => decide (a ≤ b)
theorem ile_eq (a b : Int) : ile a b = decide (a ≤ b) := by
  unfold ile
  split
  · rename_i x y
    cases h : Nat.ble x y with
    | true =>
      have := Nat.le_of_ble_eq_true h
      symm
      rw [decide_eq_true_eq]
      show (x : Int) ≤ y
      omega
    | false =>
      have : ¬ x ≤ y := fun q => by rw [Nat.ble_eq_true_of_le q] at h; cases h
      symm
      rw [decide_eq_false_iff_not]
      show ¬ ((x : Int) ≤ y)
      omega
  · rfl
def ilt (a b : Int) : Bool := match a, b with
  | .ofNat x, .ofNat y => Nat.ble (Nat.succ x) y
  | _, _ => decide (a < b)
theorem ilt_eq (a b : Int) : ilt a b = decide (a < b) := by
  unfold ilt
  split
  · rename_i x y
    cases h : Nat.ble (Nat.succ x) y with
    | true =>
      have := Nat.le_of_ble_eq_true h
      symm
      rw [decide_eq_true_eq]
      show (x : Int) < y
      omega
    | false =>
      have : ¬ Nat.succ x ≤ y := fun q => by rw [Nat.ble_eq_true_of_le q] at h; cases h
      symm
      rw [decide_eq_false_iff_not]
      show ¬ ((x : Int) < y)
      omega
  · rfl
/-! texts -/
def beqB : List UInt8 → List UInt8 → Bool
  | [], [] => true
  | a :: l, b :: m => match Nat.beq a.toNat b.toNat with
    | true => beqB l m
    | false => false
  | _, _ => false
theorem beqB_eq : ∀ a b : List UInt8, beqB a b = decide (a = b)
  | [], [] => rfl
  | a :: l, b :: m => by
    unfold beqB
    cases h : Nat.beq a.toNat b.toNat with
    | true =>
      have e : a = b := UInt8.toNat_inj.1 (Nat.eq_of_beq_eq_true h)
      subst e
      simp only
      rw [beqB_eq l m]
      simp
    | false =>
      have e : a ≠ b := fun q => Nat.ne_of_beq_eq_false h (by rw [q])
      symm
      rw [decide_eq_false_iff_not]
      intro q
      exact e (List.cons.inj q).1
  | [], _ :: _ => by unfold beqB; simp
  | _ :: _, [] => by unfold beqB; simp
def appB : List UInt8 → List UInt8 → List UInt8
  | [], m => m
  | a :: l, m => a :: appB l m
theorem appB_eq : ∀ l m : List UInt8, appB l m = l ++ m
  | [], _ => rfl
  | a :: l, m => by unfold appB; rw [appB_eq l m]; rfl
def lenB : List UInt8 → Nat
  | [] => 0
  | _ :: l => Nat.succ (lenB l)
theorem lenB_eq : ∀ l : List UInt8, lenB l = l.length
  | [] => rfl
  | _ :: l => by unfold lenB; rw [lenB_eq l]; rfl
def nthB : List UInt8 → Nat → Option UInt8
  | [], _ => none
  | a :: l, i => match i with
    | 0 => some a
    | i + 1 => nthB l i
theorem nthB_some : ∀ (l : List UInt8) (i : Nat) (b : UInt8), nthB l i = some b → i < l.length ∧ l.getD i 0 = b
  | [], _, _, h => by cases h
  | a :: l, 0, b, h => by
    unfold nthB at h
    cases h
    exact ⟨Nat.zero_lt_succ _, rfl⟩
  | a :: l, i + 1, b, h => by
    unfold nthB at h
    obtain ⟨h1, h2⟩ := nthB_some l i b h
    exact ⟨Nat.succ_lt_succ h1, h2⟩
def sameK : IntKind → IntKind → Bool
  | .i64, .i64 | .u8, .u8 | .u32, .u32 | .u64, .u64 | .i8, .i8 | .i16, .i16 | .i32, .i32 | .u16, .u16 => true
  | _, _ => false
theorem sameK_refl (k : IntKind) : sameK k k = true := by cases k <;> rfl
theorem sameK_eq {a b : IntKind} (h : sameK a b = true) : a = b := by cases a <;> cases b <;> first | rfl | cases h
def pw : IntKind → Nat
  | .i64 | .u64 => 18446744073709551616
  | .i32 | .u32 => 4294967296
  | .i16 | .u16 => 65536
  | .i8 | .u8 => 256
theorem pw_eq (k : IntKind) : pw k = 2 ^ k.bits := by cases k <;> rfl
theorem ofInt_nat (w x : Nat) : (BitVec.ofInt w (x : Int)).toNat = x % 2 ^ w := by
  rw [BitVec.ofInt_natCast, BitVec.toNat_ofNat]

end Go.Proofs.YtmjolmggelkjlaaGreat.Ev

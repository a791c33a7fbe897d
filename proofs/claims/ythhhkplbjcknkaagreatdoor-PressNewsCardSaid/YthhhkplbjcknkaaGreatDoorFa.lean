/- Steps on numbers, texts and rows in a form that the kernel runs quickly; each is what the evaluator's second form has. No program in sight. -/
import Derived.Test.YthhhkplbjcknkaaGreatDoorEvXx
namespace Go.Proofs.YthhhkplbjcknkaaGreatDoor.Ev
set_option linter.unusedVariables false
set_option linter.unusedSimpArgs false
open Go Go.RowKit

def fwrap (k : IntKind) (z : Int) : Int := match k, z with
  | .i64, .ofNat m => match Nat.ble m 9223372036854775807 with
    | true => z
    | false => k.wrap z
  | .i64, .negSucc m => match Nat.ble m 9223372036854775807 with
    | true => z
    | false => k.wrap z
  | .u8, .ofNat m => .ofNat (m % 256)
  | .u32, .ofNat m => .ofNat (m % 4294967296)
  | .u64, .ofNat m => .ofNat (m % 18446744073709551616)
  | _, _ => k.wrap z
theorem fwrap_eq (k : IntKind) (z : Int) : fwrap k z = k.wrap z := by
  unfold fwrap
  split
  · rename_i m
    cases h : Nat.ble m 9223372036854775807 with
    | true =>
      have : m ≤ 9223372036854775807 := Nat.le_of_ble_eq_true h
      exact (wrap_id (x := ((m : Nat) : Int)) (by omega) (by omega)).symm
    | false => rfl
  · rename_i m
    cases h : Nat.ble m 9223372036854775807 with
    | true =>
      have : m ≤ 9223372036854775807 := Nat.le_of_ble_eq_true h
      exact (wrap_id (x := Int.negSucc m) (by omega) (by omega)).symm
    | false => rfl
  · rename_i m
    show ((m % 256 : Nat) : Int) = IntKind.u8.wrap m
    simp [IntKind.wrap, IntKind.bits, IntKind.signed]
  · rename_i m
    show ((m % 4294967296 : Nat) : Int) = IntKind.u32.wrap m
    simp [IntKind.wrap, IntKind.bits, IntKind.signed]
  · rename_i m
    show ((m % 18446744073709551616 : Nat) : Int) = IntKind.u64.wrap m
    simp [IntKind.wrap, IntKind.bits, IntKind.signed]
  · rfl
def iadd (a b : Int) : Int := match a, b with
  | .ofNat x, .ofNat y => .ofNat (Nat.add x y)
  | _, _ => a + b
theorem iadd_eq (a b : Int) : iadd a b = a + b := by unfold iadd; split <;> rfl
def isub (a b : Int) : Int := match a, b with
  | .ofNat x, .ofNat y => match Nat.ble y x with
    | true => .ofNat (Nat.sub x y)
    | false => .negSucc (Nat.sub (Nat.sub y x) 1)
  | _, _ => a - b
theorem isub_eq (a b : Int) : isub a b = a - b := by
  unfold isub
  split
  · rename_i x y
    cases h : Nat.ble y x with
    | true =>
      have := Nat.le_of_ble_eq_true h
      show ((x - y : Nat) : Int) = (x : Int) - y
      omega
    | false =>
      have : ¬ y ≤ x := fun q => by rw [Nat.ble_eq_true_of_le q] at h; cases h
      show Int.negSucc (y - x - 1) = (x : Int) - y
      omega
  · rfl
def imul (a b : Int) : Int := match a, b with
  | .ofNat x, .ofNat y => .ofNat (Nat.mul x y)
  | _, _ => a * b
theorem imul_eq (a b : Int) : imul a b = a * b := by unfold imul; split <;> rfl
def ieq (a b : Int) : Bool := match a, b with
  | .ofNat x, .ofNat y => Nat.beq x y
  | _, _ => a == b
theorem ieq_eq (a b : Int) : ieq a b = (a == b) := by
  unfold ieq
  split
  · rename_i x y
    cases h : Nat.beq x y with
    | true => rw [Nat.eq_of_beq_eq_true h]; simp
    | false =>
      have : x ≠ y := Nat.ne_of_beq_eq_false h
      symm
      rw [beq_eq_false_iff_ne]
      intro q
      exact this (Int.ofNat.inj q)
  · rfl
def ile (a b : Int) : Bool := match a, b with
  | .ofNat x, .ofNat y => Nat.ble x y
  | _, _ => decide (a ≤ b)
theorem ile_eq (a b : Int) : ile a b = decide (a ≤ b) := by
  unfold ile
  split
  · rename_i x y
    cases h : Nat.ble x y with
    | true =>
      have := Nat.le_of_ble_eq_true h
      symm
      rw [decide_eq_true_eq]
      show (x : Int) ≤ y
      omega
    | false =>
      have : ¬ x ≤ y := fun q => by rw [Nat.ble_eq_true_of_le q] at h; cases h
      symm
      rw [decide_eq_false_iff_not]
      show ¬ ((x : Int) ≤ y)
      omega
  · rfl
def ilt (a b : Int) : Bool := match a, b with
  | .ofNat x, .ofNat y => Nat.ble (Nat.succ x) y
  | _, _ => decide (a < b)
theorem ilt_eq (a b : Int) : ilt a b = decide (a < b) := by
  unfold ilt
  split
  · rename_i x y
    cases h : Nat.ble (Nat.succ x) y with
    | true =>
      have := Nat.le_of_ble_eq_true h
      symm
      rw [decide_eq_true_eq]
      show (x : Int) < y
      omega
    | false =>
      have : ¬ Nat.succ x ≤ y := fun q => by rw [Nat.ble_eq_true_of_le q] at h; cases h
      symm
      rw [decide_eq_false_iff_not]
      show ¬ ((x : Int) < y)
      omega
  · rfl
def beqB : List UInt8 → List UInt8 → Bool
  | [], [] => true
  | a :: l, b :: m => match Nat.beq a.toNat b.toNat with
    | true => beqB l m
    | false => false
  | _, _ => false
theorem beqB_eq : ∀ a b : List UInt8, beqB a b = decide (a = b)
  | [], [] => rfl
  | a :: l, b :: m => by
    unfold beqB
    cases h : Nat.beq a.toNat b.toNat with
    | true =>
      have e : a = b := UInt8.toNat_inj.1 (Nat.eq_of_beq_eq_true h)
      subst e
      simp only
      rw [beqB_eq l m]
      simp
    | false =>
      have e : a ≠ b := fun q => Nat.ne_of_beq_eq_false h (by rw [q])
      symm
      rw [decide_eq_false_iff_not]
      intro q
      exact e (List.cons.inj q).1
  | [], _ :: _ => by unfold beqB; simp
  | _ :: _, [] => by unfold beqB; simp
def appB : List UInt8 → List UInt8 → List UInt8
  | [], m => m
  | a :: l, m => a :: appB l m
theorem appB_eq : ∀ l m : List UInt8, appB l m = l ++ m
  | [], _ => rfl
  | a :: l, m => by unfold appB; rw [appB_eq l m]; rfl
def lenB : List UInt8 → Nat
  | [] => 0
  | _ :: l => Nat.succ (lenB l)
theorem lenB_eq : ∀ l : List UInt8, lenB l = l.length
  | [] => rfl
  | _ :: l => by unfold lenB; rw [lenB_eq l]; rfl
def nthB : List UInt8 → Nat → Option UInt8
  | [], _ => none
  | a :: l, i => match i with
    | 0 => some a
    | i + 1 => nthB l i
theorem nthB_some : ∀ (l : List UInt8) (i : Nat) (b : UInt8), nthB l i = some b → i < l.length ∧ l.getD i 0 = b
  | [], _, _, h => by cases h
  | a :: l, 0, b, h => by
    unfold nthB at h
    cases h
    exact ⟨Nat.zero_lt_succ _, rfl⟩
  | a :: l, i + 1, b, h => by
    unfold nthB at h
    obtain ⟨h1, h2⟩ := nthB_some l i b h
    exact ⟨Nat.succ_lt_succ h1, h2⟩
def sameK : IntKind → IntKind → Bool
  | .i64, .i64 | .u8, .u8 | .u32, .u32 | .u64, .u64 => true
  | _, _ => false
theorem sameK_eq {a b : IntKind} (h : sameK a b = true) : a = b := by cases a <;> cases b <;> first | rfl | cases h
def pw : IntKind → Nat
  | .i64 | .u64 => 18446744073709551616
  | .i32 | .u32 => 4294967296
  | .i16 | .u16 => 65536
  | .i8 | .u8 => 256
theorem pw_eq (k : IntKind) : pw k = 2 ^ k.bits := by cases k <;> rfl
theorem ofInt_nat (w x : Nat) : (BitVec.ofInt w (x : Int)).toNat = x % 2 ^ w := by
  rw [BitVec.ofInt_natCast, BitVec.toNat_ofNat]
section
variable (P : Program) (t : TypeId) (x y : Value)
def q_add : Option Value := match x with
  | .int k a => match y with
    | .int k' b => match sameK k k' with
      | true => some (.int k (fwrap k (iadd a b)))
      | false => bin2 P .add t x y
    | _ => bin2 P .add t x y
  | _ => bin2 P .add t x y
def q_sub : Option Value := match x with
  | .int k a => match y with
    | .int k' b => match sameK k k' with
      | true => some (.int k (fwrap k (isub a b)))
      | false => bin2 P .sub t x y
    | _ => bin2 P .sub t x y
  | _ => bin2 P .sub t x y
def q_mul : Option Value := match x with
  | .int k a => match y with
    | .int k' b => match sameK k k' with
      | true => some (.int k (fwrap k (imul a b)))
      | false => bin2 P .mul t x y
    | _ => bin2 P .mul t x y
  | _ => bin2 P .mul t x y
def q_eql : Option Value := match x with
  | .int k a => match y with
    | .int k' b => match sameK k k' with
      | true => some (.bool (ieq a b))
      | false => bin2 P .eql t x y
    | _ => bin2 P .eql t x y
  | _ => bin2 P .eql t x y
def q_neq : Option Value := match x with
  | .int k a => match y with
    | .int k' b => match sameK k k' with
      | true => some (.bool (!ieq a b))
      | false => bin2 P .neq t x y
    | _ => bin2 P .neq t x y
  | _ => bin2 P .neq t x y
def q_lss : Option Value := match x with
  | .int k a => match y with
    | .int k' b => match sameK k k' with
      | true => some (.bool (ilt a b))
      | false => bin2 P .lss t x y
    | _ => bin2 P .lss t x y
  | _ => bin2 P .lss t x y
def q_leq : Option Value := match x with
  | .int k a => match y with
    | .int k' b => match sameK k k' with
      | true => some (.bool (ile a b))
      | false => bin2 P .leq t x y
    | _ => bin2 P .leq t x y
  | _ => bin2 P .leq t x y
def q_gtr : Option Value := match x with
  | .int k a => match y with
    | .int k' b => match sameK k k' with
      | true => some (.bool (ilt b a))
      | false => bin2 P .gtr t x y
    | _ => bin2 P .gtr t x y
  | _ => bin2 P .gtr t x y
def q_geq : Option Value := match x with
  | .int k a => match y with
    | .int k' b => match sameK k k' with
      | true => some (.bool (ile b a))
      | false => bin2 P .geq t x y
    | _ => bin2 P .geq t x y
  | _ => bin2 P .geq t x y
def q_and : Option Value := match x with
  | .int k (.ofNat a) => match y with
    | .int k' (.ofNat b) => match sameK k k' with
      | true => some (.int k (fwrap k (.ofNat (Nat.land (Nat.mod a (pw k)) (Nat.mod b (pw k))))))
      | false => bin2 P .and t x y
    | _ => bin2 P .and t x y
  | _ => bin2 P .and t x y
def q_or : Option Value := match x with
  | .int k (.ofNat a) => match y with
    | .int k' (.ofNat b) => match sameK k k' with
      | true => some (.int k (fwrap k (.ofNat (Nat.lor (Nat.mod a (pw k)) (Nat.mod b (pw k))))))
      | false => bin2 P .or t x y
    | _ => bin2 P .or t x y
  | _ => bin2 P .or t x y
def q_xor : Option Value := match x with
  | .int k (.ofNat a) => match y with
    | .int k' (.ofNat b) => match sameK k k' with
      | true => some (.int k (fwrap k (.ofNat (Nat.xor (Nat.mod a (pw k)) (Nat.mod b (pw k))))))
      | false => bin2 P .xor t x y
    | _ => bin2 P .xor t x y
  | _ => bin2 P .xor t x y
def q_quo : Option Value := match x with
  | .int k (.ofNat a) => match y with
    | .int k' (.ofNat (b + 1)) => match sameK k k' with
      | true => some (.int k (fwrap k (.ofNat (Nat.div a (b + 1)))))
      | false => bin2 P .quo t x y
    | _ => bin2 P .quo t x y
  | _ => bin2 P .quo t x y
def q_rem : Option Value := match x with
  | .int k (.ofNat a) => match y with
    | .int k' (.ofNat (b + 1)) => match sameK k k' with
      | true => some (.int k (.ofNat (Nat.mod a (b + 1))))
      | false => bin2 P .rem t x y
    | _ => bin2 P .rem t x y
  | _ => bin2 P .rem t x y
def q_shl : Option Value := match x with
  | .int k (.ofNat a) => match y with
    | .int _ (.ofNat b) => some (.int k (fwrap k (.ofNat (Nat.mul a (Nat.pow 2 (Nat.min b k.bits))))))
    | _ => bin2 P .shl t x y
  | _ => bin2 P .shl t x y
def q_shr : Option Value := match x with
  | .int k (.ofNat a) => match y with
    | .int _ (.ofNat b) => some (.int k (.ofNat (Nat.div a (Nat.pow 2 (Nat.min b k.bits)))))
    | _ => bin2 P .shr t x y
  | _ => bin2 P .shr t x y
def qS_eql : Option Value := match x with
  | .string ⟨⟨a⟩⟩ => match y with
    | .string ⟨⟨b⟩⟩ => some (.bool (beqB a b))
    | _ => bin2 P .eql t x y
  | _ => bin2 P .eql t x y
def qS_neq : Option Value := match x with
  | .string ⟨⟨a⟩⟩ => match y with
    | .string ⟨⟨b⟩⟩ => some (.bool (!beqB a b))
    | _ => bin2 P .neq t x y
  | _ => bin2 P .neq t x y
def qS_add : Option Value := match x with
  | .string ⟨⟨a⟩⟩ => match y with
    | .string ⟨⟨b⟩⟩ => match Nat.ble (Nat.add (lenB a) (lenB b)) 9223372036854775807 with
      | true => some (.string ⟨⟨appB a b⟩⟩)
      | false => bin2 P .add t x y
    | _ => bin2 P .add t x y
  | _ => bin2 P .add t x y
end
section
variable {P : Program} {t : TypeId} (hn : isNilT P t = false)
include hn
theorem q_add_eq : q_add P t = bin2 P .add t := by
  funext x y
  unfold q_add
  split
  · rename_i k a
    split
    · rename_i k' b
      split
      · rename_i hk
        obtain rfl := sameK_eq hk
        rw [b_add hn, fwrap_eq, iadd_eq]
      · rfl
    · rfl
  · rfl
theorem q_sub_eq : q_sub P t = bin2 P .sub t := by
  funext x y
  unfold q_sub
  split
  · rename_i k a
    split
    · rename_i k' b
      split
      · rename_i hk
        obtain rfl := sameK_eq hk
        rw [b_sub hn, fwrap_eq, isub_eq]
      · rfl
    · rfl
  · rfl
theorem q_mul_eq : q_mul P t = bin2 P .mul t := by
  funext x y
  unfold q_mul
  split
  · rename_i k a
    split
    · rename_i k' b
      split
      · rename_i hk
        obtain rfl := sameK_eq hk
        rw [b_mul hn, fwrap_eq, imul_eq]
      · rfl
    · rfl
  · rfl
theorem q_eql_eq : q_eql P t = bin2 P .eql t := by
  funext x y
  unfold q_eql
  split
  · rename_i k a
    split
    · rename_i k' b
      split
      · rename_i hk
        obtain rfl := sameK_eq hk
        rw [b_eql hn, ieq_eq]
      · rfl
    · rfl
  · rfl
theorem q_neq_eq : q_neq P t = bin2 P .neq t := by
  funext x y
  unfold q_neq
  split
  · rename_i k a
    split
    · rename_i k' b
      split
      · rename_i hk
        obtain rfl := sameK_eq hk
        rw [b_neq hn, ieq_eq]; rfl
      · rfl
    · rfl
  · rfl
theorem q_lss_eq : q_lss P t = bin2 P .lss t := by
  funext x y
  unfold q_lss
  split
  · rename_i k a
    split
    · rename_i k' b
      split
      · rename_i hk
        obtain rfl := sameK_eq hk
        rw [b_lss hn, ilt_eq]
      · rfl
    · rfl
  · rfl
theorem q_leq_eq : q_leq P t = bin2 P .leq t := by
  funext x y
  unfold q_leq
  split
  · rename_i k a
    split
    · rename_i k' b
      split
      · rename_i hk
        obtain rfl := sameK_eq hk
        rw [b_leq hn, ile_eq]
      · rfl
    · rfl
  · rfl
theorem q_gtr_eq : q_gtr P t = bin2 P .gtr t := by
  funext x y
  unfold q_gtr
  split
  · rename_i k a
    split
    · rename_i k' b
      split
      · rename_i hk
        obtain rfl := sameK_eq hk
        rw [b_gtr hn, ilt_eq]
      · rfl
    · rfl
  · rfl
theorem q_geq_eq : q_geq P t = bin2 P .geq t := by
  funext x y
  unfold q_geq
  split
  · rename_i k a
    split
    · rename_i k' b
      split
      · rename_i hk
        obtain rfl := sameK_eq hk
        rw [b_geq hn, ile_eq]
      · rfl
    · rfl
  · rfl
theorem q_and_eq : q_and P t = bin2 P .and t := by
  funext x y
  unfold q_and
  split
  · rename_i k a
    split
    · rename_i k' b
      split
      · rename_i hk
        obtain rfl := sameK_eq hk
        have e := b_and hn (k := k) (a : Int) (b : Int)
        rw [BitVec.toNat_and, ofInt_nat, ofInt_nat, ← pw_eq] at e
        rw [fwrap_eq]
        exact e.symm
      · rfl
    · rfl
  · rfl
theorem q_or_eq : q_or P t = bin2 P .or t := by
  funext x y
  unfold q_or
  split
  · rename_i k a
    split
    · rename_i k' b
      split
      · rename_i hk
        obtain rfl := sameK_eq hk
        have e := b_or hn (k := k) (a : Int) (b : Int)
        rw [BitVec.toNat_or, ofInt_nat, ofInt_nat, ← pw_eq] at e
        rw [fwrap_eq]
        exact e.symm
      · rfl
    · rfl
  · rfl
theorem q_xor_eq : q_xor P t = bin2 P .xor t := by
  funext x y
  unfold q_xor
  split
  · rename_i k a
    split
    · rename_i k' b
      split
      · rename_i hk
        obtain rfl := sameK_eq hk
        have e := b_xor hn (k := k) (a : Int) (b : Int)
        rw [BitVec.toNat_xor, ofInt_nat, ofInt_nat, ← pw_eq] at e
        rw [fwrap_eq]
        exact e.symm
      · rfl
    · rfl
  · rfl
theorem q_quo_eq : q_quo P t = bin2 P .quo t := by
  funext x y
  unfold q_quo
  split
  · rename_i k a
    split
    · rename_i k' b
      split
      · rename_i hk
        obtain rfl := sameK_eq hk
        have e := b_quo hn (k := k) (a : Int) ((b + 1 : Nat) : Int) (by omega)
        rw [fwrap_eq]
        exact e.symm
      · rfl
    · rfl
  · rfl
theorem q_rem_eq : q_rem P t = bin2 P .rem t := by
  funext x y
  unfold q_rem
  split
  · rename_i k a
    split
    · rename_i k' b
      split
      · rename_i hk
        obtain rfl := sameK_eq hk
        have e := b_rem hn (k := k) (a : Int) ((b + 1 : Nat) : Int) (by omega)
        exact e.symm
      · rfl
    · rfl
  · rfl
theorem q_shl_eq : q_shl P t = bin2 P .shl t := by
  funext x y
  unfold q_shl
  split
  · rename_i k a
    split
    · rename_i k' b
      have e := b_shl hn (k := k) (k' := k') (a : Int) (b : Int) (by omega)
      rw [Int.toNat_natCast] at e
      rw [fwrap_eq]
      refine Eq.trans ?_ e.symm
      congr 3
    · rfl
  · rfl
theorem q_shr_eq : q_shr P t = bin2 P .shr t := by
  funext x y
  unfold q_shr
  split
  · rename_i k a
    split
    · rename_i k' b
      have e := b_shr hn (k := k) (k' := k') (a : Int) (b : Int) (by omega)
      rw [Int.toNat_natCast] at e
      refine Eq.trans ?_ e.symm
      congr 2
      show ((a / 2 ^ (min b k.bits) : Nat) : Int) = _
      have e2 : (2 : Int) ^ (min b k.bits) = ((2 ^ (min b k.bits) : Nat) : Int) := by simp
      rw [e2, Int.fdiv_eq_ediv_of_nonneg _ (Int.natCast_nonneg _), ← Int.natCast_ediv]
    · rfl
  · rfl
theorem qS_eql_eq : qS_eql P t = bin2 P .eql t := by
  funext x y
  unfold qS_eql
  split
  · rename_i a
    split
    · rename_i b
      rw [beqB_eq]
      exact (b_eqlS hn a b).symm
    · rfl
  · rfl
theorem qS_neq_eq : qS_neq P t = bin2 P .neq t := by
  funext x y
  unfold qS_neq
  split
  · rename_i a
    split
    · rename_i b
      rw [beqB_eq]
      exact (b_neqS hn a b).symm
    · rfl
  · rfl
theorem qS_add_eq : qS_add P t = bin2 P .add t := by
  funext x y
  unfold qS_add
  split
  · rename_i a
    split
    · rename_i b
      split
      · rename_i hle
        have := Nat.le_of_ble_eq_true hle
        rw [lenB_eq, lenB_eq] at this
        rw [appB_eq]
        exact (b_addS hn a b this).symm
      · rfl
    · rfl
  · rfl
end

end Go.Proofs.YthhhkplbjcknkaaGreatDoor.Ev

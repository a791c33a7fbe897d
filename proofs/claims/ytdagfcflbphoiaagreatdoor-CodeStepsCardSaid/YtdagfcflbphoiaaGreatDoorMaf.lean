import Derived.Test.YtdagfcflbphoiaaGreatDoorMae
import Derived.Test.YtdagfcflbphoiaaGreatDoorRows
namespace Go.Proofs.YtdagfcflbphoiaaGreatDoor.Ev
set_option linter.unusedVariables false
set_option linter.unusedSimpArgs false
open Go Go.RowKit

def fwrap (k : IntKind) (z : Int) : Int := match k, z with
  | .i64, .ofNat m => match Nat.ble m 9223372036854775807 with
    | true => z
    | false => k.wrap z
  | .i64, .negSucc m => match Nat.ble m 9223372036854775807 with
    | true => z
    | false => k.wrap z
  | .u8, .ofNat m => .ofNat (m % 256)
  | .u32, .ofNat m => .ofNat (m % 4294967296)
  | .u64, .ofNat m => .ofNat (m % 18446744073709551616)
  | _, _ => k.wrap z
theorem zalw (k : IntKind) (z : Int) : fwrap k z = k.wrap z := by
  unfold fwrap
  split
  · rename_i m
    cases h : Nat.ble m 9223372036854775807 with
    | true =>
      have : m ≤ 9223372036854775807 := Nat.le_of_ble_eq_true h
      exact (zaav (x := ((m : Nat) : Int)) (by omega) (by omega)).symm
    | false => rfl
  · rename_i m
    cases h : Nat.ble m 9223372036854775807 with
    | true =>
      have : m ≤ 9223372036854775807 := Nat.le_of_ble_eq_true h
      exact (zaav (x := Int.negSucc m) (by omega) (by omega)).symm
    | false => rfl
  · rename_i m
    show ((m % 256 : Nat) : Int) = IntKind.u8.wrap m
    simp [IntKind.wrap, IntKind.bits, IntKind.signed]
  · rename_i m
    show ((m % 4294967296 : Nat) : Int) = IntKind.u32.wrap m
    simp [IntKind.wrap, IntKind.bits, IntKind.signed]
  · rename_i m
    show ((m % 18446744073709551616 : Nat) : Int) = IntKind.u64.wrap m
    simp [IntKind.wrap, IntKind.bits, IntKind.signed]
  · rfl
def iadd (a b : Int) : Int := match a, b with
  | .ofNat x, .ofNat y => .ofNat (Nat.add x y)
  | _, _ => a + b
theorem zcic (a b : Int) : iadd a b = a + b := by unfold iadd; split <;> rfl
def isub (a b : Int) : Int := match a, b with
  | .ofNat x, .ofNat y => match Nat.ble y x with
    | true => .ofNat (Nat.sub x y)
    | false => .negSucc (Nat.sub (Nat.sub y x) 1)
  | _, _ => a - b
theorem zcif (a b : Int) : isub a b = a - b := by
  unfold isub
  split
  · rename_i x y
    cases h : Nat.ble y x with
    | true =>
      have := Nat.le_of_ble_eq_true h
      show ((x - y : Nat) : Int) = (x : Int) - y
      omega
    | false =>
      have : ¬ y ≤ x := fun q => by rw [Nat.ble_eq_true_of_le q] at h; cases h
      show Int.negSucc (y - x - 1) = (x : Int) - y
      omega
  · rfl
def imul (a b : Int) : Int := match a, b with
  | .ofNat x, .ofNat y => .ofNat (Nat.mul x y)
  | _, _ => a * b
theorem zchu (a b : Int) : imul a b = a * b := by unfold imul; split <;> rfl
def ieq (a b : Int) : Bool := match a, b with
  | .ofNat x, .ofNat y => Nat.beq x y
  | _, _ => a == b
theorem zcau (a b : Int) : ieq a b = (a == b) := by
  unfold ieq
  split
  · rename_i x y
    cases h : Nat.beq x y with
    | true => rw [Nat.eq_of_beq_eq_true h]; simp
    | false =>
      have : x ≠ y := Nat.ne_of_beq_eq_false h
      symm
      rw [beq_eq_false_iff_ne]
      intro q
      exact this (Int.ofNat.inj q)
  · rfl
def ile (a b : Int) : Bool := match a, b with
  | .ofNat x, .ofNat y => Nat.ble x y
  | _, _ => decide (a ≤ b)
theorem zccy (a b : Int) : ile a b = decide (a ≤ b) := by
  unfold ile
  split
  · rename_i x y
    cases h : Nat.ble x y with
    | true =>
      have := Nat.le_of_ble_eq_true h
      symm
      rw [decide_eq_true_eq]
      show (x : Int) ≤ y
      omega
    | false =>
      have : ¬ x ≤ y := fun q => by rw [Nat.ble_eq_true_of_le q] at h; cases h
      symm
      rw [decide_eq_false_iff_not]
      show ¬ ((x : Int) ≤ y)
      omega
  · rfl
def ilt (a b : Int) : Bool := match a, b with
  | .ofNat x, .ofNat y => Nat.ble (Nat.succ x) y
  | _, _ => decide (a < b)
theorem zcdb (a b : Int) : ilt a b = decide (a < b) := by
  unfold ilt
  split
  · rename_i x y
    cases h : Nat.ble (Nat.succ x) y with
    | true =>
      have := Nat.le_of_ble_eq_true h
      symm
      rw [decide_eq_true_eq]
      show (x : Int) < y
      omega
    | false =>
      have : ¬ Nat.succ x ≤ y := fun q => by rw [Nat.ble_eq_true_of_le q] at h; cases h
      symm
      rw [decide_eq_false_iff_not]
      show ¬ ((x : Int) < y)
      omega
  · rfl
def nthB : List UInt8 → Nat → Option UInt8
  | [], _ => none
  | a :: l, i => match i with
    | 0 => some a
    | i + 1 => nthB l i
theorem zbqj : ∀ (l : List UInt8) (i : Nat) (b : UInt8), nthB l i = some b → i < l.length ∧ l.getD i 0 = b
  | [], _, _, h => by cases h
  | a :: l, 0, b, h => by
    unfold nthB at h
    cases h
    exact ⟨Nat.zero_lt_succ _, rfl⟩
  | a :: l, i + 1, b, h => by
    unfold nthB at h
    obtain ⟨h1, h2⟩ := zbqj l i b h
    exact ⟨Nat.succ_lt_succ h1, h2⟩
def sameK : IntKind → IntKind → Bool
  | .i64, .i64 | .u8, .u8 | .u32, .u32 | .u64, .u64 => true
  | _, _ => false
theorem zaed {a b : IntKind} (h : sameK a b = true) : a = b := by cases a <;> cases b <;> first | rfl | cases h
def pw : IntKind → Nat
  | .i64 | .u64 => 18446744073709551616
  | .i32 | .u32 => 4294967296
  | .i16 | .u16 => 65536
  | .i8 | .u8 => 256
theorem pw_eq (k : IntKind) : pw k = 2 ^ k.bits := by cases k <;> rfl
theorem zazh (w x : Nat) : (BitVec.ofInt w (x : Int)).toNat = x % 2 ^ w := by
  rw [BitVec.ofInt_natCast, BitVec.toNat_ofNat]
section
variable (P : Program) (t : TypeId) (x y : Value)
def q_add : Option Value := match x with
  | .int k a => match y with
    | .int k' b => match sameK k k' with
      | true => some (.int k (fwrap k (iadd a b)))
      | false => bin2 P .add t x y
    | _ => bin2 P .add t x y
  | _ => bin2 P .add t x y
def q_sub : Option Value := match x with
  | .int k a => match y with
    | .int k' b => match sameK k k' with
      | true => some (.int k (fwrap k (isub a b)))
      | false => bin2 P .sub t x y
    | _ => bin2 P .sub t x y
  | _ => bin2 P .sub t x y
def q_mul : Option Value := match x with
  | .int k a => match y with
    | .int k' b => match sameK k k' with
      | true => some (.int k (fwrap k (imul a b)))
      | false => bin2 P .mul t x y
    | _ => bin2 P .mul t x y
  | _ => bin2 P .mul t x y
def q_eql : Option Value := match x with
  | .int k a => match y with
    | .int k' b => match sameK k k' with
      | true => some (.bool (ieq a b))
      | false => bin2 P .eql t x y
    | _ => bin2 P .eql t x y
  | _ => bin2 P .eql t x y
def q_neq : Option Value := match x with
  | .int k a => match y with
    | .int k' b => match sameK k k' with
      | true => some (.bool (!ieq a b))
      | false => bin2 P .neq t x y
    | _ => bin2 P .neq t x y
  | _ => bin2 P .neq t x y
def q_lss : Option Value := match x with
  | .int k a => match y with
    | .int k' b => match sameK k k' with
      | true => some (.bool (ilt a b))
      | false => bin2 P .lss t x y
    | _ => bin2 P .lss t x y
  | _ => bin2 P .lss t x y
def q_leq : Option Value := match x with
  | .int k a => match y with
    | .int k' b => match sameK k k' with
      | true => some (.bool (ile a b))
      | false => bin2 P .leq t x y
    | _ => bin2 P .leq t x y
  | _ => bin2 P .leq t x y
def q_gtr : Option Value := match x with
  | .int k a => match y with
    | .int k' b => match sameK k k' with
      | true => some (.bool (ilt b a))
      | false => bin2 P .gtr t x y
    | _ => bin2 P .gtr t x y
  | _ => bin2 P .gtr t x y
def q_geq : Option Value := match x with
  | .int k a => match y with
    | .int k' b => match sameK k k' with
      | true => some (.bool (ile b a))
      | false => bin2 P .geq t x y
    | _ => bin2 P .geq t x y
  | _ => bin2 P .geq t x y
def q_and : Option Value := match x with
  | .int k (.ofNat a) => match y with
    | .int k' (.ofNat b) => match sameK k k' with
      | true => some (.int k (fwrap k (.ofNat (Nat.land (Nat.mod a (pw k)) (Nat.mod b (pw k))))))
      | false => bin2 P .and t x y
    | _ => bin2 P .and t x y
  | _ => bin2 P .and t x y
def q_or : Option Value := match x with
  | .int k (.ofNat a) => match y with
    | .int k' (.ofNat b) => match sameK k k' with
      | true => some (.int k (fwrap k (.ofNat (Nat.lor (Nat.mod a (pw k)) (Nat.mod b (pw k))))))
      | false => bin2 P .or t x y
    | _ => bin2 P .or t x y
  | _ => bin2 P .or t x y
def q_quo : Option Value := match x with
  | .int k (.ofNat a) => match y with
    | .int k' (.ofNat (b + 1)) => match sameK k k' with
      | true => some (.int k (fwrap k (.ofNat (Nat.div a (b + 1)))))
      | false => bin2 P .quo t x y
    | _ => bin2 P .quo t x y
  | _ => bin2 P .quo t x y
def q_rem : Option Value := match x with
  | .int k (.ofNat a) => match y with
    | .int k' (.ofNat (b + 1)) => match sameK k k' with
      | true => some (.int k (.ofNat (Nat.mod a (b + 1))))
      | false => bin2 P .rem t x y
    | _ => bin2 P .rem t x y
  | _ => bin2 P .rem t x y
def q_shl : Option Value := match x with
  | .int k (.ofNat a) => match y with
    | .int _ (.ofNat b) => some (.int k (fwrap k (.ofNat (Nat.mul a (Nat.pow 2 (Nat.min b k.bits))))))
    | _ => bin2 P .shl t x y
  | _ => bin2 P .shl t x y
def q_shr : Option Value := match x with
  | .int k (.ofNat a) => match y with
    | .int _ (.ofNat b) => some (.int k (.ofNat (Nat.div a (Nat.pow 2 (Nat.min b k.bits)))))
    | _ => bin2 P .shr t x y
  | _ => bin2 P .shr t x y
end
section
variable {P : Program} {t : TypeId} (hn : isNilT P t = false)
include hn
theorem zaap : q_add P t = bin2 P .add t := by
  funext x y
  unfold q_add
  split
  · rename_i k a
    split
    · rename_i k' b
      split
      · rename_i hk
        obtain rfl := zaed hk
        rw [b_add hn, zalw, zcic]
      · rfl
    · rfl
  · rfl
theorem zabd : q_sub P t = bin2 P .sub t := by
  funext x y
  unfold q_sub
  split
  · rename_i k a
    split
    · rename_i k' b
      split
      · rename_i hk
        obtain rfl := zaed hk
        rw [b_sub hn, zalw, zcif]
      · rfl
    · rfl
  · rfl
theorem zain : q_mul P t = bin2 P .mul t := by
  funext x y
  unfold q_mul
  split
  · rename_i k a
    split
    · rename_i k' b
      split
      · rename_i hk
        obtain rfl := zaed hk
        rw [b_mul hn, zalw, zchu]
      · rfl
    · rfl
  · rfl
theorem zabk : q_eql P t = bin2 P .eql t := by
  funext x y
  unfold q_eql
  split
  · rename_i k a
    split
    · rename_i k' b
      split
      · rename_i hk
        obtain rfl := zaed hk
        rw [b_eql hn, zcau]
      · rfl
    · rfl
  · rfl
theorem zabg : q_neq P t = bin2 P .neq t := by
  funext x y
  unfold q_neq
  split
  · rename_i k a
    split
    · rename_i k' b
      split
      · rename_i hk
        obtain rfl := zaed hk
        rw [b_neq hn, zcau]; rfl
      · rfl
    · rfl
  · rfl
theorem zaat : q_lss P t = bin2 P .lss t := by
  funext x y
  unfold q_lss
  split
  · rename_i k a
    split
    · rename_i k' b
      split
      · rename_i hk
        obtain rfl := zaed hk
        rw [b_lss hn, zcdb]
      · rfl
    · rfl
  · rfl
theorem zafx : q_leq P t = bin2 P .leq t := by
  funext x y
  unfold q_leq
  split
  · rename_i k a
    split
    · rename_i k' b
      split
      · rename_i hk
        obtain rfl := zaed hk
        rw [b_leq hn, zccy]
      · rfl
    · rfl
  · rfl
theorem zacq : q_gtr P t = bin2 P .gtr t := by
  funext x y
  unfold q_gtr
  split
  · rename_i k a
    split
    · rename_i k' b
      split
      · rename_i hk
        obtain rfl := zaed hk
        rw [b_gtr hn, zcdb]
      · rfl
    · rfl
  · rfl
theorem zadp : q_geq P t = bin2 P .geq t := by
  funext x y
  unfold q_geq
  split
  · rename_i k a
    split
    · rename_i k' b
      split
      · rename_i hk
        obtain rfl := zaed hk
        rw [b_geq hn, zccy]
      · rfl
    · rfl
  · rfl
theorem zbky : q_and P t = bin2 P .and t := by
  funext x y
  unfold q_and
  split
  · rename_i k a
    split
    · rename_i k' b
      split
      · rename_i hk
        obtain rfl := zaed hk
        have e := b_and hn (k := k) (a : Int) (b : Int)
        rw [BitVec.toNat_and, zazh, zazh, ← pw_eq] at e
        rw [zalw]
        exact e.symm
      · rfl
    · rfl
  · rfl
theorem zbwr : q_or P t = bin2 P .or t := by
  funext x y
  unfold q_or
  split
  · rename_i k a
    split
    · rename_i k' b
      split
      · rename_i hk
        obtain rfl := zaed hk
        have e := b_or hn (k := k) (a : Int) (b : Int)
        rw [BitVec.toNat_or, zazh, zazh, ← pw_eq] at e
        rw [zalw]
        exact e.symm
      · rfl
    · rfl
  · rfl
theorem zato : q_quo P t = bin2 P .quo t := by
  funext x y
  unfold q_quo
  split
  · rename_i k a
    split
    · rename_i k' b
      split
      · rename_i hk
        obtain rfl := zaed hk
        have e := b_quo hn (k := k) (a : Int) ((b + 1 : Nat) : Int) (by omega)
        rw [zalw]
        exact e.symm
      · rfl
    · rfl
  · rfl
theorem zbkr : q_rem P t = bin2 P .rem t := by
  funext x y
  unfold q_rem
  split
  · rename_i k a
    split
    · rename_i k' b
      split
      · rename_i hk
        obtain rfl := zaed hk
        have e := b_rem hn (k := k) (a : Int) ((b + 1 : Nat) : Int) (by omega)
        exact e.symm
      · rfl
    · rfl
  · rfl
theorem zbet : q_shl P t = bin2 P .shl t := by
  funext x y
  unfold q_shl
  split
  · rename_i k a
    split
    · rename_i k' b
      have e := b_shl hn (k := k) (k' := k') (a : Int) (b : Int) (by omega)
      rw [Int.toNat_natCast] at e
      rw [zalw]
      refine Eq.trans ?_ e.symm
      congr 3
    · rfl
  · rfl
theorem zalq : q_shr P t = bin2 P .shr t := by
  funext x y
  unfold q_shr
  split
  · rename_i k a
    split
    · rename_i k' b
      have e := b_shr hn (k := k) (k' := k') (a : Int) (b : Int) (by omega)
      rw [Int.toNat_natCast] at e
      refine Eq.trans ?_ e.symm
      congr 2
      show ((a / 2 ^ (min b k.bits) : Nat) : Int) = _
      have e2 : (2 : Int) ^ (min b k.bits) = ((2 ^ (min b k.bits) : Nat) : Int) := by simp
      rw [e2, Int.fdiv_eq_ediv_of_nonneg _ (Int.natCast_nonneg _), ← Int.natCast_ediv]
    · rfl
  · rfl
end

end Go.Proofs.YtdagfcflbphoiaaGreatDoor.Ev
namespace Go.Proofs.YtdagfcflbphoiaaGreatDoor.Ev
set_option linter.unusedVariables false
set_option linter.unusedSimpArgs false
open Go Go.RowKit

noncomputable def un3 (P : Program) (op : UnOp) (x : Value) : Option Value := match op, x with
  | .not, .bool true => some (.bool false)
  | .not, .bool false => some (.bool true)
  | _, _ => un2 P op x
theorem zack (P : Program) (op : UnOp) : un3 P op = un2 P op := by
  funext x
  unfold un3
  split <;> rfl
noncomputable def zbsf (P : Program) (t : TypeId) (x ix : Value) : Option Value := match x, ix with
  | .string ⟨⟨l⟩⟩, .int _ (.ofNat i) => match nthB l i with
    | some b => some (.int .u8 (.ofNat b.toNat))
    | none => zaee P t x ix
  | _, _ => zaee P t x ix
theorem zcei {P : Program} {t : TypeId} (h : P.underlying t = some .string) : zbsf P t = zaee P t := by
  funext x ix
  unfold zbsf
  split
  · rename_i l k i
    split
    · rename_i b hb
      obtain ⟨h1, h2⟩ := zbqj _ _ _ hb
      have := zbva h l k (i : Int) (by omega) (by omega)
      rw [Int.toNat_natCast, h2] at this
      exact this.symm
    · rfl
  · rfl
noncomputable def get3 {α : Type} : Nat → Tr α → Nat → Option α
  | 0, _, _ => none
  | _ + 1, .nil, _ => none
  | f + 1, .node l v r, i => match Nat.beq i 0 with
    | true => v
    | false => match Nat.beq (Nat.mod i 2) 1 with
      | true => get3 f l (Nat.div i 2)
      | false => get3 f r (Nat.pred (Nat.div i 2))
theorem zaoy (a b : Nat) : Nat.beq a b = decide (a = b) := by
  cases h : Nat.beq a b with
  | true => rw [Nat.eq_of_beq_eq_true h]; simp
  | false => have := Nat.ne_of_beq_eq_false h; simp [this]
theorem zbnw {α : Type} : ∀ (f : Nat) (t : Tr α) (i : Nat), get3 f t i = Tr.get f t i
  | 0, _, _ => rfl
  | _ + 1, .nil, _ => rfl
  | f + 1, .node l v r, i => by
    unfold get3 Tr.get
    rw [zaoy, zaoy]
    by_cases h0 : i = 0
    · simp [h0]
    · by_cases h1 : i % 2 = 1
      · have h1' : Nat.mod i 2 = 1 := h1
        simp only [h0, h1, h1', decide_true, decide_false, if_true, if_false]
        exact zbnw f l (i / 2)
      · have h1' : ¬ Nat.mod i 2 = 1 := h1
        simp only [h0, h1, h1', decide_false, if_false]
        exact zbnw f r (i / 2 - 1)
noncomputable def set3 {α : Type} : Nat → Tr α → Nat → Option α → Tr α
  | 0, t, _, _ => t
  | f + 1, .nil, i, a => match Nat.beq i 0 with
    | true => .node .nil a .nil
    | false => match Nat.beq (Nat.mod i 2) 1 with
      | true => .node (set3 f .nil (Nat.div i 2) a) none .nil
      | false => .node .nil none (set3 f .nil (Nat.pred (Nat.div i 2)) a)
  | f + 1, .node l v r, i, a => match Nat.beq i 0 with
    | true => .node l a r
    | false => match Nat.beq (Nat.mod i 2) 1 with
      | true => .node (set3 f l (Nat.div i 2) a) v r
      | false => .node l v (set3 f r (Nat.pred (Nat.div i 2)) a)
theorem zbcp {α : Type} : ∀ (f : Nat) (t : Tr α) (i : Nat) (a : Option α), set3 f t i a = Tr.set f t i a
  | 0, _, _, _ => rfl
  | f + 1, .nil, i, a => by
    unfold set3 Tr.set
    rw [zaoy, zaoy]
    by_cases h0 : i = 0
    · simp [h0]
    · by_cases h1 : i % 2 = 1
      · have h1' : Nat.mod i 2 = 1 := h1
        simp only [h0, h1, h1', decide_true, decide_false, if_true, if_false]
        rw [zbcp f .nil]; rfl
      · have h1' : ¬ Nat.mod i 2 = 1 := h1
        simp only [h0, h1, h1', decide_false, if_false]
        rw [zbcp f .nil]; rfl
  | f + 1, .node l v r, i, a => by
    unfold set3 Tr.set
    rw [zaoy, zaoy]
    by_cases h0 : i = 0
    · simp [h0]
    · by_cases h1 : i % 2 = 1
      · have h1' : Nat.mod i 2 = 1 := h1
        simp only [h0, h1, h1', decide_true, decide_false, if_true, if_false]
        rw [zbcp f l]; rfl
      · have h1' : ¬ Nat.mod i 2 = 1 := h1
        simp only [h0, h1, h1', decide_false, if_false]
        rw [zbcp f r]; rfl
noncomputable def getR {α : Type} (t : Tr α) : Nat → Option α := Tr.rec (motive := fun _ => Nat → Option α) (fun _ => none) (fun _ v _ ihl ihr i => match Nat.beq i 0 with
    | true => v
    | false => match Nat.beq (Nat.mod i 2) 1 with
      | true => ihl (Nat.div i 2)
      | false => ihr (Nat.pred (Nat.div i 2))) t
theorem zbpb {α : Type} : ∀ (t : Tr α) (f i : Nat), i < f → getR t i = get3 f t i
  | .nil, 0, i, h => by omega
  | .nil, f + 1, i, h => rfl
  | .node l v r, 0, i, h => by omega
  | .node l v r, f + 1, i, h => by
    show (match Nat.beq i 0 with
      | true => v
      | false => match Nat.beq (Nat.mod i 2) 1 with
        | true => getR l (Nat.div i 2)
        | false => getR r (Nat.pred (Nat.div i 2))) = _
    unfold get3
    cases h0 : Nat.beq i 0 with
    | true => rfl
    | false =>
      have hi : i ≠ 0 := fun q => by subst q; simp at h0
      have h1 : i / 2 < f := by omega
      have h2 : Nat.div i 2 = i / 2 := rfl
      have h3 : Nat.pred (i / 2) = i / 2 - 1 := rfl
      simp only [h2, h3]
      rw [zbpb l f (i / 2) h1, zbpb r f (i / 2 - 1) (by omega)]
noncomputable def setR {α : Type} (t : Tr α) : Nat → Option α → Tr α := Tr.rec (motive := fun _ => Nat → Option α → Tr α) (fun i a => set3 (Nat.succ i) .nil i a) (fun l v r ihl ihr i a => match Nat.beq i 0 with
    | true => .node l a r
    | false => match Nat.beq (Nat.mod i 2) 1 with
      | true => .node (ihl (Nat.div i 2) a) v r
      | false => .node l v (ihr (Nat.pred (Nat.div i 2)) a)) t
theorem zblf {α : Type} (a : Option α) : ∀ (f i g : Nat), i < f → i < g → set3 f .nil i a = set3 g .nil i a
  | 0, _, _, h, _ => by omega
  | f + 1, _, 0, _, h => by omega
  | f + 1, i, g + 1, h, h' => by
    unfold set3
    cases h0 : Nat.beq i 0 with
    | true => rfl
    | false =>
      have hi : i ≠ 0 := fun q => by subst q; simp at h0
      have h2 : Nat.div i 2 = i / 2 := rfl
      have h3 : Nat.pred (i / 2) = i / 2 - 1 := rfl
      simp only [h2, h3]
      rw [zblf a f (i / 2) g (by omega) (by omega), zblf a f (i / 2 - 1) g (by omega) (by omega)]
theorem zbph {α : Type} (a : Option α) : ∀ (t : Tr α) (f i : Nat), i < f → setR t i a = set3 f t i a
  | .nil, f, i, h => zblf a _ _ _ (Nat.lt_succ_self i) h
  | .node l v r, 0, i, h => by omega
  | .node l v r, f + 1, i, h => by
    show (match Nat.beq i 0 with
      | true => Tr.node l a r
      | false => match Nat.beq (Nat.mod i 2) 1 with
        | true => Tr.node (setR l (Nat.div i 2) a) v r
        | false => Tr.node l v (setR r (Nat.pred (Nat.div i 2)) a)) = _
    unfold set3
    cases h0 : Nat.beq i 0 with
    | true => rfl
    | false =>
      have hi : i ≠ 0 := fun q => by subst q; simp at h0
      have h2 : Nat.div i 2 = i / 2 := rfl
      have h3 : Nat.pred (i / 2) = i / 2 - 1 := rfl
      simp only [h2, h3]
      rw [zbph a l f (i / 2) (by omega), zbph a r f (i / 2 - 1) (by omega)]
noncomputable def hget (h : H) (b : Nat) : Option AB := getR h b
theorem zapa (h : H) (b : Nat) : hget h b = h.get b := (zbpb h (b + 1) b (Nat.lt_succ_self b)).trans (zbnw _ _ _)
noncomputable def hset (h : H) (b : Nat) (x : Option AB) : H := setR h b x
theorem zbnx (h : H) (b : Nat) (x : Option AB) : hset h b x = h.set b x := (zbph x h (b + 1) b (Nat.lt_succ_self b)).trans (zbcp _ _ _ _)
theorem zaiw (a b : Nat) : Nat.ble a b = decide (a ≤ b) := by
  cases h : Nat.ble a b with
  | true => have := Nat.le_of_ble_eq_true h; simp [this]
  | false =>
    have : ¬ a ≤ b := fun q => by rw [Nat.ble_eq_true_of_le q] at h; cases h
    simp [this]
noncomputable def nthV (l : List Value) : Nat → Option Value := List.rec (motive := fun _ => Nat → Option Value) (fun _ => none) (fun a _ ih i => Nat.rec (motive := fun _ => Option Value) (some a) (fun j _ => ih j) i) l
theorem zbwb : ∀ (l : List Value) (i : Nat), nthV l i = l[i]?
  | [], _ => rfl
  | _ :: _, 0 => rfl
  | a :: l, i + 1 => by
    show nthV l i = _
    rw [zbwb l i]; rfl
noncomputable def setV (l : List Value) : Nat → Value → Option (List Value) := List.rec (motive := fun _ => Nat → Value → Option (List Value)) (fun _ _ => none) (fun a l ih i v => Nat.rec (motive := fun _ => Option (List Value)) (some (v :: l)) (fun j _ => match ih j v with
    | some l' => some (a :: l')
    | none => none) i) l
theorem zbvk : ∀ (l : List Value) (i : Nat) (v : Value), setV l i v = if i < l.length then some (l.set i v) else none
  | [], i, v => by show none = _; simp
  | a :: l, 0, v => by show some (v :: l) = _; simp
  | a :: l, i + 1, v => by
    show (match setV l i v with
      | some l' => some (a :: l')
      | none => none) = _
    rw [zbvk l i v]
    by_cases h : i < l.length
    · simp [h]
    · simp [h]
noncomputable def rd3 (b k : Nat) : M Value := fun h n => match Nat.ble (Nat.succ b) n with
  | true => match hget h b with
    | some B => match nthV B.cells k with
      | some v => some ⟨v, h, n, [⟨false, b, some k⟩]⟩
      | none => none
    | none => none
  | false => none
theorem zckn : rd3 = rd := by
  funext b k h n
  unfold rd3 rd
  rw [zaiw, zapa]
  by_cases hb : b < n
  · have : b.succ ≤ n := hb
    simp only [hb, this, decide_true, if_true]
    cases h.get b with
    | none => rfl
    | some B => simp only [zbwb]; rfl
  · have : ¬ b.succ ≤ n := hb
    simp only [hb, this, decide_false, if_false]
noncomputable def wr3 (b k : Nat) (v : Value) : M Unit := fun h n => match Nat.ble (Nat.succ b) n with
  | true => match hget h b with
    | some B => match B.own with
      | true => match one v with
        | true => match setV B.cells k v with
          | some cs => some ⟨(), hset h b (some ⟨B.elem, true, cs⟩), n, [⟨false, b, some k⟩, ⟨true, b, some k⟩]⟩
          | none => none
        | false => none
      | false => none
    | none => none
  | false => none
theorem zcbm : wr3 = wr := by
  funext b k v h n
  unfold wr3 wr
  rw [zaiw, zapa]
  by_cases hb : b < n
  · have : b.succ ≤ n := hb
    simp only [hb, this, decide_true, if_true]
    cases h.get b with
    | none => rfl
    | some B =>
      obtain ⟨e, o, cs⟩ := B
      simp only [zbvk, zbnx]
      cases o with
      | false => simp
      | true =>
        cases h1 : one v with
        | false => simp
        | true =>
          by_cases hk : k < cs.length
          · simp [hk]
          · simp [hk]
  · have : ¬ b.succ ≤ n := hb
    simp only [hb, this, decide_false, if_false]
noncomputable def newB3 (e : TypeId) (cs : List Value) : M Nat := fun h n => some ⟨n, hset h n (some ⟨e, true, cs⟩), Nat.succ n, []⟩
theorem zayl : newB3 = newB := by
  funext e cs h n
  unfold newB3 newB
  rw [if_pos (Nat.lt_succ_self n), zbnx]
noncomputable def hdr3 (b : Nat) : M TypeId := fun h n => match Nat.ble (Nat.succ b) n with
  | true => match hget h b with
    | some B => some ⟨B.elem, h, n, [⟨false, b, some 1099511627776⟩]⟩
    | none => none
  | false => none
theorem zchx : hdr3 = hdr := by
  funext b h n
  unfold hdr3 hdr
  rw [zaiw, zapa]
  by_cases hb : b < n
  · have : b.succ ≤ n := hb
    simp only [hb, this, decide_true, if_true]
    rfl
  · have : ¬ b.succ ≤ n := hb
    simp only [hb, this, decide_false, if_false]
noncomputable def kill3 (b : Nat) : M Unit := fun h n => match Nat.ble (Nat.succ b) n with
  | true => match hget h b with
    | some B => match B.own with
      | true => some ⟨(), hset h b none, n, [⟨false, b, none⟩, ⟨true, b, none⟩]⟩
      | false => none
    | none => none
  | false => none
theorem zcfr : kill3 = kill := by
  funext b h n
  unfold kill3 kill
  rw [zaiw, zapa]
  by_cases hb : b < n
  · have : b.succ ≤ n := hb
    simp only [hb, this, decide_true, if_true]
    cases h.get b with
    | none => rfl
    | some B =>
      simp only [zbnx]
      cases B.own <;> simp
  · have : ¬ b.succ ≤ n := hb
    simp only [hb, this, decide_false, if_false]
noncomputable def wrN3 (b k : Nat) : List Value → M Unit
  | [] => .ret ()
  | v :: vs => (wr3 b k v).bind fun _ => wrN3 b (Nat.succ k) vs
theorem zbzb (b : Nat) : ∀ (vs : List Value) (k : Nat), wrN3 b k vs = wrN b k vs
  | [], _ => rfl
  | v :: vs, k => by
    unfold wrN3 wrN
    rw [zcbm, zbzb b vs (Nat.succ k)]
theorem zbwh : wrN3 = wrN := by funext b k vs; exact zbzb b vs k
noncomputable def zaai (P : Program) (t : TypeId) (x : Value) : M Value := match x with
  | .pointer (some ⟨b, off, none⟩) => rd3 b off
  | x => evLoad P t x
theorem zaaj {P : Program} {t : TypeId} (h : agg? P t = some false) : zaai P t = evLoad P t := by
  funext x
  unfold zaai
  split
  · unfold evLoad
    rw [h, zckn]
  · rfl
noncomputable def zaaq (P : Program) (t : TypeId) (a x : Value) : M Value := match a, one x with
  | .pointer (some ⟨b, off, none⟩), true => (wr3 b off x).bind fun _ => .ret undef
  | _, _ => evStore P t a x
theorem zaao {P : Program} {t : TypeId} (h : size? P t = some 1) : zaaq P t = evStore P t := by
  funext a x
  unfold zaaq
  split
  · rename_i b off h1
    have hc : x.cells = #[x] := by cases x <;> first | rfl | (simp [one] at h1)
    unfold evStore
    simp only [h, hc]
    rw [zcbm]
    funext hh n
    show _ = ((wrN b off [x]).bind fun _ => M.ret undef) hh n
    unfold wrN wrN M.bind
    cases wr b off x hh n with
    | none => rfl
    | some o => simp [M.ret]
  · rfl
noncomputable def evFA3 (P : Program) (s : TypeId) (K : Nat) (x : Value) (f : Nat) : Option Value := match x with
  | .pointer (some ⟨b, off, none⟩) => some (.pointer (some ⟨b, Nat.add off K, none⟩))
  | x => evFieldAddr P s x f
theorem zaal {P : Program} {s : TypeId} {K f : Nat} (h : ∀ b off : Nat, evFieldAddr P s (.pointer (some ⟨b, off, none⟩)) f = some (.pointer (some ⟨b, off + K, none⟩))) (x : Value) : evFA3 P s K x f = evFieldAddr P s x f := by
  unfold evFA3
  split
  · rename_i b off
    exact (h b off).symm
  · rfl
noncomputable def evIA3 (P : Program) (t : TypeId) (sz : Nat) (x ix : Value) : Option Value := match x, ix with
  | .slice (some ⟨b, off, none⟩) len _, .int _ (.ofNat i) => match Nat.ble (Nat.succ i) len with
    | true => some (.pointer (some ⟨b, Nat.add off (Nat.mul i sz), none⟩))
    | false => none
  | x, ix => evIndexAddr P t x ix
theorem zaax {P : Program} {t e : TypeId} {sz : Nat} (hu : P.underlying t = some (.slice e)) (hs : size? P e = some sz) : evIA3 P t sz = evIndexAddr P t := by
  funext x ix
  unfold evIA3
  split
  · rename_i b off len c k i
    rw [zaiw]
    unfold evIndexAddr
    simp only [hu, hs]
    by_cases hi : i < len
    · have h1 : i.succ ≤ len := hi
      have h2 : (0 : Int) ≤ Int.ofNat i ∧ Int.ofNat i < (len : Int) := ⟨Int.natCast_nonneg i, Int.ofNat_lt.2 hi⟩
      simp only [h1, decide_true, h2, and_self, if_true]
      rfl
    · have h1 : ¬ i.succ ≤ len := hi
      have h2 : ¬ ((0 : Int) ≤ Int.ofNat i ∧ Int.ofNat i < (len : Int)) := fun q => hi (Int.ofNat_lt.1 q.2)
      simp only [h1, decide_false, h2, if_false]
  · rfl
noncomputable def zagy (P : Program) (e : TypeId) (v : Value) : M Value :=
  match size? P e with
  | some _ => (newB3 e v.cells.toList).bind fun id => .ret (.pointer (some ⟨id, 0, none⟩))
  | none => .fail
theorem zafd (P : Program) : zagy P = evBox P := by
  funext e v
  unfold zagy evBox
  rw [zayl]
  rfl
noncomputable def zbhi (e : TypeId) (l n : Nat) (old new : List Value) : M Value :=
  (newB3 e (old ++ new)).bind fun id => .ret (.slice (some ⟨id, 0, none⟩) (l + n) (CAP + (l + n)))
theorem zcbf : zbhi = evNew := by
  funext e l n old new
  unfold zbhi evNew
  rw [zayl]
noncomputable def lenV (l : List Value) : Nat := List.rec (motive := fun _ => Nat) 0 (fun _ _ ih => Nat.succ ih) l
theorem zawx : ∀ l : List Value, lenV l = l.length
  | [] => rfl
  | a :: l => by
    show Nat.succ (lenV l) = _
    rw [zawx l]; rfl
noncomputable def rdLog (b k : Nat) : Nat → List En
  | 0 => []
  | c + 1 => ⟨false, b, some k⟩ :: rdLog b (k + 1) c
noncomputable def rdN3 (b k c : Nat) : M (List Value) := fun h n => match c with
  | 0 => some ⟨[], h, n, []⟩
  | c + 1 => match Nat.ble (Nat.succ b) n with
    | true => match hget h b with
      | some B => match Nat.ble (Nat.add k (c + 1)) (lenV B.cells) with
        | true => some ⟨(B.cells.drop k).take (c + 1), h, n, rdLog b k (c + 1)⟩
        | false => none
      | none => none
    | false => none
theorem zbvw (b : Nat) (h : H) (n : Nat) : ∀ c k : Nat, rdN3 b k c h n = rdN b k c h n
  | 0, _ => rfl
  | c + 1, k => by
    have ih := zbvw b h n c (k + 1)
    have e0 : rdN b k (c + 1) h n = ((rd b k).bind fun v => (rdN b (k + 1) c).bind fun vs => M.ret (v :: vs)) h n := rfl
    rw [e0]
    unfold M.bind
    cases hb : Nat.ble (Nat.succ b) n with
    | false =>
      have hlt : ¬ b < n := fun q => by rw [Nat.ble_eq_true_of_le q] at hb; cases hb
      have hrd : rd b k h n = none := by unfold rd; rw [if_neg hlt]
      have hl : rdN3 b k (c + 1) h n = none := by unfold rdN3; simp only [hb]
      rw [hl]; simp only [hrd]
    | true =>
      have hlt : b < n := Nat.le_of_ble_eq_true hb
      cases hg : h.get b with
      | none =>
        have hrd : rd b k h n = none := by unfold rd; rw [if_pos hlt, hg]
        have hl : rdN3 b k (c + 1) h n = none := by unfold rdN3; simp only [hb, zapa, hg]
        rw [hl]; simp only [hrd]
      | some B =>
        cases hv : B.cells[k]? with
        | none =>
          have hle : B.cells.length ≤ k := List.getElem?_eq_none_iff.1 hv
          have hq : Nat.ble (Nat.add k (c + 1)) (lenV B.cells) = false := by
            rw [zawx]
            cases hq : Nat.ble (Nat.add k (c + 1)) B.cells.length with
            | false => rfl
            | true =>
              have := Nat.le_of_ble_eq_true hq
              have e : Nat.add k (c + 1) = k + (c + 1) := rfl
              omega
          have hrd : rd b k h n = none := by unfold rd; rw [if_pos hlt, hg]; simp only [hv]
          have hl : rdN3 b k (c + 1) h n = none := by unfold rdN3; simp only [hb, zapa, hg, hq]
          rw [hl]; simp only [hrd]
        | some v =>
          have hkl : k < B.cells.length := (List.getElem?_eq_some_iff.1 hv).1
          have hd : B.cells.drop k = v :: B.cells.drop (k + 1) := by
            rw [List.drop_eq_getElem_cons hkl]
            rw [List.getElem?_eq_getElem hkl] at hv
            cases hv
            rfl
          have hrd : rd b k h n = some ⟨v, h, n, [⟨false, b, some k⟩]⟩ := by
            unfold rd
            rw [if_pos hlt, hg]
            simp only [hv]
          simp only [hrd, ← ih]
          match c with
          | 0 =>
            have hq : Nat.ble (Nat.add k (0 + 1)) (lenV B.cells) = true := by
              rw [zawx]
              exact Nat.ble_eq_true_of_le (by show k + 1 ≤ _; omega)
            unfold rdN3
            simp only [hb, zapa, hg, hq, hd]
            simp [rdLog, M.ret]
          | c + 1 =>
            have e : Nat.add k (c + 1 + 1) = Nat.add (k + 1) (c + 1) := by
              show k + (c + 1 + 1) = k + 1 + (c + 1)
              omega
            unfold rdN3
            simp only [hb, zapa, hg, e]
            cases Nat.ble (Nat.add (k + 1) (c + 1)) (lenV B.cells) with
            | false => rfl
            | true =>
              simp only [M.ret, hd, List.take_succ_cons]
              simp [rdLog]
theorem zbjc : rdN3 = rdN := by funext b k c h n; exact zbvw b h n c k
noncomputable def bytesL : List Value → Option (List UInt8)
  | [] => some []
  | .int .u8 n :: r => match bytesL r with
    | some l => some (UInt8.ofNat n.toNat :: l)
    | none => none
  | _ => none
theorem zccl : ∀ (vs : List Value) (acc : List UInt8), bytesOf vs ⟨⟨acc⟩⟩ = (bytesL vs).map fun l => ⟨⟨acc ++ l⟩⟩ := by
  intro vs
  induction vs with
  | nil => intro acc; simp [bytesOf, bytesL]
  | cons v r ih =>
    intro acc
    cases v <;> try rfl
    rename_i k n
    cases k <;> try rfl
    show bytesOf r (ByteArray.push ⟨⟨acc⟩⟩ (UInt8.ofNat n.toNat)) = Option.map _ (match bytesL r with
      | some l => some (UInt8.ofNat n.toNat :: l)
      | none => none)
    have e : (ByteArray.push ⟨⟨acc⟩⟩ (UInt8.ofNat n.toNat)) = ⟨⟨acc ++ [UInt8.ofNat n.toNat]⟩⟩ := by
      apply ByteArray.ext
      simp [ByteArray.push]
    rw [e, ih]
    cases bytesL r with
    | none => rfl
    | some l => simp
noncomputable def zbkm : Value → M Value
  | .slice (some ⟨b, off, none⟩) len _ => (rdN3 b off len).bind fun vs => match bytesL vs with
    | some l => .ret (.string ⟨⟨l⟩⟩)
    | none => .fail
  | x => evToStr x
theorem zbus : zbkm = evToStr := by
  funext x
  unfold zbkm
  split
  · rename_i b off len c
    unfold evToStr
    rw [zbjc]
    congr 1
    funext vs
    have := zccl vs []
    have e : (ByteArray.empty) = ⟨⟨[]⟩⟩ := rfl
    rw [e, this]
    cases bytesL vs with
    | none => rfl
    | some l => simp
  · rfl
noncomputable def zbhv (sz : Nat) (n : Nat) : Value → M (List Value)
  | .slice (some ⟨b, off, none⟩) _ _ => rdN3 b off (n * sz)
  | .string ⟨⟨l⟩⟩ => .ret ((l.take n).map fun b => Value.int .u8 (.ofNat b.toNat))
  | _ => .fail
theorem zcdl : zbhv = elemsOf := by
  funext sz n x
  cases x <;> try rfl
  · rename_i s
    obtain ⟨⟨l⟩⟩ := s
    unfold zbhv elemsOf
    simp only
    congr 1
    simp [ByteArray.data_extract]
  · rename_i a len cap
    cases a with
    | none => rfl
    | some a =>
      obtain ⟨b, off, p⟩ := a
      cases p with
      | none => unfold zbhv elemsOf; rw [zbjc]
      | some p => rfl
noncomputable def zbkb (e : TypeId) (n sz b off l cap : Nat) (new : List Value) : M Value :=
  if cap < CAP then
    if l + n ≤ cap then (wrN3 b (off + l * sz) new).bind fun _ => .ret (.slice (some ⟨b, off, none⟩) (l + n) cap)
    else (rdN3 b off (l * sz)).bind fun old => zbhi e l n old new
  else (rdN3 b off (l * sz)).bind fun old => (kill3 b).bind fun _ => zbhi e l n old new
noncomputable def zach (P : Program) (sType : TypeId) (s x : Value) : M Value :=
  match P.underlying sType with
  | some (.slice e) => match P.info? e, zero? P e, lenOf? x with
    | some ie, some z, some n =>
        if z.cells.size = ie.size && 1 ≤ ie.size && ie.bytes ≤ 64 then
        if n = 0 then (match s with | .slice _ _ _ => .ret s | _ => .fail) else
        match s with
        | .slice none 0 0 => if n ≤ 1099511627776 then (zbhv ie.size n x).bind fun new => if new.length = n * ie.size && new.all one then zbhi e 0 n [] new else .fail else .fail
        | .slice (some ⟨b, off, none⟩) l cap =>
          if l + n ≤ 1099511627776 then
          (hdr3 b).bind fun e' => if e' = e then
            (zbhv ie.size n x).bind fun new => if new.length = n * ie.size && new.all one then zbkb e n ie.size b off l cap new else .fail
          else .fail
          else .fail
        | _ => .fail
        else .fail
    | _, _, _ => .fail
  | _ => .fail
theorem zacd (P : Program) : zach P = evAppend P := by
  funext t s x
  unfold zach evAppend zbkb evAppendTo
  rw [zcdl, zbjc, zbwh, zcbf, zcfr, zchx]
  rfl
noncomputable def zbmr (z : Value) (n : Nat) : List Value := match z with
  | .agg _ | .tuple _ => (zeros z n).toList
  | z => List.replicate n z
theorem zbqb (z : Value) (n : Nat) : zbmr z n = (zeros z n).toList := by
  unfold zbmr
  split
  · rfl
  · rfl
  · rename_i h1 h2
    refine (zazs ?_ n).symm
    cases z <;> first | rfl | exact absurd rfl (h1 _) | exact absurd rfl (h2 _)
noncomputable def zagt (P : Program) (t : TypeId) (l c : Value) : M Value :=
  match P.underlying t, l, c with
  | some (.slice e), .int _ l, .int _ c => match P.info? e, zero? P e with
    | some ie, some z => if 0 ≤ l && l ≤ c && c ≤ 1099511627776 && ie.bytes ≤ 64 && z.cells.size = ie.size && 1 ≤ ie.size then
        (newB3 e (zbmr z (c.toNat * ie.size))).bind fun id => .ret (.slice (some ⟨id, 0, none⟩) l.toNat c.toNat)
      else .fail
    | _, _ => .fail
  | _, _, _ => .fail
theorem zaeg (P : Program) : zagt P = evMakeSlice P := by
  funext t l c
  unfold zagt evMakeSlice
  simp only [zbqb, zayl]
  rfl
noncomputable def conv3 (P : Program) (s t : TypeId) (kd kd' : IntKind) (x : Value) (k : Value → M Value) : M Value := match x with
  | .int k0 a => match sameK k0 kd with
    | true => k (.int kd' (fwrap kd' a))
    | false => conv2 P s t x k
  | _ => conv2 P s t x k
theorem zade {P : Program} {s t : TypeId} {kd kd' : IntKind} (h : ∀ (a : Int) (k : Value → M Value), conv2 P s t (.int kd a) k = k (.int kd' (kd'.wrap a))) : conv3 P s t kd kd' = conv2 P s t := by
  funext x k
  unfold conv3
  split
  · rename_i k0 a
    split
    · rename_i hs
      rw [zaed hs, h, zalw]
    · rfl
  · rfl

noncomputable def zats (P : Program) (t : TypeId) (sz : Nat) (x : Value) : M Value := match x with
  | .pointer (some ⟨b, off, none⟩) => (rdN3 b off sz).bind fun vs => .ret (.agg ⟨vs⟩)
  | x => evLoad P t x
theorem zauc {P : Program} {t : TypeId} {sz : Nat} (h : agg? P t = some true) (hs : size? P t = some sz) : zats P t sz = evLoad P t := by
  funext x
  unfold zats
  split
  · unfold evLoad
    rw [h, hs, zbjc]
  · rfl
noncomputable def zadg (P : Program) (t : TypeId) (sz : Nat) (a x : Value) : M Value := match a, x with
  | .pointer (some ⟨b, off, none⟩), .agg ⟨l⟩ => match Nat.beq (lenV l) sz with
    | true => (wrN3 b off l).bind fun _ => .ret undef
    | false => evStore P t a x
  | _, _ => evStore P t a x
theorem zafe {P : Program} {t : TypeId} {sz : Nat} (hs : size? P t = some sz) : zadg P t sz = evStore P t := by
  funext a x
  unfold zadg
  split
  · rename_i b off l
    cases hq : Nat.beq (lenV l) sz with
    | false => rfl
    | true =>
      have := Nat.eq_of_beq_eq_true hq
      rw [zawx] at this
      unfold evStore
      have hc : (Value.agg ⟨l⟩).cells = ⟨l⟩ := rfl
      simp only [hs, hc]
      rw [if_pos (by simpa using this), zbwh]
  · rfl
noncomputable def over : List Value → List Value → List Value
  | [], cs => cs
  | x :: l, cs => match cs with
    | [] => []
    | _ :: cs => x :: over l cs
noncomputable def splice : List Value → Nat → List Value → List Value
  | cs, 0, l => over l cs
  | [], _ + 1, _ => []
  | a :: cs, off + 1, l => a :: splice cs off l
noncomputable def setAll : List Value → Nat → List Value → List Value
  | cs, _, [] => cs
  | cs, off, x :: l => setAll (cs.set off x) (off + 1) l
theorem zbap (a : Value) : ∀ (l cs : List Value) (off : Nat), setAll (a :: cs) (off + 1) l = a :: setAll cs off l
  | [], _, _ => rfl
  | x :: l, cs, off => by
    show setAll ((a :: cs).set (off + 1) x) (off + 1 + 1) l = a :: setAll (cs.set off x) (off + 1) l
    rw [List.set_cons_succ]
    exact zbap a l _ _
theorem zbcx : ∀ (l : List Value) (off : Nat), setAll [] off l = []
  | [], _ => rfl
  | x :: l, off => by
    show setAll (([] : List Value).set off x) (off + 1) l = []
    rw [List.set_nil]
    exact zbcx l _
theorem zbvi : ∀ (l cs : List Value), over l cs = setAll cs 0 l
  | [], _ => rfl
  | x :: l, [] => by rw [zbcx]; rfl
  | x :: l, c :: cs => by
    show x :: over l cs = setAll ((c :: cs).set 0 x) (0 + 1) l
    rw [List.set_cons_zero, zbap, zbvi l cs]
theorem zbqe : ∀ (off : Nat) (cs l : List Value), splice cs off l = setAll cs off l
  | 0, cs, l => by
    have : splice cs 0 l = over l cs := by cases cs <;> rfl
    rw [this]; exact zbvi l cs
  | off + 1, [], l => by rw [zbcx]; rfl
  | off + 1, a :: cs, l => by
    rw [zbap]
    show a :: splice cs off l = _
    rw [zbqe off cs l]
theorem zbqp (off : Nat) : ∀ (l : List Value) (j : Nat) (cells : Array Value), ((l.zipIdx j).foldl (fun cs (x : Value × Nat) => cs.setIfInBounds (off + x.2) x.1) cells).toList = setAll cells.toList (off + j) l
  | [], _, _ => rfl
  | x :: l, j, cells => by
    rw [List.zipIdx_cons, List.foldl_cons, zbqp off l (j + 1)]
    rw [Array.toList_setIfInBounds]
    rfl
noncomputable def cellsL : Value → List Value
  | .agg ⟨l⟩ => l
  | v => [v]
theorem zbpr (v : Value) : cellsL v = v.cells.toList := by
  cases v <;> rfl
noncomputable def fill3 (place : Nat → Option (Nat × Nat)) (cells : List Value) : List (Nat × Value) → Option (List Value)
  | [] => some cells
  | (i, v) :: rest => match place i with
    | none => none
    | some (off, size) => match Nat.beq (lenV (cellsL v)) size && Nat.ble (Nat.add off (lenV (cellsL v))) (lenV cells) with
      | true => fill3 place (splice cells off (cellsL v)) rest
      | false => none
theorem zbla (place : Nat → Option (Nat × Nat)) : ∀ (parts : List (Nat × Value)) (cells : Array Value), fill3 place cells.toList parts = (Instr.fill place cells parts).map (·.toList)
  | [], _ => rfl
  | (i, v) :: rest, cells => by
    unfold fill3 Instr.fill
    cases place i with
    | none => rfl
    | some q =>
      obtain ⟨off, size⟩ := q
      simp only
      rw [zawx, zawx, zbpr, zaoy, zaiw]
      have e1 : v.cells.toList.length = v.cells.size := by simp
      have e2 : cells.toList.length = cells.size := by simp
      rw [e1, e2]
      by_cases h1 : v.cells.size = size
      · by_cases h2 : off + v.cells.size ≤ cells.size
        · have h2' : Nat.add off v.cells.size ≤ cells.size := h2
          have h3 : ¬ off + v.cells.size > cells.size := by omega
          rw [if_neg (by simp [h1]; omega)]
          simp only [h1, h2', decide_true, Bool.and_true]
          rw [← h1]
          simp only [h2', decide_true, Bool.true_and]
          rw [← zbla place rest]
          congr 1
          rw [zbqe]
          have := zbqp off v.cells.toList 0 cells
          rw [Nat.add_zero] at this
          rw [← this]
          congr 1
          rw [← Array.foldl_toList, Array.toList_zipIdx]
        · have h2' : ¬ Nat.add off v.cells.size ≤ cells.size := h2
          rw [if_pos (by simp [h1]; omega)]
          simp [h2, h2']
      · rw [if_pos (by simp [h1])]
        simp [h1]
noncomputable def zblt (P : Program) (t : TypeId) (parts : List (Nat × Value)) : M Value :=
  match zero? P t, P.underlying t with
  | some z, some (.struct fs) => if fs.all fun f => (size? P f.type).isSome then
      (match fill3 (placeOf P fs) (cellsL z) parts with
      | some cs => .ret (.agg ⟨cs⟩)
      | none => .fail) else .fail
  | _, _ => .fail
theorem zbud (P : Program) : zblt P = evBuild P := by
  funext t parts
  unfold zblt evBuild
  cases zero? P t with
  | none => rfl
  | some z =>
    cases P.underlying t with
    | none => rfl
    | some u =>
      cases u <;> try rfl
      rename_i fs
      simp only [zbpr, zbla]
      cases hf : (fs.all fun f => (size? P f.type).isSome) with
      | false => simp
      | true =>
        simp only [if_true]
        cases Instr.fill (placeOf P fs) z.cells parts with
        | none => rfl
        | some cs => rfl

noncomputable def repV (v : Value) (n : Nat) : List Value := Nat.rec (motive := fun _ => List Value) [] (fun _ ih => v :: ih) n
noncomputable def evAllocZ (e : TypeId) (cs : List Value) : M Value := (newB3 e cs).bind fun id => .ret (.pointer (some ⟨id, 0, none⟩))
theorem zbao {P : Program} {e : TypeId} {cs : List Value} {z : Value} (h : zero? P e = some z) (hc : z.cells.toList = cs) : evAllocZ e cs = evAlloc P e := by
  unfold evAllocZ evAlloc
  rw [h, zayl]
  subst hc
  rfl
noncomputable def appV (a b : List Value) : List Value := List.rec (motive := fun _ => List Value) b (fun v _ ih => v :: ih) a
noncomputable def evBuildZ (P : Program) (t : TypeId) (cs : List Value) (parts : List (Nat × Value)) : M Value :=
  match P.underlying t with
  | some (.struct fs) => if fs.all fun f => (size? P f.type).isSome then
      (match fill3 (placeOf P fs) cs parts with
      | some cs => .ret (.agg ⟨cs⟩)
      | none => .fail) else .fail
  | _ => .fail
theorem zagp {P : Program} {t : TypeId} {cs : List Value} {z : Value} (h : zero? P t = some z) (hc : cellsL z = cs) : evBuildZ P t cs = evBuild P t := by
  funext parts
  rw [← zbud]
  unfold evBuildZ zblt
  rw [h]
  subst hc
  cases P.underlying t with
  | none => rfl
  | some u => cases u <;> rfl
noncomputable def evBS3 (P : Program) (t : TypeId) (len : Nat) (parts : List (Nat × Value)) : M Value :=
  match P.underlying t with
  | some (.slice e) => match size? P e, zero? P e with
    | some sz, some z =>
      if len = 0 && parts.isEmpty then (newB3 e []).bind fun id => .ret (.slice (some ⟨id, 0, none⟩) 0 0) else
      if 0 < len * sz && len * sz ≤ 65536 then
        match fill3 (fun i => some (i * sz, sz)) (zbmr z (len * sz)) parts with
        | some cs => (newB3 e cs).bind fun id => .ret (.slice (some ⟨id, 0, none⟩) len len)
        | none => .fail
      else .fail
    | _, _ => .fail
  | _ => .fail
theorem zaeh (P : Program) : evBS3 P = evBuildSlice P := by
  funext t len parts
  unfold evBS3 evBuildSlice
  simp only [zbqb, zayl, zbla]
  cases P.underlying t with
  | none => rfl
  | some u =>
    cases u <;> try rfl
    rename_i e
    simp only
    cases size? P e with
    | none => rfl
    | some sz =>
      cases zero? P e with
      | none => rfl
      | some z =>
        simp only
        cases Instr.fill (fun i => some (i * sz, sz)) (zeros z (len * sz)) parts <;> rfl
noncomputable def zaht (P : Program) (t : TypeId) (len sz : Nat) (x ix : Value) : Option Value := match x, ix with
  | .pointer (some ⟨b, off, none⟩), .int _ (.ofNat i) => match Nat.ble (Nat.succ i) len with
    | true => some (.pointer (some ⟨b, Nat.add off (Nat.mul i sz), none⟩))
    | false => none
  | x, ix => evIndexAddr P t x ix
theorem zago {P : Program} {t e : TypeId} {len sz : Nat} (hu : P.underlying t = some (.array len e)) (hs : size? P e = some sz) : zaht P t len sz = evIndexAddr P t := by
  funext x ix
  unfold zaht
  split
  · rename_i b off k i
    rw [zaiw]
    unfold evIndexAddr
    simp only [hu, hs]
    by_cases hi : i < len
    · have h1 : i.succ ≤ len := hi
      have h2 : (0 : Int) ≤ Int.ofNat i ∧ Int.ofNat i < (len : Int) := ⟨Int.natCast_nonneg i, Int.ofNat_lt.2 hi⟩
      simp only [h1, decide_true, h2, and_self, if_true]
      rfl
    · have h1 : ¬ i.succ ≤ len := hi
      have h2 : ¬ ((0 : Int) ≤ Int.ofNat i ∧ Int.ofNat i < (len : Int)) := fun q => hi (Int.ofNat_lt.1 q.2)
      simp only [h1, decide_false, h2, if_false]
  · rfl
noncomputable def zacg (P : Program) (t : TypeId) (x y : Value) : Option Value := match x, y with
  | .pointer none, .pointer none => some (.bool true)
  | .pointer (some _), .pointer none => some (.bool false)
  | x, y => bin2 P .eql t x y
theorem zabc {P : Program} {t e : TypeId} (hu : P.underlying t = some (.pointer e)) : zacg P t = bin2 P .eql t := by
  funext x y
  unfold zacg
  split <;> first | (unfold bin2 isNilT binN; rw [hu]; rfl) | rfl
noncomputable def zbig (P : Program) (t : TypeId) (x y : Value) : Option Value := match x, y with
  | .pointer none, .pointer none => some (.bool false)
  | .pointer (some _), .pointer none => some (.bool true)
  | x, y => bin2 P .neq t x y
theorem zbhw {P : Program} {t e : TypeId} (hu : P.underlying t = some (.pointer e)) : zbig P t = bin2 P .neq t := by
  funext x y
  unfold zbig
  split <;> first | (unfold bin2 isNilT binN; rw [hu]; rfl) | rfl
noncomputable def flt (n n1 : Nat) (L L2 : List En) : List En := List.rec (motive := fun _ => List En) L2 (fun e _ ih => match Nat.ble n e.b with
  | true => (match Nat.ble (Nat.succ e.b) n1 with
    | true => ih
    | false => e :: ih)
  | false => e :: ih) L
theorem zcav (n n1 : Nat) (L2 : List En) : ∀ L : List En, flt n n1 L L2 = (L.filter fun e => !(decide (n ≤ e.b) && decide (e.b < n1))) ++ L2
  | [] => rfl
  | e :: L => by
    show (match Nat.ble n e.b with
      | true => (match Nat.ble (Nat.succ e.b) n1 with
        | true => flt n n1 L L2
        | false => e :: flt n n1 L L2)
      | false => e :: flt n n1 L L2) = _
    rw [zcav n n1 L2 L, List.filter_cons, zaiw, zaiw]
    by_cases h1 : n ≤ e.b
    · by_cases h2 : e.b < n1
      · have h3 : e.b.succ ≤ n1 := h2
        simp [h1, h2, h3]
      · have h3 : ¬ e.b.succ ≤ n1 := h2
        simp [h1, h2, h3]
    · simp [h1]
noncomputable def insB {α β : Type} (m : M α) (k : α → M β) : M β := fun h n => match m h n with
  | some ⟨a, h1, n1, L⟩ => (match k a h1 n1 with
    | some ⟨b, h2, n2, L2⟩ => some ⟨b, h2, n2, flt n n1 L L2⟩
    | none => none)
  | none => none
theorem zaah {α β : Type} (m : M α) (k : α → M β) : insB m k = (inside m).bind k := by
  funext h n
  unfold insB M.bind inside
  cases hm : m h n with
  | none => simp only [hm]
  | some o =>
    obtain ⟨a, h1, n1, L⟩ := o
    simp only [hm, zcav]
    rfl
noncomputable def anyE (p : En → Bool) (L : List En) : Bool := List.rec (motive := fun _ => Bool) false (fun e _ ih => match p e with
  | true => true
  | false => ih) L
theorem zbpc (p : En → Bool) : ∀ L : List En, anyE p L = L.any p
  | [] => rfl
  | e :: L => by
    show (match p e with
      | true => true
      | false => anyE p L) = _
    rw [zbpc p L, List.any_cons]
    cases p e <;> rfl
noncomputable def andL (a b : Bool) : Bool := match a with
  | true => b
  | false => false
theorem zbwk (a b : Bool) : andL a b = (a && b) := by cases a <;> rfl
noncomputable def zbmi (x y : En) : Bool := match Nat.beq x.b y.b with
  | true => (x.k == y.k || x.k.isNone || y.k.isNone)
  | false => false
theorem zccx (x y : En) : zbmi x y = x.meets y := by
  unfold zbmi En.meets
  rw [zaoy]
  by_cases h : x.b = y.b
  · simp [h]
  · have : (x.b == y.b) = false := by simpa using h
    simp [h]
noncomputable def zauw (a b : Tk) : Bool :=
  match anyE (fun x => andL x.wr (anyE (fun y => zbmi x y) b.log)) a.log with
  | true => true
  | false => match anyE (fun x => andL x.wr (anyE (fun y => zbmi x y) a.log)) b.log with
    | true => true
    | false => match anyE (fun x => andL (Nat.ble b.n x.b) (Nat.ble (Nat.succ x.b) b.n1)) a.log with
      | true => true
      | false => anyE (fun x => andL (Nat.ble a.n x.b) (Nat.ble (Nat.succ x.b) a.n1)) b.log
theorem zaag (a b : Tk) : zauw a b = a.clash b := by
  have key : ∀ (n n1 : Nat) (L : List En), (anyE (fun x => andL (Nat.ble n x.b) (Nat.ble (Nat.succ x.b) n1)) L) = L.any fun x => decide (n ≤ x.b) && decide (x.b < n1) := fun n n1 L => by
    rw [zbpc]
    congr 1
    funext x
    rw [zbwk, zaiw, zaiw]
    rfl
  unfold zauw Tk.clash
  rw [key, key]
  simp only [zbpc, zbwk, zccx]
  cases (a.log.any fun x => x.wr && b.log.any fun y => x.meets y) <;> cases (b.log.any fun x => x.wr && a.log.any fun y => x.meets y) <;> cases (a.log.any fun x => decide (b.n ≤ x.b) && decide (x.b < b.n1)) <;> simp
noncomputable def CurT : List Nat → Type
  | [] => M Value
  | _ :: r => Value → CurT r
noncomputable def runCur : (ks : List Nat) → CurT ks → (Fr → M Value) → Fr → M Value
  | [], F, _, [] => F
  | k :: r, F, K, (u, v) :: s => match Nat.beq u k with
    | true => runCur r (F v) (fun s => K ((k, v) :: s)) s
    | false => K ((u, v) :: s)
  | [], _, K, x :: s => K (x :: s)
  | _ :: _, _, K, [] => K []
noncomputable def EqCur : (ks : List Nat) → CurT ks → (Fr → M Value) → Prop
  | [], F, K => F = K []
  | k :: r, F, K => ∀ v, EqCur r (F v) (fun s => K ((k, v) :: s))
theorem zaam : ∀ (ks : List Nat) (F : CurT ks) (K : Fr → M Value), EqCur ks F K → runCur ks F K = K := by
  intro ks
  induction ks with
  | nil =>
    intro F K h
    funext s
    cases s with
    | nil => exact h
    | cons x s => rfl
  | cons k r ih =>
    intro F K h
    funext s
    cases s with
    | nil => rfl
    | cons x s =>
      obtain ⟨u, v⟩ := x
      unfold runCur
      cases e : Nat.beq u k with
      | true =>
        have := Nat.eq_of_beq_eq_true e
        subst this
        simp only
        rw [ih (F v) (fun s => K ((u, v) :: s)) (h v)]
      | false => rfl
noncomputable def kEx (i : Nat) (G : Fr → M Value) (K : Ex → Fr → M Value) : Ex → Fr → M Value
  | .exit j => match Nat.beq j i with
    | true => G
    | false => K (.exit j)
  | .ret => K .ret
  | .normal => K .normal
theorem zaba {i : Nat} {G : Fr → M Value} {K : Ex → Fr → M Value} (h : G = K (.exit i)) : kEx i G K = K := by
  funext e
  cases e with
  | exit j =>
    show (match Nat.beq j i with
      | true => G
      | false => K (.exit j)) = K (.exit j)
    cases hq : Nat.beq j i with
    | true => rw [Nat.eq_of_beq_eq_true hq]; exact h
    | false => rfl
  | ret => rfl
  | normal => rfl
noncomputable def kRt (G : Fr → M Value) (K : Ex → Fr → M Value) : Ex → Fr → M Value
  | .exit j => K (.exit j)
  | .ret => G
  | .normal => K .normal
theorem zant {G : Fr → M Value} {K : Ex → Fr → M Value} (h : G = K .ret) : kRt G K = K := by
  funext e
  cases e with
  | exit j => rfl
  | ret => exact h
  | normal => rfl
noncomputable def ArT : Nat → Type
  | 0 => M Value
  | n + 1 => Value → ArT n
noncomputable def runAr : (n : Nat) → ArT n → (List Value → M Value) → List Value → M Value
  | 0, F, _, [] => F
  | n + 1, F, K, v :: s => runAr n (F v) (fun s => K (v :: s)) s
  | 0, _, K, x :: s => K (x :: s)
  | _ + 1, _, K, [] => K []
noncomputable def EqAr : (n : Nat) → ArT n → (List Value → M Value) → Prop
  | 0, F, K => F = K []
  | n + 1, F, K => ∀ v, EqAr n (F v) (fun s => K (v :: s))
theorem zaak : ∀ (n : Nat) (F : ArT n) (K : List Value → M Value), EqAr n F K → runAr n F K = K := by
  intro n
  induction n with
  | zero =>
    intro F K h
    funext s
    cases s with
    | nil => exact h
    | cons x s => rfl
  | succ n ih =>
    intro F K h
    funext s
    cases s with
    | nil => rfl
    | cons v s =>
      show runAr n (F v) (fun s => K (v :: s)) s = _
      rw [ih (F v) (fun s => K (v :: s)) (h v)]
noncomputable def findT {α : Type} (f : Nat) : List (Nat × α) → Option α
  | [] => none
  | p :: r => match Nat.beq p.1 f with
    | true => some p.2
    | false => findT f r
abbrev Tab := List (Nat × (Nat → (FuncId → Array Value → M Value) → List Value → M Value))
noncomputable def OkTab (C : Nat → FuncId → Array Value → M Value) : Tab → Prop
  | [] => True
  | p :: r => (∀ d, p.2 d (C d) = fun l => C (d + 1) p.1 l.toArray) ∧ OkTab C r
theorem zbtr {C : Nat → FuncId → Array Value → M Value} {f : Nat} {E : Nat → (FuncId → Array Value → M Value) → List Value → M Value} : ∀ {T : Tab}, OkTab C T → findT f T = some E → ∀ d, E d (C d) = fun l => C (d + 1) f l.toArray
  | [], _, h => by cases h
  | p :: r, ok, h => by
    unfold findT at h
    cases hq : Nat.beq p.1 f with
    | true =>
      rw [hq] at h
      cases h
      rw [← Nat.eq_of_beq_eq_true hq]
      exact ok.1
    | false =>
      rw [hq] at h
      exact zbtr ok.2 h
noncomputable def fastT (C : Nat → FuncId → Array Value → M Value) (T : Tab) : Nat → FuncId → Array Value → M Value
  | 0, f, a => C 0 f a
  | d + 1, f, a => match findT f T with
    | some E => E d (fastT C T d) a.toList
    | none => C (d + 1) f a
theorem zbtw {C : Nat → FuncId → Array Value → M Value} {T : Tab} (ok : OkTab C T) : ∀ d, fastT C T d = C d
  | 0 => rfl
  | d + 1 => by
    have ih := zbtw ok d
    funext f a
    unfold fastT
    rw [ih]
    split
    · rename_i E hE
      rw [zbtr ok hE d]
    · rfl

end Go.Proofs.YtdagfcflbphoiaaGreatDoor.Ev
namespace Go.Proofs.YtdagfcflbphoiaaGreatDoor.Fa
set_option linter.unusedVariables false
set_option linter.unusedSimpArgs false
open Go
def kn0 : List FuncId := []
end Go.Proofs.YtdagfcflbphoiaaGreatDoor.Fa

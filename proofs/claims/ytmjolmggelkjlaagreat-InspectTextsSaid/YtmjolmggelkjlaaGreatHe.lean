/- What the steps on numbers, texts and truths of the third form yield the second one's do. No program in sight. -/
import Derived.Test.YtmjolmggelkjlaaGreatHc
import Derived.Test.YtmjolmggelkjlaaGreatEvM
namespace Go.Proofs.YtmjolmggelkjlaaGreat.Ev
set_option linter.unusedVariables false
set_option linter.unusedSimpArgs false
open Go Go.RowKit

theorem bin2_plain {P : Program} {op : BinOp} {t : TypeId} {x y v : Value} (hn : isNilT P t = false) (hs : (scalar x && scalar y) = true) (hr : pureRun P (do pure (.value (← Go.binOp op t x y))) = some v) (hv : scalar v = true) : bin2 P op t x y = some v := by
  unfold bin2 binP plainS
  rw [hn, hs]
  simp only
  rw [hr]
  simp only [hv]
section
variable {P : Program} {t : TypeId} {k : IntKind} (hn : isNilT P t = false) (a b : Int)
include hn
theorem b_add : bin2 P .add t (.int k a) (.int k b) = some (.int k (k.wrap (a + b))) := bin2_plain hn rfl (by unfold Go.binOp; simp only [ne_eq, not_true_eq_false, if_false]; rfl) rfl
theorem b_sub : bin2 P .sub t (.int k a) (.int k b) = some (.int k (k.wrap (a - b))) := bin2_plain hn rfl (by unfold Go.binOp; simp only [ne_eq, not_true_eq_false, if_false]; rfl) rfl
theorem b_mul : bin2 P .mul t (.int k a) (.int k b) = some (.int k (k.wrap (a * b))) := bin2_plain hn rfl (by unfold Go.binOp; simp only [ne_eq, not_true_eq_false, if_false]; rfl) rfl
theorem b_quo (h0 : b ≠ 0) : bin2 P .quo t (.int k a) (.int k b) = some (.int k (k.wrap (a.tdiv b))) := bin2_plain hn rfl (by unfold Go.binOp Op.intDiv; simp only [ne_eq, not_true_eq_false, if_false, h0]; rfl) rfl
theorem b_rem (h0 : b ≠ 0) : bin2 P .rem t (.int k a) (.int k b) = some (.int k (a.tmod b)) := bin2_plain hn rfl (by unfold Go.binOp Op.intDiv; simp only [ne_eq, not_true_eq_false, if_false, h0]; rfl) rfl
theorem b_eql : bin2 P .eql t (.int k a) (.int k b) = some (.bool (a == b)) := bin2_plain hn rfl (by unfold Go.binOp; simp only [ne_eq, not_true_eq_false, if_false]; rfl) rfl
theorem b_neq : bin2 P .neq t (.int k a) (.int k b) = some (.bool (a != b)) := bin2_plain hn rfl (by unfold Go.binOp; simp only [ne_eq, not_true_eq_false, if_false]; rfl) rfl
theorem b_lss : bin2 P .lss t (.int k a) (.int k b) = some (.bool (decide (a < b))) := bin2_plain hn rfl (by unfold Go.binOp; simp only [ne_eq, not_true_eq_false, if_false]; rfl) rfl
theorem b_leq : bin2 P .leq t (.int k a) (.int k b) = some (.bool (decide (a ≤ b))) := bin2_plain hn rfl (by unfold Go.binOp; simp only [ne_eq, not_true_eq_false, if_false]; rfl) rfl
theorem b_gtr : bin2 P .gtr t (.int k a) (.int k b) = some (.bool (decide (b < a))) := bin2_plain hn rfl (by unfold Go.binOp; simp only [ne_eq, not_true_eq_false, if_false]; rfl) rfl
theorem b_geq : bin2 P .geq t (.int k a) (.int k b) = some (.bool (decide (b ≤ a))) := bin2_plain hn rfl (by unfold Go.binOp; simp only [ne_eq, not_true_eq_false, if_false]; rfl) rfl
theorem b_shl {k' : IntKind} (h0 : 0 ≤ b) : bin2 P .shl t (.int k a) (.int k' b) = some (.int k (k.wrap (a * 2 ^ (min b.toNat k.bits)))) := bin2_plain hn rfl (by unfold Go.binOp Op.shift; simp only [show ¬ b < 0 by omega, if_false]; rfl) rfl
theorem b_shr {k' : IntKind} (h0 : 0 ≤ b) : bin2 P .shr t (.int k a) (.int k' b) = some (.int k (a.fdiv (2 ^ (min b.toNat k.bits)))) := bin2_plain hn rfl (by unfold Go.binOp Op.shift; simp only [show ¬ b < 0 by omega, if_false]; rfl) rfl
theorem b_and : bin2 P .and t (.int k a) (.int k b) = some (.int k (k.wrap (BitVec.ofInt k.bits a &&& BitVec.ofInt k.bits b).toNat)) := bin2_plain hn rfl (by unfold Go.binOp; simp only [ne_eq, not_true_eq_false, if_false]; rfl) rfl
theorem b_or : bin2 P .or t (.int k a) (.int k b) = some (.int k (k.wrap (BitVec.ofInt k.bits a ||| BitVec.ofInt k.bits b).toNat)) := bin2_plain hn rfl (by unfold Go.binOp; simp only [ne_eq, not_true_eq_false, if_false]; rfl) rfl
theorem b_xor : bin2 P .xor t (.int k a) (.int k b) = some (.int k (k.wrap (BitVec.ofInt k.bits a ^^^ BitVec.ofInt k.bits b).toNat)) := bin2_plain hn rfl (by unfold Go.binOp; simp only [ne_eq, not_true_eq_false, if_false]; rfl) rfl
end
theorem str_size (l : List UInt8) : (⟨l.toArray⟩ : ByteArray).size = l.length := by simp [ByteArray.size]
theorem str_toList (l : List UInt8) : (⟨l.toArray⟩ : ByteArray).toList = l := by rw [ByteArray.toList_eq]
theorem str_of (s : ByteArray) : s = ⟨s.data.toList.toArray⟩ := by cases s; simp
theorem str_append (a b : List UInt8) : (⟨a.toArray⟩ : ByteArray) ++ ⟨b.toArray⟩ = ⟨(a ++ b).toArray⟩ := by
  apply ByteArray.ext
  simp
theorem str_extract (l : List UInt8) (i j : Nat) : (⟨l.toArray⟩ : ByteArray).extract i j = ⟨((l.drop i).take (j - i)).toArray⟩ := by
  apply ByteArray.ext
  simp [ByteArray.data_extract, List.extract_eq_take_drop]
section
variable {P : Program} {t : TypeId}
theorem b_eqlS (hn : isNilT P t = false) (a b : List UInt8) : bin2 P .eql t (.string ⟨a.toArray⟩) (.string ⟨b.toArray⟩) = some (.bool (decide (a = b))) := by
  refine bin2_plain hn rfl ?_ rfl
  unfold Go.binOp Op.stringOp
  simp only [str_toList]
  have : (a == b) = decide (a = b) := by
    by_cases h : a = b
    · subst h; simp
    · simp [h]
  rw [this]
  rfl
theorem b_neqS (hn : isNilT P t = false) (a b : List UInt8) : bin2 P .neq t (.string ⟨a.toArray⟩) (.string ⟨b.toArray⟩) = some (.bool (!decide (a = b))) := by
  refine bin2_plain hn rfl ?_ rfl
  unfold Go.binOp Op.stringOp
  simp only [str_toList]
  have : (a == b) = decide (a = b) := by
    by_cases h : a = b
    · subst h; simp
    · simp [h]
  rw [this]
  rfl
theorem b_addS (hn : isNilT P t = false) (a b : List UInt8) (h : a.length + b.length ≤ 9223372036854775807) : bin2 P .add t (.string ⟨a.toArray⟩) (.string ⟨b.toArray⟩) = some (.string ⟨(a ++ b).toArray⟩) := by
  refine bin2_plain hn rfl ?_ rfl
  unfold Go.binOp Op.stringOp
  simp only [str_size, str_append]
  have h2 : ¬ (((a.length + b.length : Nat) : Int) > IntKind.i64.max) := by
    have : IntKind.i64.max = 9223372036854775807 := by decide
    rw [this]; omega
  rw [if_neg h2]
  rfl
end
section
variable {P : Program} {t : TypeId}
theorem idx_str (h : P.underlying t = some .string) (l : List UInt8) (k : IntKind) (i : Int) (h0 : 0 ≤ i) (h1 : i < l.length) : index2 P t (.string ⟨l.toArray⟩) (.int k i) = some (.int .u8 (l.getD i.toNat 0).toNat) := by
  have hi : i.toNat < l.length := by omega
  have hs : isStrT P t = true := by unfold isStrT; rw [h]
  unfold index2 strIx plainS
  rw [hs]
  simp only [isStr, scalar]
  have hg : (⟨l.toArray⟩ : ByteArray)[i.toNat]? = some (l.getD i.toNat 0) := by
    have hlt : i.toNat < (⟨l.toArray⟩ : ByteArray).size := by rw [str_size]; exact hi
    rw [getElem?_pos (⟨l.toArray⟩ : ByteArray) i.toNat hlt]
    rw [List.getD_eq_getElem?_getD, List.getElem?_eq_getElem hi]
    rfl
  have : pureRun P (do pure (Next.value (← Instr.index t (.string ⟨l.toArray⟩) (.int k i)))) = some (.int .u8 (l.getD i.toNat 0).toNat) := by
    unfold Instr.index
    simp only [asIntOf, pure_bind, bind_assoc]
    rw [pureRun_und h]
    simp only [h0, if_true, hg]
    rfl
  rw [this]
theorem slice_str (h : P.underlying t = some .string) {β : Type} (l : List UInt8) (lo hi : Option Value) {a b : Nat} (ha : boundOf lo 0 = some a) (hb : boundOf hi l.length = some b) (h1 : a ≤ b) (h2 : b ≤ l.length) (k : Value → M β) : slice2 P t (.string ⟨l.toArray⟩) lo hi none k = k (.string ⟨((l.drop a).take (b - a)).toArray⟩) := by
  have hs : isStrT P t = true := by unfold isStrT; rw [h]
  have bd : ∀ (o : Option Value) (d m : Nat), boundOf o d = some m → (o = none ∧ m = d) ∨ ∃ kd i, o = some (.int kd i) ∧ 0 ≤ i ∧ m = i.toNat := by
    intro o d m hm
    unfold boundOf at hm
    split at hm
    · cases hm; exact .inl ⟨rfl, rfl⟩
    · rename_i kd i
      split at hm
      · rename_i h0; cases hm; exact .inr ⟨kd, i, rfl, h0, rfl⟩
      · cases hm
    · cases hm
  have hsc : (scal? lo && scal? hi && scal? none) = true := by
    rcases bd lo _ _ ha with ⟨rfl, _⟩ | ⟨_, _, rfl, _⟩ <;> rcases bd hi _ _ hb with ⟨rfl, _⟩ | ⟨_, _, rfl, _⟩ <;> rfl
  have hb1 : ∀ (kd : IntKind) (i : Int) (y : Nat) (c : BoundsCode), 0 ≤ i → i.toNat ≤ y → Instr.sliceBound (.int kd i) y c = pure i.toNat := by
    intro kd i y c h0 h1
    unfold Instr.sliceBound asIntOf
    simp only [pure_bind]
    rw [if_pos ⟨h0, by omega⟩]
  have key : pureRun P (do pure (Next.value (← Instr.sliceAt t (.string ⟨l.toArray⟩) lo hi none))) = some (.string ⟨((l.drop a).take (b - a)).toArray⟩) := by
    unfold Instr.sliceAt
    simp only [bind_assoc]
    rw [pureRun_und h]
    simp only
    unfold Instr.slice
    simp only [bind_assoc]
    rw [pureRun_und h]
    simp only [Option.isSome_none, Bool.false_eq_true, if_false, pure_bind, bind_assoc, str_size]
    unfold Instr.sliceBounds
    rcases bd lo _ _ ha with ⟨rfl, rfl⟩ | ⟨_, i, rfl, i0, rfl⟩ <;> rcases bd hi _ _ hb with ⟨rfl, rfl⟩ | ⟨_, j, rfl, j0, rfl⟩
    · simp only [pure_bind, bind_assoc, str_extract]; rfl
    · simp only [hb1 _ j l.length _ j0 h2, pure_bind, bind_assoc, str_extract]; rfl
    · simp only [hb1 _ i l.length _ i0 h1, pure_bind, bind_assoc, str_extract]; rfl
    · simp only [hb1 _ j l.length _ j0 h2, hb1 _ i j.toNat _ i0 h1, pure_bind, bind_assoc, str_extract]; rfl
  unfold slice2
  rw [hs]
  simp only
  have : strSl P t (.string ⟨l.toArray⟩) lo hi none = some (.string ⟨((l.drop a).take (b - a)).toArray⟩) := by
    unfold strSl plainS
    simp only [isStr, hsc]
    rw [key]
    rfl
  rw [this]
  rfl
end

section
variable {β : Type} {P : Program} {t : TypeId} {x y : Value} {k : Value → M β} {h : H} {n : Nat} {r : Out β}
theorem opt_of {o : Option Value} {v : Value} (e : o = some v) (hr : k v h n = some r) : optK o k h n = some r := by subst e; exact hr
theorem num2_sub {op : BinOp} {f : IntKind → Int → Int → Value} (hb : ∀ j a b, bin2 P op t (.int j a) (.int j b) = some (f j a b)) (hr : num2 f x y k h n = some r) : optK (bin2 P op t x y) k h n = some r := by
  unfold num2 at hr
  split at hr
  · split at hr
    · rename_i a p _ b q
      cases hk : sameK a b with
      | false => simp only [hk] at hr; cases hr
      | true =>
        obtain rfl := sameK_eq hk
        simp only [hk] at hr
        exact opt_of (hb _ _ _) hr
    · cases hr
  · cases hr
theorem bit2_sub {op : BinOp} {f : Nat → Nat → Nat} (hb : ∀ (j : IntKind) (a b : Nat), bin2 P op t (.int j (.ofNat a)) (.int j (.ofNat b)) = some (.int j (j.wrap (.ofNat (f (Nat.mod a (pw j)) (Nat.mod b (pw j))))))) (hr : bit2 f x y k h n = some r) : optK (bin2 P op t x y) k h n = some r := by
  unfold bit2 at hr
  split at hr
  · split at hr
    · rename_i a p _ b q
      cases hk : sameK a b with
      | false => simp only [hk] at hr; cases hr
      | true =>
        obtain rfl := sameK_eq hk
        simp only [hk] at hr
        exact opt_of (hb _ _ _) (by rw [← fwrap_eq]; exact hr)
    · cases hr
  · cases hr
theorem arQ_bits {j : IntKind} (a b : Nat) : (BitVec.ofInt j.bits (Int.ofNat a)).toNat = Nat.mod a (pw j) ∧ (BitVec.ofInt j.bits (Int.ofNat b)).toNat = Nat.mod b (pw j) := by
  rw [pw_eq]
  exact ⟨ofInt_nat _ _, ofInt_nat _ _⟩
end
/-- by the operator -/
noncomputable def arQ {β : Type} (op : BinOp) (x y : Value) (k : Value → M β) : M β := match op with
  | .add => kad x y k
  | .sub => ksb x y k
  | .mul => kml x y k
  | .quo => kqu x y k
  | .rem => krm x y k
  | .eql => keq x y k
  | .neq => kne x y k
  | .lss => kls x y k
  | .leq => klq x y k
  | .gtr => kgr x y k
  | .geq => kgq x y k
  | .and => kan x y k
  | .or => kor x y k
  | .xor => kxo x y k
  | .shl => ksl x y k
  | .shr => ksr x y k
  | .andNot => .fail
noncomputable def stQ {β : Type} (op : BinOp) (ds : Option (List Nat)) (x y : Value) (k : Value → M β) : M β := match ds with
  | some l => match op with
    | .eql => kge l x y k
    | .neq => kgn l x y k
    | _ => .fail
  | none => .fail
noncomputable def nilQ {β : Type} (d : Option TypeDesc) (ds : Option (List Nat)) (op : BinOp) (x y : Value) (k : Value → M β) : M β := match d, op with
  | some (.struct _), op => stQ op ds x y k
  | some (.pointer _), .eql => kpe x y k
  | some (.pointer _), .neq => kpn x y k
  | some (.slice _), .eql => kse x y k
  | some (.slice _), .neq => ksn x y k
  | some (.func _ _ _), .eql => kfe x y k
  | some (.func _ _ _), .neq => kfn x y k
  | _, _ => .fail
def isBoolT : Option TypeDesc → Bool
  | some .bool => true
  | _ => false
noncomputable def blQ {β : Type} (op : BinOp) (x y : Value) (k : Value → M β) : M β := match op with
  | .eql => kbe x y k
  | .neq => kbn x y k
  | _ => .fail
noncomputable def binQ {β : Type} (P : Program) (op : BinOp) (t : TypeId) (x y : Value) (k : Value → M β) : M β := match isNilT P t with
  | true => nilQ (P.underlying t) (stKinds P t) op x y k
  | false => match isBoolT (P.underlying t) with
    | true => blQ op x y k
    | false => arQ op x y k
section
variable {β : Type} {P : Program} {t : TypeId} {x y : Value} {k : Value → M β} {h : H} {n : Nat} {r : Out β}
theorem str_two (a b : List UInt8) (hn : isNilT P t = false) : bin2 P .eql t (.string ⟨⟨a⟩⟩) (.string ⟨⟨b⟩⟩) = some (.bool (beqB a b)) ∧ bin2 P .neq t (.string ⟨⟨a⟩⟩) (.string ⟨⟨b⟩⟩) = some (.bool (!beqB a b)) := by
  rw [beqB_eq]
  exact ⟨b_eqlS hn a b, b_neqS hn a b⟩
theorem arQ_sub {op : BinOp} (hn : isNilT P t = false) (hr : arQ op x y k h n = some r) : optK (bin2 P op t x y) k h n = some r := by
  cases op <;> simp only [arQ] at hr
  case add =>
    unfold kad at hr
    split at hr
    · split at hr
      · rename_i a _ b
        cases hl : Nat.ble (Nat.add (lenB a) (lenB b)) 9223372036854775807 with
        | false => simp only [hl] at hr; cases hr
        | true =>
          simp only [hl] at hr
          have := Nat.le_of_ble_eq_true hl
          rw [lenB_eq, lenB_eq] at this
          exact opt_of (b_addS (P := P) hn _ _ this) (by rw [← appB_eq]; exact hr)
      · cases hr
    · exact num2_sub (fun j a b => by rw [b_add hn, fwrap_eq, iadd_eq]) hr
  case sub => exact num2_sub (fun j a b => by rw [b_sub hn, fwrap_eq, isub_eq]) hr
  case mul => exact num2_sub (fun j a b => by rw [b_mul hn, fwrap_eq, imul_eq]) hr
  case quo =>
    unfold kqu at hr
    split at hr
    · split at hr
      · rename_i a p _ b q
        cases hk : sameK a b with
        | false => simp only [hk] at hr; cases hr
        | true =>
          obtain rfl := sameK_eq hk
          cases hz : ieq q 0 with
          | true => simp only [hk, hz] at hr; cases hr
          | false =>
            simp only [hk, hz] at hr
            rw [ieq_eq] at hz
            exact opt_of (b_quo hn _ _ (beq_eq_false_iff_ne.1 hz)) (by rw [← fwrap_eq]; exact hr)
      · cases hr
    · cases hr
  case rem =>
    unfold krm at hr
    split at hr
    · split at hr
      · rename_i a p _ b q
        cases hk : sameK a b with
        | false => simp only [hk] at hr; cases hr
        | true =>
          obtain rfl := sameK_eq hk
          cases hz : ieq q 0 with
          | true => simp only [hk, hz] at hr; cases hr
          | false =>
            simp only [hk, hz] at hr
            rw [ieq_eq] at hz
            exact opt_of (b_rem hn _ _ (beq_eq_false_iff_ne.1 hz)) hr
      · cases hr
    · cases hr
  case and => exact bit2_sub (fun j a b => by rw [b_and hn, BitVec.toNat_and, (arQ_bits a b).1, (arQ_bits a b).2]; rfl) hr
  case or => exact bit2_sub (fun j a b => by rw [b_or hn, BitVec.toNat_or, (arQ_bits a b).1, (arQ_bits a b).2]; rfl) hr
  case xor => exact bit2_sub (fun j a b => by rw [b_xor hn, BitVec.toNat_xor, (arQ_bits a b).1, (arQ_bits a b).2]; rfl) hr
  case shl =>
    unfold ksl at hr
    split at hr
    · rename_i a p
      split at hr
      · rename_i j q
        exact opt_of (b_shl hn _ _ (Int.natCast_nonneg q)) (by rw [← fwrap_eq]; exact hr)
      · cases hr
    · cases hr
  case shr =>
    unfold ksr at hr
    split at hr
    · rename_i a p
      split at hr
      · rename_i j q
        refine opt_of (b_shr hn _ _ (Int.natCast_nonneg q)) ?_
        have e2 : (Int.ofNat p).fdiv (2 ^ min (Int.ofNat q).toNat a.bits) = Int.ofNat (p / 2 ^ min q a.bits) := by
          show ((p : Nat) : Int).fdiv (2 ^ min q a.bits) = ((p / 2 ^ (min q a.bits) : Nat) : Int)
          have e2 : (2 : Int) ^ (min q a.bits) = ((2 ^ (min q a.bits) : Nat) : Int) := by simp
          rw [e2, Int.fdiv_eq_ediv_of_nonneg _ (Int.natCast_nonneg _), ← Int.natCast_ediv]
        exact e2 ▸ hr
      · cases hr
    · cases hr
  case andNot => cases hr
  case eql =>
    unfold keq at hr
    split at hr
    · split at hr
      · exact opt_of (str_two _ _ hn).1 hr
      · cases hr
    · exact num2_sub (fun j a b => by rw [b_eql hn, ieq_eq]) hr
  case neq =>
    unfold kne at hr
    split at hr
    · split at hr
      · exact opt_of (str_two _ _ hn).2 hr
      · cases hr
    · exact num2_sub (fun j a b => by rw [b_neq hn, ieq_eq]; rfl) hr
  case lss => exact num2_sub (fun j a b => by rw [b_lss hn, ilt_eq]) hr
  case leq => exact num2_sub (fun j a b => by rw [b_leq hn, ile_eq]) hr
  case gtr => exact num2_sub (fun j a b => by rw [b_gtr hn, ilt_eq]) hr
  case geq => exact num2_sub (fun j a b => by rw [b_geq hn, ile_eq]) hr
end

end Go.Proofs.YtmjolmggelkjlaaGreat.Ev

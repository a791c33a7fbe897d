/- Texts in the second form: a text is the list of its bytes. No program in sight. -/
import Derived.Test.YthhhkplbjcknkaaGreatDoorEvW
namespace Go.Proofs.YthhhkplbjcknkaaGreatDoor.Ev
set_option linter.unusedVariables false
set_option linter.unusedSimpArgs false
open Go Go.RowKit

theorem str_size (l : List UInt8) : (⟨l.toArray⟩ : ByteArray).size = l.length := by simp [ByteArray.size]
theorem str_toList (l : List UInt8) : (⟨l.toArray⟩ : ByteArray).toList = l := by rw [ByteArray.toList_eq]
theorem str_of (s : ByteArray) : s = ⟨s.data.toList.toArray⟩ := by cases s; simp
theorem str_append (a b : List UInt8) : (⟨a.toArray⟩ : ByteArray) ++ ⟨b.toArray⟩ = ⟨(a ++ b).toArray⟩ := by
  apply ByteArray.ext
  simp
theorem str_extract (l : List UInt8) (i j : Nat) : (⟨l.toArray⟩ : ByteArray).extract i j = ⟨((l.drop i).take (j - i)).toArray⟩ := by
  apply ByteArray.ext
  simp [ByteArray.data_extract, List.extract_eq_take_drop]
section
variable {P : Program} {t : TypeId}
theorem b_eqlS (hn : isNilT P t = false) (a b : List UInt8) : bin2 P .eql t (.string ⟨a.toArray⟩) (.string ⟨b.toArray⟩) = some (.bool (decide (a = b))) := by
  refine bin2_plain hn rfl ?_ rfl
  unfold Go.binOp Op.stringOp
  simp only [str_toList]
  have : (a == b) = decide (a = b) := by
    by_cases h : a = b
    · subst h; simp
    · simp [h]
  rw [this]
  rfl
theorem b_neqS (hn : isNilT P t = false) (a b : List UInt8) : bin2 P .neq t (.string ⟨a.toArray⟩) (.string ⟨b.toArray⟩) = some (.bool (!decide (a = b))) := by
  refine bin2_plain hn rfl ?_ rfl
  unfold Go.binOp Op.stringOp
  simp only [str_toList]
  have : (a == b) = decide (a = b) := by
    by_cases h : a = b
    · subst h; simp
    · simp [h]
  rw [this]
  rfl
theorem b_addS (hn : isNilT P t = false) (a b : List UInt8) (h : a.length + b.length ≤ 9223372036854775807) : bin2 P .add t (.string ⟨a.toArray⟩) (.string ⟨b.toArray⟩) = some (.string ⟨(a ++ b).toArray⟩) := by
  refine bin2_plain hn rfl ?_ rfl
  unfold Go.binOp Op.stringOp
  simp only [str_size, str_append]
  have h2 : ¬ (((a.length + b.length : Nat) : Int) > IntKind.i64.max) := by
    have : IntKind.i64.max = 9223372036854775807 := by decide
    rw [this]; omega
  rw [if_neg h2]
  rfl
theorem len_strL (h : P.underlying t = some .string) (l : List UInt8) : len2 P #[t] [.string ⟨l.toArray⟩] = some (.int .i64 l.length) := by
  rw [len_str h, str_size]
theorem idx_str (h : P.underlying t = some .string) (l : List UInt8) (k : IntKind) (i : Int) (h0 : 0 ≤ i) (h1 : i < l.length) : index2 P t (.string ⟨l.toArray⟩) (.int k i) = some (.int .u8 (l.getD i.toNat 0).toNat) := by
  have hi : i.toNat < l.length := by omega
  have hs : isStrT P t = true := by unfold isStrT; rw [h]
  unfold index2 strIx plainS
  rw [hs]
  simp only [isStr, scalar]
  have hg : (⟨l.toArray⟩ : ByteArray)[i.toNat]? = some (l.getD i.toNat 0) := by
    have hlt : i.toNat < (⟨l.toArray⟩ : ByteArray).size := by rw [str_size]; exact hi
    rw [getElem?_pos (⟨l.toArray⟩ : ByteArray) i.toNat hlt]
    rw [List.getD_eq_getElem?_getD, List.getElem?_eq_getElem hi]
    rfl
  have : pureRun P (do pure (Next.value (← Instr.index t (.string ⟨l.toArray⟩) (.int k i)))) = some (.int .u8 (l.getD i.toNat 0).toNat) := by
    unfold Instr.index
    simp only [asIntOf, pure_bind, bind_assoc]
    rw [pureRun_und h]
    simp only [h0, if_true, hg]
    rfl
  rw [this]
theorem slice_str (h : P.underlying t = some .string) {β : Type} (l : List UInt8) (lo hi : Option Value) {a b : Nat} (ha : boundOf lo 0 = some a) (hb : boundOf hi l.length = some b) (h1 : a ≤ b) (h2 : b ≤ l.length) (k : Value → M β) : slice2 P t (.string ⟨l.toArray⟩) lo hi none k = k (.string ⟨((l.drop a).take (b - a)).toArray⟩) := by
  have hs : isStrT P t = true := by unfold isStrT; rw [h]
  have bd : ∀ (o : Option Value) (d m : Nat), boundOf o d = some m → (o = none ∧ m = d) ∨ ∃ kd i, o = some (.int kd i) ∧ 0 ≤ i ∧ m = i.toNat := by
    intro o d m hm
    unfold boundOf at hm
    split at hm
    · cases hm; exact .inl ⟨rfl, rfl⟩
    · rename_i kd i
      split at hm
      · rename_i h0; cases hm; exact .inr ⟨kd, i, rfl, h0, rfl⟩
      · cases hm
    · cases hm
  have hsc : (scal? lo && scal? hi && scal? none) = true := by
    rcases bd lo _ _ ha with ⟨rfl, _⟩ | ⟨_, _, rfl, _⟩ <;> rcases bd hi _ _ hb with ⟨rfl, _⟩ | ⟨_, _, rfl, _⟩ <;> rfl
  have hb1 : ∀ (kd : IntKind) (i : Int) (y : Nat) (c : BoundsCode), 0 ≤ i → i.toNat ≤ y → Instr.sliceBound (.int kd i) y c = pure i.toNat := by
    intro kd i y c h0 h1
    unfold Instr.sliceBound asIntOf
    simp only [pure_bind]
    rw [if_pos ⟨h0, by omega⟩]
  have key : pureRun P (do pure (Next.value (← Instr.sliceAt t (.string ⟨l.toArray⟩) lo hi none))) = some (.string ⟨((l.drop a).take (b - a)).toArray⟩) := by
    unfold Instr.sliceAt
    simp only [bind_assoc]
    rw [pureRun_und h]
    simp only
    unfold Instr.slice
    simp only [bind_assoc]
    rw [pureRun_und h]
    simp only [Option.isSome_none, Bool.false_eq_true, if_false, pure_bind, bind_assoc, str_size]
    unfold Instr.sliceBounds
    rcases bd lo _ _ ha with ⟨rfl, rfl⟩ | ⟨_, i, rfl, i0, rfl⟩ <;> rcases bd hi _ _ hb with ⟨rfl, rfl⟩ | ⟨_, j, rfl, j0, rfl⟩
    · simp only [pure_bind, bind_assoc, str_extract]; rfl
    · simp only [hb1 _ j l.length _ j0 h2, pure_bind, bind_assoc, str_extract]; rfl
    · simp only [hb1 _ i l.length _ i0 h1, pure_bind, bind_assoc, str_extract]; rfl
    · simp only [hb1 _ j l.length _ j0 h2, hb1 _ i j.toNat _ i0 h1, pure_bind, bind_assoc, str_extract]; rfl
  unfold slice2
  rw [hs]
  simp only
  have : strSl P t (.string ⟨l.toArray⟩) lo hi none = some (.string ⟨((l.drop a).take (b - a)).toArray⟩) := by
    unfold strSl plainS
    simp only [isStr, hsc]
    rw [key]
    rfl
  rw [this]
  rfl
end
theorem bound_int (k : IntKind) (i : Int) (d : Nat) (h : 0 ≤ i) : boundOf (some (.int k i)) d = some i.toNat := by unfold boundOf; simp [h]
section
variable {P : Program} {t : TypeId} {β : Type}
theorem sls_hi (h : P.underlying t = some .string) (l : List UInt8) (kd : IntKind) (j : Int) (k : Value → M β) (h0 : 0 ≤ j) (h1 : j ≤ l.length) : slice2 P t (.string ⟨l.toArray⟩) none (some (.int kd j)) none k = k (.string ⟨(l.take j.toNat).toArray⟩) := by
  rw [slice_str h l none _ (a := 0) (b := j.toNat) rfl (bound_int kd j _ h0) (by omega) (by omega)]
  simp
theorem sls_lo (h : P.underlying t = some .string) (l : List UInt8) (kd : IntKind) (i : Int) (k : Value → M β) (h0 : 0 ≤ i) (h1 : i ≤ l.length) : slice2 P t (.string ⟨l.toArray⟩) (some (.int kd i)) none none k = k (.string ⟨(l.drop i.toNat).toArray⟩) := by
  rw [slice_str h l _ none (a := i.toNat) (b := l.length) (bound_int kd i _ h0) rfl (by omega) (by omega)]
  rw [List.take_of_length_le (by simp)]
theorem sls_both (h : P.underlying t = some .string) (l : List UInt8) (kd kd' : IntKind) (i j : Int) (k : Value → M β) (h0 : 0 ≤ i) (h1 : i ≤ j) (h2 : j ≤ l.length) : slice2 P t (.string ⟨l.toArray⟩) (some (.int kd i)) (some (.int kd' j)) none k = k (.string ⟨((l.drop i.toNat).take (j.toNat - i.toNat)).toArray⟩) :=
  slice_str h l _ _ (bound_int kd i _ h0) (bound_int kd' j _ (by omega)) (by omega) (by omega) k
end

end Go.Proofs.YthhhkplbjcknkaaGreatDoor.Ev
/- The rules that every step by simp takes, as two facts. No program in sight. -/
namespace Go.Proofs.YthhhkplbjcknkaaGreatDoor.Ev
set_option linter.unusedVariables false
set_option linter.unusedSimpArgs false
open Go
theorem RXA : type_of% (And.intro @optK_some_eq (And.intro @nil2_ptr (And.intro @ifV_true (And.intro @ifV_false (And.intro @run_if (And.intro @run_out0 (And.intro @run_out1 (And.intro @run_out2 (And.intro @run_out3 (And.intro @optG_some (And.intro @one_int (And.intro @one_bool (And.intro @one_string (And.intro @one_slice (And.intro @one_ptr (And.intro @min2_eq (And.intro @max2_eq (And.intro @pick2_eq (And.intro @u_not (And.intro @u_neg (And.intro @cells_agg (And.intro @inside_ret (And.intro @chk_true (And.intro @get_eq (@get_ne))))))))))))))))))))))))) := And.intro @optK_some_eq (And.intro @nil2_ptr (And.intro @ifV_true (And.intro @ifV_false (And.intro @run_if (And.intro @run_out0 (And.intro @run_out1 (And.intro @run_out2 (And.intro @run_out3 (And.intro @optG_some (And.intro @one_int (And.intro @one_bool (And.intro @one_string (And.intro @one_slice (And.intro @one_ptr (And.intro @min2_eq (And.intro @max2_eq (And.intro @pick2_eq (And.intro @u_not (And.intro @u_neg (And.intro @cells_agg (And.intro @inside_ret (And.intro @chk_true (And.intro @get_eq (@get_ne))))))))))))))))))))))))
theorem RXB : type_of% (And.intro @List.getElem?_cons_zero.{0} (And.intro @List.getElem?_cons_succ.{0} (And.intro @List.set_cons_zero.{0} (And.intro @List.set_cons_succ.{0} (And.intro @List.length_cons.{0} (And.intro @List.length_nil.{0} (And.intro @Int.toNat_natCast (And.intro @Int.toNat_zero (And.intro @Nat.zero_add (And.intro @Nat.add_zero (And.intro @decide_eq_true_eq (And.intro @decide_eq_false_iff_not (And.intro @true_and (And.intro @and_true (And.intro @if_true.{1} (And.intro @if_false.{1} (And.intro @true_or (And.intro @or_true (And.intro @Bool.false_eq_true (And.intro @Bool.true_eq_false (And.intro @false_and (And.intro @and_false (And.intro @Bool.not_true (And.intro @Bool.not_false (And.intro @beq_self_eq_true.{0} (And.intro @bne_self_eq_false.{0} (And.intro @decide_true (And.intro @decide_false (And.intro @Bool.and_true (And.intro @Bool.true_and (And.intro @Bool.and_false (@Bool.false_and)))))))))))))))))))))))))))))))) := And.intro @List.getElem?_cons_zero.{0} (And.intro @List.getElem?_cons_succ.{0} (And.intro @List.set_cons_zero.{0} (And.intro @List.set_cons_succ.{0} (And.intro @List.length_cons.{0} (And.intro @List.length_nil.{0} (And.intro @Int.toNat_natCast (And.intro @Int.toNat_zero (And.intro @Nat.zero_add (And.intro @Nat.add_zero (And.intro @decide_eq_true_eq (And.intro @decide_eq_false_iff_not (And.intro @true_and (And.intro @and_true (And.intro @if_true.{1} (And.intro @if_false.{1} (And.intro @true_or (And.intro @or_true (And.intro @Bool.false_eq_true (And.intro @Bool.true_eq_false (And.intro @false_and (And.intro @and_false (And.intro @Bool.not_true (And.intro @Bool.not_false (And.intro @beq_self_eq_true.{0} (And.intro @bne_self_eq_false.{0} (And.intro @decide_true (And.intro @decide_false (And.intro @Bool.and_true (And.intro @Bool.true_and (And.intro @Bool.and_false (@Bool.false_and)))))))))))))))))))))))))))))))
end Go.Proofs.YthhhkplbjcknkaaGreatDoor.Ev

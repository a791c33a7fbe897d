/- What a part of the second form does, step by step: the rules. No program in sight. -/
import Derived.Test.YtmjolmggelkjlaaGreatMae
import Derived.ProofKit
import Derived.OpenShut
namespace Go.Proofs.YtmjolmggelkjlaaGreat.Ev
set_option linter.unusedVariables false
set_option linter.unusedSimpArgs false
open Go

/-- a part runs to its end: n0: the first of the call's own blocks; W: the blocks that it may write besides them -/
def Run {α : Type} (W : Nat → Prop) (n0 : Nat) (m : M α) (h : H) (n : Nat) (Q : α → H → Nat → Prop) : Prop :=
  ∃ a h1 n1 L, m h n = some ⟨a, h1, n1, L⟩ ∧ n ≤ n1 ∧ (∀ e ∈ L, e.wr = true → n0 ≤ e.b ∨ W e.b) ∧ Q a h1 n1
theorem Run.mono {α : Type} {W : Nat → Prop} {n0 : Nat} {m : M α} {h : H} {n : Nat} {Q Q' : α → H → Nat → Prop} (x : Run W n0 m h n Q) (hq : ∀ a h1 n1, n ≤ n1 → Q a h1 n1 → Q' a h1 n1) : Run W n0 m h n Q' := by
  obtain ⟨a, h1, n1, L, e1, e2, e3, e4⟩ := x
  exact ⟨a, h1, n1, L, e1, e2, e3, hq _ _ _ e2 e4⟩
section
variable {α β : Type} {W : Nat → Prop} {n0 : Nat} {m : M α} {k : α → M β} {h h1 : H} {n n1 : Nat} {a : α} {L : List En} {Q : β → H → Nat → Prop}
theorem Run.step (e : m h n = some ⟨a, h1, n1, L⟩) (hn : n ≤ n1) (hw : ∀ e ∈ L, e.wr = true → n0 ≤ e.b ∨ W e.b) (x : Run W n0 (k a) h1 n1 Q) : Run W n0 (m.bind k) h n Q := by
  obtain ⟨b, h2, n2, L2, e1, e2, e3, e4⟩ := x
  refine ⟨b, h2, n2, L ++ L2, bind_run e e1, by omega, fun x hx => ?_, e4⟩
  rcases List.mem_append.1 hx with q | q
  · exact hw x q
  · exact e3 x q
theorem Run.unstep (e : m h n = some ⟨a, h1, n1, L⟩) (hn : n1 = n) (x : Run W n0 (m.bind k) h n Q) : Run W n0 (k a) h1 n1 Q := by
  obtain ⟨b, h2, n2, L2, e1, e2, e3, e4⟩ := x
  obtain ⟨a', h3, n3, L3, L4, e5, e6, rfl⟩ := bind_some e1
  rw [e] at e5
  simp only [Option.some.injEq, Out.mk.injEq] at e5
  obtain ⟨rfl, rfl, rfl, rfl⟩ := e5
  exact ⟨b, h2, n2, L4, e6, by omega, fun x hx => e3 x (List.mem_append.2 (.inr hx)), e4⟩
theorem Run.iff (e : m h n = some ⟨a, h1, n, L⟩) (hw : ∀ e ∈ L, e.wr = true → n0 ≤ e.b ∨ W e.b) : Run W n0 (m.bind k) h n Q ↔ Run W n0 (k a) h1 n Q :=
  ⟨Run.unstep e rfl, Run.step e (Nat.le_refl _) hw⟩
theorem Run.inside_ {Q' : α → H → Nat → Prop} (x : Run W n0 m h n Q') : Run W n0 (inside m) h n Q' := by
  obtain ⟨a, h1, n1, L, e1, e2, e3, e4⟩ := x
  exact ⟨a, h1, n1, _, inside_run e1, e2, fun e he => e3 e (List.mem_filter.1 he).1, e4⟩
end
section
variable {β : Type} {W : Nat → Prop} {n0 : Nat} {h h1 : H} {n n1 : Nat} {Q : β → H → Nat → Prop} {QV : Value → H → Nat → Prop}
theorem run_ret (a : β) : Run W n0 (M.ret a) h n Q ↔ Q a h n := by
  constructor
  · rintro ⟨b, h2, n2, L, e1, e2, e3, e4⟩
    obtain ⟨rfl, rfl, rfl, rfl⟩ := ret_run_inv e1
    exact e4
  · intro x
    exact ⟨a, h, n, [], rfl, Nat.le_refl _, fun e he => (nomatch he), x⟩
theorem run_out0 : Run W n0 (outK []) h n QV ↔ QV (.tuple #[]) h n := run_ret _
theorem run_out1 (v : Value) : Run W n0 (outK [v]) h n QV ↔ QV v h n := run_ret _
theorem run_out2 (v w : Value) : Run W n0 (outK [v, w]) h n QV ↔ QV (.tuple #[v, w]) h n := run_ret _
theorem run_out3 (v w u : Value) : Run W n0 (outK [v, w, u]) h n QV ↔ QV (.tuple #[v, w, u]) h n := run_ret _
theorem optK_some_eq {α : Type} (a : α) (k : α → M β) : optK (some a) k = k a := rfl
theorem run_if (b : Bool) (x y : M β) : Run W n0 (ifV (.bool b) x y) h n Q ↔ if b = true then Run W n0 x h n Q else Run W n0 y h n Q := by
  cases b
  · rw [if_neg Bool.false_ne_true]; exact Iff.rfl
  · rw [if_pos rfl]; exact Iff.rfl
theorem ifV_true (x y : M β) : ifV (.bool true) x y = x := rfl
theorem ifV_false (x y : M β) : ifV (.bool false) x y = y := rfl

section
variable {β : Type} (k : Value → M β)
theorem knn_ptr (a : Addr) : knn (.pointer (some a)) k = k (.pointer (some a)) := rfl
theorem knn_fun (f : FuncId) (a b : Array Value) : knn (.func (.func f) a b) k = k (.func (.func f) a b) := rfl
theorem num2_eq (f : IntKind → Int → Int → Value) (j : IntKind) (a b : Int) : num2 f (.int j a) (.int j b) k = k (f j a b) := by
  unfold num2
  simp only [sameK_refl]
theorem s_add (j : IntKind) (a b : Int) : kad (.int j a) (.int j b) k = k (.int j (j.wrap (a + b))) := by
  show num2 (fun k a b => .int k (fwrap k (iadd a b))) (.int j a) (.int j b) k = _
  rw [num2_eq, fwrap_eq, iadd_eq]
theorem s_sub (j : IntKind) (a b : Int) : ksb (.int j a) (.int j b) k = k (.int j (j.wrap (a - b))) := by
  unfold ksb
  rw [num2_eq, fwrap_eq, isub_eq]
theorem s_mul (j : IntKind) (a b : Int) : kml (.int j a) (.int j b) k = k (.int j (j.wrap (a * b))) := by
  unfold kml
  rw [num2_eq, fwrap_eq, imul_eq]
theorem s_eq (j : IntKind) (a b : Int) : keq (.int j a) (.int j b) k = k (.bool (a == b)) := by
  show num2 (fun _ a b => .bool (ieq a b)) (.int j a) (.int j b) k = _
  rw [num2_eq, ieq_eq]
theorem s_ne (j : IntKind) (a b : Int) : kne (.int j a) (.int j b) k = k (.bool (a != b)) := by
  show num2 (fun _ a b => .bool (!ieq a b)) (.int j a) (.int j b) k = _
  rw [num2_eq, ieq_eq]; rfl
theorem s_lt (j : IntKind) (a b : Int) : kls (.int j a) (.int j b) k = k (.bool (decide (a < b))) := by
  unfold kls
  rw [num2_eq, ilt_eq]
theorem s_le (j : IntKind) (a b : Int) : klq (.int j a) (.int j b) k = k (.bool (decide (a ≤ b))) := by
  unfold klq
  rw [num2_eq, ile_eq]
theorem s_gt (j : IntKind) (a b : Int) : kgr (.int j a) (.int j b) k = k (.bool (decide (b < a))) := by
  unfold kgr
  rw [num2_eq, ilt_eq]
theorem s_ge (j : IntKind) (a b : Int) : kgq (.int j a) (.int j b) k = k (.bool (decide (b ≤ a))) := by
  unfold kgq
  rw [num2_eq, ile_eq]
theorem s_quo (j : IntKind) (a b : Int) (h0 : b ≠ 0) : kqu (.int j a) (.int j b) k = k (.int j (j.wrap (a.tdiv b))) := by
  unfold kqu
  simp only [sameK_refl, ieq_eq, beq_eq_false_iff_ne.2 h0, fwrap_eq]
theorem s_rem (j : IntKind) (a b : Int) (h0 : b ≠ 0) : krm (.int j a) (.int j b) k = k (.int j (a.tmod b)) := by
  unfold krm
  simp only [sameK_refl, ieq_eq, beq_eq_false_iff_ne.2 h0]
theorem bit2_eq {f : Nat → Nat → Nat} {g : (w : Nat) → BitVec w → BitVec w → BitVec w} (hg : ∀ w x y, (g w x y).toNat = f x.toNat y.toNat) (j : IntKind) (a b : Int) (ha : 0 ≤ a) (hb : 0 ≤ b) : bit2 f (.int j a) (.int j b) k = k (.int j (j.wrap (g j.bits (BitVec.ofInt j.bits a) (BitVec.ofInt j.bits b)).toNat)) := by
  obtain ⟨p, rfl⟩ : ∃ p : Nat, a = Int.ofNat p := ⟨a.toNat, (Int.toNat_of_nonneg ha).symm⟩
  obtain ⟨q, rfl⟩ : ∃ q : Nat, b = Int.ofNat q := ⟨b.toNat, (Int.toNat_of_nonneg hb).symm⟩
  unfold bit2
  simp only [sameK_refl, fwrap_eq, hg, (arQ_bits p q).1, (arQ_bits p q).2]
  rfl
theorem s_and (j : IntKind) (a b : Int) (ha : 0 ≤ a) (hb : 0 ≤ b) : kan (.int j a) (.int j b) k = k (.int j (j.wrap (BitVec.ofInt j.bits a &&& BitVec.ofInt j.bits b).toNat)) := bit2_eq k (g := fun _ x y => x &&& y) (fun _ _ _ => BitVec.toNat_and ..) j a b ha hb
theorem s_or (j : IntKind) (a b : Int) (ha : 0 ≤ a) (hb : 0 ≤ b) : kor (.int j a) (.int j b) k = k (.int j (j.wrap (BitVec.ofInt j.bits a ||| BitVec.ofInt j.bits b).toNat)) := bit2_eq k (g := fun _ x y => x ||| y) (fun _ _ _ => BitVec.toNat_or ..) j a b ha hb
theorem s_xor (j : IntKind) (a b : Int) (ha : 0 ≤ a) (hb : 0 ≤ b) : kxo (.int j a) (.int j b) k = k (.int j (j.wrap (BitVec.ofInt j.bits a ^^^ BitVec.ofInt j.bits b).toNat)) := bit2_eq k (g := fun _ x y => x ^^^ y) (fun _ _ _ => BitVec.toNat_xor ..) j a b ha hb
theorem s_shl (j j' : IntKind) (a b : Int) (ha : 0 ≤ a) (hb : 0 ≤ b) : ksl (.int j a) (.int j' b) k = k (.int j (j.wrap (a * 2 ^ (min b.toNat j.bits)))) := by
  obtain ⟨p, rfl⟩ : ∃ p : Nat, a = Int.ofNat p := ⟨a.toNat, (Int.toNat_of_nonneg ha).symm⟩
  obtain ⟨q, rfl⟩ : ∃ q : Nat, b = Int.ofNat q := ⟨b.toNat, (Int.toNat_of_nonneg hb).symm⟩
  unfold ksl
  simp only [fwrap_eq]
  congr 3
theorem s_shr (j j' : IntKind) (a b : Int) (ha : 0 ≤ a) (hb : 0 ≤ b) : ksr (.int j a) (.int j' b) k = k (.int j (a.fdiv (2 ^ (min b.toNat j.bits)))) := by
  obtain ⟨p, rfl⟩ : ∃ p : Nat, a = Int.ofNat p := ⟨a.toNat, (Int.toNat_of_nonneg ha).symm⟩
  obtain ⟨q, rfl⟩ : ∃ q : Nat, b = Int.ofNat q := ⟨b.toNat, (Int.toNat_of_nonneg hb).symm⟩
  unfold ksr
  simp only
  congr 2
  show ((p / 2 ^ (min q j.bits) : Nat) : Int) = ((p : Nat) : Int).fdiv (2 ^ min q j.bits)
  have e2 : (2 : Int) ^ (min q j.bits) = ((2 ^ (min q j.bits) : Nat) : Int) := by simp
  rw [e2, Int.fdiv_eq_ediv_of_nonneg _ (Int.natCast_nonneg _), ← Int.natCast_ediv]
theorem s_addS (a b : List UInt8) (h : a.length + b.length ≤ 9223372036854775807) : kad (.string ⟨a.toArray⟩) (.string ⟨b.toArray⟩) k = k (.string ⟨(a ++ b).toArray⟩) := by
  unfold kad
  simp only [lenB_eq]
  rw [show Nat.ble (Nat.add a.length b.length) 9223372036854775807 = true from Nat.ble_eq_true_of_le h]
  simp only [appB_eq]
theorem s_eqS (a b : List UInt8) : keq (.string ⟨a.toArray⟩) (.string ⟨b.toArray⟩) k = k (.bool (decide (a = b))) := by
  unfold keq
  simp only [beqB_eq]
theorem s_neS (a b : List UInt8) : kne (.string ⟨a.toArray⟩) (.string ⟨b.toArray⟩) k = k (.bool (!decide (a = b))) := by
  unfold kne
  simp only [beqB_eq]
theorem s_eqB (a b : Bool) : kbe (.bool a) (.bool b) k = k (.bool (a == b)) := by cases a <;> cases b <;> rfl
theorem s_neB (a b : Bool) : kbn (.bool a) (.bool b) k = k (.bool (a != b)) := by cases a <;> cases b <;> rfl
theorem s_not (b : Bool) : knt (.bool b) k = k (.bool (!b)) := rfl
theorem s_neg (j : IntKind) (a : Int) : kng (.int j a) k = k (.int j (j.wrap (0 - a))) := by
  unfold kng
  simp only [fwrap_eq, isub_eq]
theorem s_cv (kd j : IntKind) (a : Int) : kcv kd (.int j a) k = k (.int kd (kd.wrap a)) := by
  unfold kcv
  simp only [fwrap_eq]
theorem s_id (s : ByteArray) : kid (.string s) k = k (.string s) := rfl
theorem s_ln (a : Option Addr) (n c : Nat) : kln (.slice a n c) k = k (.int .i64 (n : Int)) := rfl
theorem s_lx (l : List UInt8) : klx (.string ⟨l.toArray⟩) k = k (.int .i64 (l.length : Int)) := by
  unfold klx
  simp only [lenB_eq]
  rfl
theorem s_mi (j j' : IntKind) (a b : Int) : kmi (.int j a) (.int j' b) k = k (.int j (if b < a then b else a)) := by
  unfold kmi
  simp only [ilt_eq]
  by_cases h : b < a <;> simp only [h, decide_true, decide_false, if_true, if_false]
theorem s_ma (j j' : IntKind) (a b : Int) : kma (.int j a) (.int j' b) k = k (.int j (if a < b then b else a)) := by
  unfold kma
  simp only [ilt_eq]
  by_cases h : a < b <;> simp only [h, decide_true, decide_false, if_true, if_false]
theorem s_pk (b : Bool) (x y : Value) : kpk (.bool b) x y k = k (if b = true then x else y) := by cases b <;> rfl
theorem s_pe1 (a : Addr) : kpe (.pointer (some a)) (.pointer none) k = k (.bool false) := rfl
theorem s_pe0 : kpe (.pointer none) (.pointer none) k = k (.bool true) := rfl
theorem s_pn1 (a : Addr) : kpn (.pointer (some a)) (.pointer none) k = k (.bool true) := rfl
theorem s_pn0 : kpn (.pointer none) (.pointer none) k = k (.bool false) := rfl
theorem s_se1 (a : Addr) (n c m d : Nat) : kse (.slice (some a) n c) (.slice none m d) k = k (.bool false) := rfl
theorem s_se0 (n c m d : Nat) : kse (.slice none n c) (.slice none m d) k = k (.bool true) := rfl
theorem s_sn1 (a : Addr) (n c m d : Nat) : ksn (.slice (some a) n c) (.slice none m d) k = k (.bool true) := rfl
theorem s_sn0 (n c m d : Nat) : ksn (.slice none n c) (.slice none m d) k = k (.bool false) := rfl
theorem s_fe1 (f : Fn) (a b : Array Value) : kfe (.func f a b) .nilFunc k = k (.bool false) := rfl
theorem s_fn1 (f : Fn) (a b : Array Value) : kfn (.func f a b) .nilFunc k = k (.bool true) := rfl

theorem s_fa (K b off : Nat) : kfa K (.pointer (some ⟨b, off, none⟩)) k = k (.pointer (some ⟨b, off + K, none⟩)) := rfl
theorem nthK (l : List Value) (i : Nat) : (match nthV l i with
    | some v => k v
    | none => M.fail) = optK l[i]? k := by
  rw [nthV_eq]
  cases l[i]? <;> rfl
theorem s_fd (K : Nat) (l : List Value) : kfd K (.agg l.toArray) k = optK l[K]? k := nthK k l K
theorem s_fg (K m : Nat) (l : List Value) : kfg K m (.agg l.toArray) k = k (.agg ((l.drop K).take m).toArray) := rfl
theorem s_ex (l : List Value) (i : Nat) : kex (.tuple l.toArray) i k = optK l[i]? k := nthK k l i
theorem ble_lt {i : Int} {n : Nat} (h1 : i < n) {j : Nat} (e : i = Int.ofNat j) : Nat.ble (Nat.succ j) n = true := by
  subst e
  exact Nat.ble_eq_true_of_le (Int.ofNat_lt.1 h1)
theorem s_ix (b off n c : Nat) (j : IntKind) (i : Int) (h0 : 0 ≤ i) (h1 : i < n) : kix (.slice (some ⟨b, off, none⟩) n c) (.int j i) k = k (.pointer (some ⟨b, off + i.toNat, none⟩)) := by
  obtain ⟨p, rfl⟩ : ∃ p : Nat, i = Int.ofNat p := ⟨i.toNat, (Int.toNat_of_nonneg h0).symm⟩
  unfold kix
  simp only [ble_lt h1 rfl]
  rfl
theorem s_iy (sz b off n c : Nat) (j : IntKind) (i : Int) (h0 : 0 ≤ i) (h1 : i < n) : kiy sz (.slice (some ⟨b, off, none⟩) n c) (.int j i) k = k (.pointer (some ⟨b, off + i.toNat * sz, none⟩)) := by
  obtain ⟨p, rfl⟩ : ∃ p : Nat, i = Int.ofNat p := ⟨i.toNat, (Int.toNat_of_nonneg h0).symm⟩
  unfold kiy
  simp only [ble_lt h1 rfl]
  rfl
theorem s_ia (n b off : Nat) (j : IntKind) (i : Int) (h0 : 0 ≤ i) (h1 : i < n) : kia n (.pointer (some ⟨b, off, none⟩)) (.int j i) k = k (.pointer (some ⟨b, off + i.toNat, none⟩)) := by
  obtain ⟨p, rfl⟩ : ∃ p : Nat, i = Int.ofNat p := ⟨i.toNat, (Int.toNat_of_nonneg h0).symm⟩
  unfold kia
  simp only [ble_lt h1 rfl]
  rfl
theorem s_ib (n sz b off : Nat) (j : IntKind) (i : Int) (h0 : 0 ≤ i) (h1 : i < n) : kib n sz (.pointer (some ⟨b, off, none⟩)) (.int j i) k = k (.pointer (some ⟨b, off + i.toNat * sz, none⟩)) := by
  obtain ⟨p, rfl⟩ : ∃ p : Nat, i = Int.ofNat p := ⟨i.toNat, (Int.toNat_of_nonneg h0).symm⟩
  unfold kib
  simp only [ble_lt h1 rfl]
  rfl
theorem s_iv (n : Nat) (l : List Value) (j : IntKind) (i : Int) (h0 : 0 ≤ i) (h1 : i < n) : kiv n (.agg l.toArray) (.int j i) k = optK l[i.toNat]? k := by
  obtain ⟨p, rfl⟩ : ∃ p : Nat, i = Int.ofNat p := ⟨i.toNat, (Int.toNat_of_nonneg h0).symm⟩
  unfold kiv
  simp only [ble_lt h1 rfl]
  exact nthK k l p
theorem s_it (l : List UInt8) (j : IntKind) (i : Int) (h0 : 0 ≤ i) (h1 : i < l.length) : kit (.string ⟨l.toArray⟩) (.int j i) k = k (.int .u8 ((l.getD i.toNat 0).toNat : Int)) := by
  obtain ⟨p, rfl⟩ : ∃ p : Nat, i = Int.ofNat p := ⟨i.toNat, (Int.toNat_of_nonneg h0).symm⟩
  have hp : p < l.length := Int.ofNat_lt.1 h1
  have e : nthB l p = some (l.getD p 0) := by
    cases hn : nthB l p with
    | some c => rw [(nthB_some _ _ _ hn).2]
    | none =>
      exfalso
      have : ∀ (l : List UInt8) (p : Nat), p < l.length → nthB l p ≠ none := by
        intro l
        induction l with
        | nil => intro p h; simp at h
        | cons a l ih =>
          intro p h e
          cases p with
          | zero => cases e
          | succ p => exact ih p (by simpa using h) e
      exact this l p hp hn
  unfold kit
  simp only [e]
  rfl
theorem ksx_eq (l : List UInt8) (lo hi : Option Value) {a b : Nat} (ha : bndN lo 0 = some a) (hb : bndN hi l.length = some b) (h1 : a ≤ b) (h2 : b ≤ l.length) : ksx (.string ⟨l.toArray⟩) lo hi k = k (.string ⟨((l.drop a).take (b - a)).toArray⟩) := by
  unfold ksx
  simp only [ha, lenB_eq, hb, Nat.ble_eq_true_of_le h1, Nat.ble_eq_true_of_le h2]
  rfl
theorem bndN_int (j : IntKind) {i : Int} (d : Nat) (h : 0 ≤ i) : bndN (some (.int j i)) d = some i.toNat := by
  obtain ⟨p, rfl⟩ : ∃ p : Nat, i = Int.ofNat p := ⟨i.toNat, (Int.toNat_of_nonneg h).symm⟩
  rfl
theorem s_sxh (l : List UInt8) (kd : IntKind) (j : Int) (h0 : 0 ≤ j) (h1 : j ≤ l.length) : ksx (.string ⟨l.toArray⟩) none (some (.int kd j)) k = k (.string ⟨(l.take j.toNat).toArray⟩) := by
  rw [ksx_eq k l none _ (a := 0) (b := j.toNat) rfl (bndN_int kd _ h0) (by omega) (by omega)]
  simp
theorem s_sxl (l : List UInt8) (kd : IntKind) (i : Int) (h0 : 0 ≤ i) (h1 : i ≤ l.length) : ksx (.string ⟨l.toArray⟩) (some (.int kd i)) none k = k (.string ⟨(l.drop i.toNat).toArray⟩) := by
  rw [ksx_eq k l _ none (a := i.toNat) (b := l.length) (bndN_int kd _ h0) rfl (by omega) (by omega)]
  rw [List.take_of_length_le (by simp)]
theorem s_sxb (l : List UInt8) (kd kd' : IntKind) (i j : Int) (h0 : 0 ≤ i) (h1 : i ≤ j) (h2 : j ≤ l.length) : ksx (.string ⟨l.toArray⟩) (some (.int kd i)) (some (.int kd' j)) k = k (.string ⟨((l.drop i.toNat).take (j.toNat - i.toNat)).toArray⟩) :=
  ksx_eq k l _ _ (bndN_int kd _ h0) (bndN_int kd' _ (by omega)) (by omega) (by omega)
theorem s_bd (z : List Value) (ps : List (Nat × Nat × Value)) : kbd z ps k = optK (fillQ z ps) fun cs => k (.agg cs.toArray) := by
  unfold kbd
  cases fillQ z ps <;> rfl
theorem fill_nil (cs : List Value) : fillQ cs [] = some cs := rfl
theorem fillQ_cons (cs : List Value) (q : Nat × Nat × Value) (r : List (Nat × Nat × Value)) : fillQ cs (q :: r) = match Nat.beq (lenV (cellsL q.2.2)) q.2.1 with
    | true => match Nat.ble (Nat.add q.1 (lenV (cellsL q.2.2))) (lenV cs) with
      | true => fillQ (splice cs q.1 (cellsL q.2.2)) r
      | false => none
    | false => none := rfl
theorem fill_gen {cs vs : List Value} {off sz : Nat} {v : Value} {r : List (Nat × Nat × Value)} (hv : cellsL v = vs) : fillQ cs ((off, sz, v) :: r) = if vs.length = sz then (if off + sz ≤ cs.length then fillQ (cs.take off ++ (vs ++ cs.drop (off + sz))) r else none) else none := by
  have sp : ∀ (off : Nat) (cs l : List Value), off + l.length ≤ cs.length → splice cs off l = cs.take off ++ (l ++ cs.drop (off + l.length)) := by
    have ov : ∀ (l cs : List Value), l.length ≤ cs.length → over l cs = l ++ cs.drop l.length := by
      intro l
      induction l with
      | nil => intro cs _; simp [over]
      | cons x l ih =>
        intro cs h
        cases cs with
        | nil => simp at h
        | cons c cs =>
          show x :: over l cs = _
          rw [ih cs (by simpa using h)]
          simp
    intro off
    induction off with
    | zero =>
      intro cs l h
      have e : splice cs 0 l = over l cs := by cases cs <;> rfl
      rw [e, ov l cs (by omega)]
      simp
    | succ off ih =>
      intro cs l h
      cases cs with
      | nil => simp at h
      | cons c cs =>
        show c :: splice cs off l = _
        rw [ih cs l (by simp at h; omega), show off + 1 + l.length = off + l.length + 1 by omega]
        simp
  subst hv
  rw [fillQ_cons]
  simp only [lenV_eq]
  by_cases h1 : (cellsL v).length = sz
  · rw [if_pos h1]
    subst h1
    rw [Nat.beq_refl]
    simp only
    by_cases h2 : off + (cellsL v).length ≤ cs.length
    · rw [if_pos h2, show Nat.ble (Nat.add off (cellsL v).length) cs.length = true from Nat.ble_eq_true_of_le h2, sp _ _ _ h2]
    · rw [if_neg h2]
      have : Nat.ble (Nat.add off (cellsL v).length) cs.length = false := by
        cases hq : Nat.ble (Nat.add off (cellsL v).length) cs.length with
        | false => rfl
        | true => exact absurd (Nat.le_of_ble_eq_true hq) h2
      rw [this]
  · rw [if_neg h1]
    have : Nat.beq (cellsL v).length sz = false := by
      cases hq : Nat.beq (cellsL v).length sz with
      | false => rfl
      | true => exact absurd (Nat.eq_of_beq_eq_true hq) h1
    rw [this]
theorem fill_one {cs : List Value} {off : Nat} {v : Value} {r : List (Nat × Nat × Value)} (hv : cellsL v = [v]) : fillQ cs ((off, 1, v) :: r) = if off < cs.length then fillQ (cs.set off v) r else none := by
  rw [fill_gen hv, if_pos (show [v].length = 1 from rfl)]
  by_cases h : off < cs.length
  · rw [if_pos h, if_pos (by omega)]
    congr 1
    rw [List.set_eq_take_append_cons_drop, if_pos h]
    rfl
  · rw [if_neg h, if_neg (by omega)]
section
variable (cs : List Value) (off : Nat) (r : List (Nat × Nat × Value))
theorem fill_int (j : IntKind) (x : Int) : fillQ cs ((off, 1, .int j x) :: r) = if off < cs.length then fillQ (cs.set off (.int j x)) r else none := fill_one rfl
theorem fill_bool (b : Bool) : fillQ cs ((off, 1, .bool b) :: r) = if off < cs.length then fillQ (cs.set off (.bool b)) r else none := fill_one rfl
theorem fill_str (s : ByteArray) : fillQ cs ((off, 1, .string s) :: r) = if off < cs.length then fillQ (cs.set off (.string s)) r else none := fill_one rfl
theorem fill_slice (a : Option Addr) (n c : Nat) : fillQ cs ((off, 1, .slice a n c) :: r) = if off < cs.length then fillQ (cs.set off (.slice a n c)) r else none := fill_one rfl
theorem fill_ptr (a : Option Addr) : fillQ cs ((off, 1, .pointer a) :: r) = if off < cs.length then fillQ (cs.set off (.pointer a)) r else none := fill_one rfl
theorem fill_agg (sz : Nat) (vs : List Value) : fillQ cs ((off, sz, .agg vs.toArray) :: r) = if vs.length = sz then (if off + sz ≤ cs.length then fillQ (cs.take off ++ (vs ++ cs.drop (off + sz))) r else none) else none := fill_gen rfl
end
end

theorem get_eq (h : H) (i : Nat) (x : Option AB) : (h.set i x).get i = x := by rw [H.get_set, if_pos rfl]
theorem get_ne (h : H) {i j : Nat} (x : Option AB) (e : j ≠ i) : (h.set i x).get j = h.get j := by rw [H.get_set, if_neg e]
theorem inside_ro {α : Type} {m : M α} {h h1 : H} {n n1 : Nat} {a : α} {L : List En} (e : m h n = some ⟨a, h1, n1, L⟩) (hw : ∀ e ∈ L, e.wr = false) : ∃ L', inside m h n = some ⟨a, h1, n1, L'⟩ ∧ ∀ e ∈ L', e.wr = true → n0 ≤ e.b ∨ W e.b :=
  ⟨_, inside_run e, fun x hx hx2 => by rw [hw x (List.mem_filter.1 hx).1] at hx2; cases hx2⟩
theorem newB_run (e : TypeId) (cs : List Value) (h : H) (n : Nat) : newB e cs h n = some ⟨n, h.set n (some ⟨e, true, cs⟩), n + 1, []⟩ := by
  unfold newB
  rw [if_pos (Nat.lt_succ_self n)]
theorem run_new {α : Type} {m : M α} {a : α} {k : α → M β} {h1 : H} {n1 : Nat} (e : m h n = some ⟨a, h1, n1, []⟩) (hn : n ≤ n1) (x : Run W n0 (k a) h1 n1 Q) : Run W n0 ((inside m).bind k) h n Q :=
  Run.step (inside_run e) hn (fun x hx => by simp at hx) x
theorem run_ins {α : Type} {m : M α} {kk : α → M β} (x : Run W n0 ((inside m).bind kk) h n Q) : Run W n0 (insB m kk) h n Q := by rw [insB_eq]; exact x
theorem newK (e : TypeId) (cs : List Value) (f : Nat → Value) (h : H) (n : Nat) : ((newB3 e cs).bind fun id => M.ret (f id)) h n = some ⟨f n, h.set n (some ⟨e, true, cs⟩), n + 1, []⟩ := by
  rw [newB3_eq]
  exact bind_run (newB_run _ _ _ _) rfl
theorem run_box {T : Prop} (_ : T) {t : TypeId} (v : Value) (k : Value → M β) (x : Run W n0 (k (.pointer (some ⟨n, 0, none⟩))) (h.set n (some ⟨t, true, v.cells.toList⟩)) (n + 1) Q) : Run W n0 (kbx t v k) h n Q := by
  rw [← cellsL_eq] at x
  exact run_ins (run_new (newK _ _ (fun id => Value.pointer (some ⟨id, 0, none⟩)) _ _) (Nat.le_succ n) x)
theorem run_alloc {t : TypeId} {z cs : List Value} (hz : z = cs) (k : Value → M β) (x : Run W n0 (k (.pointer (some ⟨n, 0, none⟩))) (h.set n (some ⟨t, true, cs⟩)) (n + 1) Q) : Run W n0 (kal t z k) h n Q := by
  subst hz
  exact run_ins (run_new (newK _ _ (fun id => Value.pointer (some ⟨id, 0, none⟩)) _ _) (Nat.le_succ n) x)
theorem catV_one (z : Value) : ∀ m, catV [z] m = List.replicate m z
  | 0 => rfl
  | m + 1 => by
    show z :: catV [z] m = _
    rw [catV_one z m]; rfl
theorem run_make {T : Prop} (_ : T) {e : TypeId} {z : Value} (l m : Nat) (k : Value → M β) {kd kd' : IntKind} (hl : l ≤ m) (hm : m ≤ 1099511627776) (x : Run W n0 (k (.slice (some ⟨n, 0, none⟩) l m)) (h.set n (some ⟨e, true, List.replicate m z⟩)) (n + 1) Q) : Run W n0 (kmk e [z] (.int kd l) (.int kd' m) k) h n Q := by
  have e1 : kmk e [z] (.int kd l) (.int kd' m) k = insB ((newB3 e (catV [z] m)).bind fun id => M.ret (Value.slice (some ⟨id, 0, none⟩) l m)) k := by
    show (match Nat.ble l m with
      | true => match Nat.ble m 1099511627776 with
        | true => insB ((newB3 e (catV [z] m)).bind fun id => M.ret (Value.slice (some ⟨id, 0, none⟩) l m)) k
        | false => .fail
      | false => .fail) = _
    rw [Nat.ble_eq_true_of_le hl, Nat.ble_eq_true_of_le hm]
  rw [e1, catV_one]
  exact run_ins (run_new (newK _ _ (fun id => Value.slice (some ⟨id, 0, none⟩) l m) _ _) (Nat.le_succ n) x)
theorem run_lit1 {T : Prop} (_ : T) {e : TypeId} {v : Value} (h1 : one v = true) (k : Value → M β) (x : Run W n0 (k (.slice (some ⟨n, 0, none⟩) 1 1)) (h.set n (some ⟨e, true, [v]⟩)) (n + 1) Q) : Run W n0 (kb1 e 1 v k) h n Q := by
  have hc : cellsL v = [v] := by cases v <;> first | rfl | (simp [one] at h1)
  unfold kb1
  rw [hc]
  exact run_ins (run_new (newK _ _ (fun id => Value.slice (some ⟨id, 0, none⟩) 1 1) _ _) (Nat.le_succ n) x)
end

end Go.Proofs.YtmjolmggelkjlaaGreat.Ev
/- What a part of the second form does: rules for rewriting; appending; slices; calls. No program in sight. -/
namespace Go.Proofs.YtmjolmggelkjlaaGreat.Ev
set_option linter.unusedVariables false
set_option linter.unusedSimpArgs false
open Go

def optG {α : Type} (o : Option α) (p : α → Prop) : Prop := match o with
  | some a => p a
  | none => False
theorem optG_some {α : Type} (a : α) (p : α → Prop) : optG (some a) p = p a := rfl
theorem one_int (k : IntKind) (x : Int) : one (.int k x) = true := rfl
theorem cells_agg (cs : Array Value) : (Value.agg cs).cells = cs := rfl
section
variable {β : Type} {W : Nat → Prop} {n0 : Nat} {h h1 : H} {n n1 : Nat} {Q : β → H → Nat → Prop}
theorem not_run_fail : ¬ Run W n0 (M.fail : M β) h n Q := by rintro ⟨_, _, _, _, e, _⟩; cases e
theorem not_run_bind {α : Type} {m : M α} {k : α → M β} (e : m h n = none) : ¬ Run W n0 (m.bind k) h n Q := by
  rintro ⟨_, _, _, _, e1, _⟩
  unfold M.bind at e1
  rw [e] at e1
  cases e1
theorem inside_none {α : Type} {m : M α} (e : m h n = none) : Ev.inside m h n = none := by unfold Ev.inside; rw [e]
theorem kld_iff (b off : Nat) (k : Value → M β) (hb : b < n) : Run W n0 (kld (.pointer (some ⟨b, off, none⟩)) k) h n Q ↔ optG (h.get b) fun B => Run W n0 (optK (B.cells[off]?) k) h n Q := by
  show Run W n0 (insB (rd3 b off) k) h n Q ↔ _
  rw [insB_eq, rd3_eq]
  cases hg : h.get b with
  | none =>
    refine ⟨fun x => absurd x (not_run_bind (inside_none ?_)), fun x => x.elim⟩
    unfold rd
    simp [hg]
  | some B =>
    show _ ↔ Run W n0 (optK (B.cells[off]?) k) h n Q
    cases hv : B.cells[off]? with
    | none =>
      refine ⟨fun x => absurd x (not_run_bind (inside_none ?_)), fun x => absurd x not_run_fail⟩
      unfold rd
      simp [hg, hv]
    | some v =>
      have e : rd b off h n = some ⟨v, h, n, [⟨false, b, some off⟩]⟩ := by
        unfold rd
        simp only [hb, hg, hv, if_true]
      obtain ⟨L', e1, e2⟩ := inside_ro (W := W) (n0 := n0) e (by simp)
      exact Run.iff e1 e2
theorem kst_def (b off : Nat) {v : Value} (k : Value → M β) (h1 : one v = true) : kst (.pointer (some ⟨b, off, none⟩)) v k = (inside ((wr b off v).bind fun _ => .ret undef)).bind k := by
  show (match one v with
    | true => insB ((wr3 b off v).bind fun _ => .ret undef) k
    | false => .fail) = _
  rw [h1, wr3_eq]
  exact insB_eq _ _
theorem kst_iff (b off : Nat) (v : Value) (k : Value → M β) (hb : b < n) (h1 : one v = true) : Run W n0 (kst (.pointer (some ⟨b, off, none⟩)) v k) h n Q ↔
    optG (h.get b) fun B => B.own = true ∧ off < B.cells.length ∧ (n0 ≤ b ∨ W b) ∧ Run W n0 (k undef) (h.set b (some ⟨B.elem, B.own, B.cells.set off v⟩)) n Q := by
  rw [kst_def b off k h1]
  cases hg : h.get b with
  | none =>
    refine ⟨fun x => absurd x (not_run_bind (inside_none ?_)), fun x => x.elim⟩
    unfold M.bind wr
    simp [hg]
  | some B =>
    show _ ↔ (B.own = true ∧ off < B.cells.length ∧ (n0 ≤ b ∨ W b) ∧ _)
    by_cases hok : B.own = true ∧ off < B.cells.length
    · obtain ⟨ho, hl⟩ := hok
      have hwr : wr b off v h n = some ⟨(), h.set b (some ⟨B.elem, B.own, B.cells.set off v⟩), n, [⟨false, b, some off⟩, ⟨true, b, some off⟩]⟩ := by
        unfold wr
        simp [hb, hg, ho, hl, h1]
      have e : ((wr b off v).bind fun _ => M.ret undef) h n = some ⟨undef, h.set b (some ⟨B.elem, B.own, B.cells.set off v⟩), n, [⟨false, b, some off⟩, ⟨true, b, some off⟩]⟩ := by
        have := bind_run (f := fun _ => M.ret undef) hwr (L2 := []) (b := undef) (h2 := h.set b (some ⟨B.elem, B.own, B.cells.set off v⟩)) (n2 := n) rfl
        simpa using this
      have ei := inside_run e
      constructor
      · intro x
        refine ⟨ho, hl, ?_, Run.unstep ei rfl x⟩
        obtain ⟨_, _, _, L, e1, _, e3, _⟩ := x
        obtain ⟨_, _, _, L3, L4, e5, _, rfl⟩ := bind_some e1
        rw [ei] at e5
        simp only [Option.some.injEq, Out.mk.injEq] at e5
        refine e3 ⟨true, b, some off⟩ (List.mem_append.2 (.inl ?_)) rfl
        rw [← e5.2.2.2]
        refine List.mem_filter.2 ⟨by simp, ?_⟩
        simp
        omega
      · rintro ⟨_, _, hw, x⟩
        refine Run.step ei (Nat.le_refl _) (fun x hx hx2 => ?_) x
        have hx := (List.mem_filter.1 hx).1
        simp at hx
        rcases hx with rfl | rfl <;> exact hw
    · refine ⟨fun x => absurd x (not_run_bind (inside_none ?_)), fun x => absurd ⟨x.1, x.2.1⟩ hok⟩
      unfold M.bind wr
      simp only [hb, hg, if_true, h1, Bool.and_true]
      rw [if_neg (by simpa using hok)]
section
variable (b off : Nat) (k : Value → M β) (hb : b < n)
include hb
theorem st_int (j : IntKind) (x : Int) : Run W n0 (kst (.pointer (some ⟨b, off, none⟩)) (.int j x) k) h n Q ↔ optG (h.get b) fun B => B.own = true ∧ off < B.cells.length ∧ (n0 ≤ b ∨ W b) ∧ Run W n0 (k undef) (h.set b (some ⟨B.elem, B.own, B.cells.set off (.int j x)⟩)) n Q := kst_iff b off _ k hb rfl
theorem st_bool (x : Bool) : Run W n0 (kst (.pointer (some ⟨b, off, none⟩)) (.bool x) k) h n Q ↔ optG (h.get b) fun B => B.own = true ∧ off < B.cells.length ∧ (n0 ≤ b ∨ W b) ∧ Run W n0 (k undef) (h.set b (some ⟨B.elem, B.own, B.cells.set off (.bool x)⟩)) n Q := kst_iff b off _ k hb rfl
theorem st_str (x : ByteArray) : Run W n0 (kst (.pointer (some ⟨b, off, none⟩)) (.string x) k) h n Q ↔ optG (h.get b) fun B => B.own = true ∧ off < B.cells.length ∧ (n0 ≤ b ∨ W b) ∧ Run W n0 (k undef) (h.set b (some ⟨B.elem, B.own, B.cells.set off (.string x)⟩)) n Q := kst_iff b off _ k hb rfl
theorem st_ptr (x : Option Addr) : Run W n0 (kst (.pointer (some ⟨b, off, none⟩)) (.pointer x) k) h n Q ↔ optG (h.get b) fun B => B.own = true ∧ off < B.cells.length ∧ (n0 ≤ b ∨ W b) ∧ Run W n0 (k undef) (h.set b (some ⟨B.elem, B.own, B.cells.set off (.pointer x)⟩)) n Q := kst_iff b off _ k hb rfl
theorem st_slice (x : Option Addr) (l c : Nat) : Run W n0 (kst (.pointer (some ⟨b, off, none⟩)) (.slice x l c) k) h n Q ↔ optG (h.get b) fun B => B.own = true ∧ off < B.cells.length ∧ (n0 ≤ b ∨ W b) ∧ Run W n0 (k undef) (h.set b (some ⟨B.elem, B.own, B.cells.set off (.slice x l c)⟩)) n Q := kst_iff b off _ k hb rfl
end

theorem rdN_run {b : Nat} {B : AB} (hg : h.get b = some B) (hb : b < n) : ∀ (c k : Nat), k + c ≤ B.cells.length → ∃ L, rdN b k c h n = some ⟨(B.cells.drop k).take c, h, n, L⟩ ∧ ∀ e ∈ L, e.wr = false
  | 0, k, _ => ⟨[], by rw [List.take_zero]; rfl, by simp⟩
  | c + 1, k, hk => by
    obtain ⟨L, e, hL⟩ := rdN_run hg hb c (k + 1) (by omega)
    have hk2 : k < B.cells.length := by omega
    refine ⟨[⟨false, b, some k⟩] ++ (L ++ []), ?_, ?_⟩
    · unfold rdN
      have e0 : rd b k h n = some ⟨B.cells[k], h, n, [⟨false, b, some k⟩]⟩ := by
        unfold rd
        simp only [hb, hg, if_true, List.getElem?_eq_getElem hk2]
      refine bind_run e0 (bind_run e ?_)
      rw [List.drop_eq_getElem_cons hk2, List.take_succ_cons]
      rfl
    · intro x hx
      simp only [List.append_nil, List.mem_append, List.mem_cons, List.not_mem_nil, or_false] at hx
      rcases hx with rfl | hx
      · rfl
      · exact hL x hx
/-- what is read of a slice -/
def Src (h : H) (n : Nat) (x : Value) (news : List Value) : Prop := ∃ b off c B, x = .slice (some ⟨b, off, none⟩) news.length c ∧ h.get b = some B ∧ b < n ∧ off + news.length ≤ B.cells.length ∧ (B.cells.drop off).take news.length = news
theorem Src.run {x : Value} {news : List Value} (s : Src h n x news) : ∃ L, elemsOf 1 news.length x h n = some ⟨news, h, n, L⟩ ∧ (∀ e ∈ L, e.wr = false) ∧ lenOf? x = some news.length := by
  obtain ⟨b, off, c, B, rfl, hg, hb, hl, ht⟩ := s
  obtain ⟨L, e, hL⟩ := rdN_run hg hb news.length off hl
  refine ⟨L, ?_, hL, rfl⟩
  unfold elemsOf
  rw [Nat.mul_one]
  show rdN b off news.length h n = _
  rw [e, ht]
theorem call_frame {P : Program} (hd : okDsts P = true) {gt : Nat → Hint} {lf d : Nat} {f : FuncId} {args : Array Value} {v : Value} {L : List En} (e : evCall2 P gt lf d f args h n = some ⟨v, h1, n1, L⟩) {W' : Nat → Prop} (hw : ∀ e ∈ L, e.wr = true → n ≤ e.b ∨ W' e.b) : ∀ b, b < n → ¬ W' b → h1.get b = h.get b := by
  obtain ⟨f0, e0⟩ := call2_ok hd d f args h n v h1 n1 L e
  have A := Loc.evCall P KN f0 f args h n v h1 n1 L (e0 f0 (Nat.le_refl _))
  intro b hb hn
  refine get_of_agrS fun k => A.frame b k ?_ (by omega)
  rintro ⟨e, he, h2, h3, _⟩
  rcases hw e he h2 with q | q
  · omega
  · exact hn (h3 ▸ q)
theorem run_call {P : Program} (hd : okDsts P = true) {gt : Nat → Hint} {lf d : Nat} {f : FuncId} {vs : List Value} {W' : Nat → Prop} {Q' : Value → H → Nat → Prop} (s : Run W' n (evCall2 P gt lf d f ⟨vs⟩) h n Q') (hn : n0 ≤ n) (hW : ∀ b, b < n → W' b → n0 ≤ b ∨ W b) {k : Value → M β}
    (x : ∀ v h1 n1, n ≤ n1 → (∀ b, b < n → ¬ W' b → h1.get b = h.get b) → Q' v h1 n1 → Run W n0 (k v) h1 n1 Q) : Run W n0 (kcl (evCall2 P gt lf d) f vs k) h n Q := by
  obtain ⟨v, h1, n1, L, e1, e2, e3, e4⟩ := s
  refine run_ins (m := evCall2 P gt lf d f ⟨vs⟩) (Run.step (inside_run e1) e2 (fun e he hwr => ?_) (x v h1 n1 e2 (call_frame hd e1 e3) e4))
  have hL := (List.mem_filter.1 he).1
  rcases e3 e hL hwr with q | q
  · exact .inl (by omega)
  · by_cases hlt : e.b < n
    · exact hW _ hlt q
    · exact .inl (by omega)
end

section
variable {β : Type} {W : Nat → Prop} {n0 : Nat} {h h1 : H} {n n1 : Nat} {Q : β → H → Nat → Prop}
theorem chk_true (m : M β) : chkT true m = m := rfl
theorem timed_step {m : M Value} {v : Value} {L : List En} {k : Value × Tk → M β} (e : m h n = some ⟨v, h1, n1, L⟩) (hn : n ≤ n1) (hw : ∀ e ∈ L, e.wr = true → n0 ≤ e.b ∨ W e.b) (x : Run W n0 (k (v, ⟨n, n1, L⟩)) h1 n1 Q) : Run W n0 ((timed m).bind k) h n Q :=
  Run.step (timed_run e) hn hw x
theorem ret_tail {m : M Value} {v : Value} {L : List En} (e : m h n = some ⟨v, h1, n1, L⟩) : (m.bind fun v => M.ret v) h n = some ⟨v, h1, n1, L⟩ := by
  have := bind_run (f := fun v => M.ret v) e (L2 := []) (b := v) (h2 := h1) (n2 := n1) rfl
  rwa [List.append_nil] at this
theorem ins_ret {m : M Value} {v : Value} {L : List En} (e : m h n = some ⟨v, h1, n1, L⟩) : (insB m M.ret) h n = some ⟨v, h1, n1, L.filter fun e => !(decide (n ≤ e.b) && decide (e.b < n1))⟩ := by
  rw [insB_eq]
  exact ret_tail (inside_run e)
theorem timed_ld {T : Prop} (_ : T) (b off : Nat) (k : Value × Tk → M β) {B : AB} (hg : h.get b = some B) (hb : b < n) {v : Value} (hv : B.cells[off]? = some v) (x : Run W n0 (k (v, ⟨n, n, [⟨false, b, some off⟩]⟩)) h n Q) : Run W n0 ((timed (kld (.pointer (some ⟨b, off, none⟩)) M.ret)).bind k) h n Q := by
  have e : rd3 b off h n = some ⟨v, h, n, [⟨false, b, some off⟩]⟩ := by
    rw [rd3_eq]
    unfold rd
    simp only [hb, hg, hv, if_true]
  have e2 := ins_ret e
  have hf : [(⟨false, b, some off⟩ : En)].filter (fun e => !(decide (n ≤ e.b) && decide (e.b < n))) = [⟨false, b, some off⟩] := by
    simp; omega
  rw [hf] at e2
  exact timed_step e2 (Nat.le_refl _) (by simp) x
end

end Go.Proofs.YtmjolmggelkjlaaGreat.Ev
/- Rows of one's own that grow; rows of numbers that are read. No program in sight. -/
namespace Go.Proofs.YtmjolmggelkjlaaGreat.Ev
set_option linter.unusedVariables false
set_option linter.unusedSimpArgs false
open Go
section
variable {β : Type} {W : Nat → Prop} {n0 : Nat} {h h1 : H} {n n1 : Nat} {Q : β → H → Nat → Prop}

def InBlk (v : Value) (b : Nat) : Prop := ∃ o l c, v = .slice (some ⟨b, o, none⟩) l c
def Own (h : H) (lo n : Nat) (e : TypeId) (v : Value) (cs : List Value) : Prop := (v = .slice none 0 0 ∧ cs = []) ∨ ∃ b, v = .slice (some ⟨b, 0, none⟩) cs.length (CAP + cs.length) ∧ h.get b = some ⟨e, true, cs⟩ ∧ lo ≤ b ∧ b < n
theorem Own.nil (h : H) (lo n : Nat) (e : TypeId) : Own h lo n e (.slice none 0 0) [] := .inl ⟨rfl, rfl⟩
theorem InBlk.inj {b c o l k : Nat} (h : InBlk (.slice (some ⟨b, o, none⟩) l k) c) : c = b := by
  obtain ⟨_, _, _, h⟩ := h
  cases h
  rfl
theorem InBlk.not_nil {l k c : Nat} (h : InBlk (.slice none l k) c) : False := by
  obtain ⟨_, _, _, h⟩ := h
  cases h
theorem Own.lt {lo : Nat} {e : TypeId} {v : Value} {cs : List Value} (o : Own h lo n e v cs) {b : Nat} (hb : InBlk v b) : lo ≤ b ∧ b < n := by
  rcases o with ⟨rfl, _⟩ | ⟨c, rfl, _, h1, h2⟩
  · exact hb.not_nil.elim
  · rw [hb.inj]; exact ⟨h1, h2⟩
theorem Own.keep {lo : Nat} {e : TypeId} {v : Value} {cs : List Value} {h' : H} {n' : Nat} (o : Own h lo n e v cs) (hn : n ≤ n') (hk : ∀ b, InBlk v b → h'.get b = h.get b) : Own h' lo n' e v cs := by
  rcases o with q | ⟨c, rfl, hc, h1, h2⟩
  · exact .inl q
  · exact .inr ⟨c, rfl, (hk c ⟨_, _, _, rfl⟩).trans hc, h1, by omega⟩
def intsV (k : IntKind) (xs : List Int) : List Value := xs.map (Value.int k)
theorem intsV_len (k : IntKind) (xs : List Int) : (intsV k xs).length = xs.length := by unfold intsV; simp
theorem intsV_at {k : IntKind} {xs : List Int} {i : Nat} (h : i < xs.length) : (intsV k xs)[i]? = some (.int k (xs.getD i 0)) := by
  unfold intsV; simp [h]
/-- a slice value that reads as numbers: empty and nowhere, or somewhere in a block -/
def Row (h : H) (n : Nat) (e : TypeId) (k : IntKind) (v : Value) (xs : List Int) : Prop :=
  (∃ a c, v = .slice a 0 c ∧ (∀ b o, a ≠ some ⟨b, o, none⟩) ∧ xs = []) ∨ ∃ b off cap o cs, v = .slice (some ⟨b, off, none⟩) xs.length cap ∧ h.get b = some ⟨e, o, cs⟩ ∧ b < n ∧ off + xs.length ≤ cs.length ∧ (cs.drop off).take xs.length = intsV k xs ∧ xs.length ≤ cap
theorem Row.keep {e : TypeId} {k : IntKind} {v : Value} {xs : List Int} {h' : H} {n' : Nat} (r : Row h n e k v xs) (hn : n ≤ n') (hk : ∀ b, b < n → h'.get b = h.get b) : Row h' n' e k v xs := by
  rcases r with q | ⟨b, off, cap, o, cs, hv, hg, hb, r⟩
  · exact .inl q
  · exact .inr ⟨b, off, cap, o, cs, hv, (hk b hb).trans hg, by omega, r⟩
theorem Row.keep' {e : TypeId} {k : IntKind} {v : Value} {xs : List Int} {h' : H} {n' : Nat} (r : Row h n e k v xs) (hn : n ≤ n') (hk : ∀ b, InBlk v b → h'.get b = h.get b) : Row h' n' e k v xs := by
  rcases r with q | ⟨b, off, cap, o, cs, hv, hg, hb, r⟩
  · exact .inl q
  · exact .inr ⟨b, off, cap, o, cs, hv, (hk b ⟨_, _, _, hv⟩).trans hg, by omega, r⟩
theorem Row.lt {e : TypeId} {k : IntKind} {v : Value} {xs : List Int} (r : Row h n e k v xs) {b : Nat} (hb : InBlk v b) : b < n := by
  rcases r with ⟨a, c, rfl, hne, _⟩ | ⟨c, off, cap, o, cs, rfl, hg, hbn, _⟩
  · obtain ⟨o, l, k, q⟩ := hb
    cases q
    exact absurd rfl (hne b o)
  · rw [hb.inj]; exact hbn
/-- of a row that is not empty: where it lies, and its cells -/
theorem Row.some {e : TypeId} {k : IntKind} {v : Value} {xs : List Int} (r : Row h n e k v xs) (h0 : 0 < xs.length) : ∃ b off cap o cs, v = .slice (some ⟨b, off, none⟩) xs.length cap ∧ h.get b = some ⟨e, o, cs⟩ ∧ b < n ∧ off + xs.length ≤ cs.length ∧ (cs.drop off).take xs.length = intsV k xs ∧ xs.length ≤ cap ∧ ∀ i, i < xs.length → cs[off + i]? = some (.int k (xs.getD i 0)) := by
  rcases r with ⟨a, c, _, _, rfl⟩ | ⟨b, off, cap, o, cs, hv, hg, hb, hl, ht, hc⟩
  · simp at h0
  · refine ⟨b, off, cap, o, cs, hv, hg, hb, hl, ht, hc, fun i hi => ?_⟩
    have := congrArg (fun z => z[i]?) ht
    simp only [List.getElem?_take, hi, if_true, List.getElem?_drop] at this
    rw [this, intsV_at hi]
theorem Row.len {e : TypeId} {k : IntKind} {v : Value} {xs : List Int} (r : Row h n e k v xs) : ∃ a c, v = .slice a xs.length c := by
  rcases r with ⟨a, c, rfl, _, rfl⟩ | ⟨b, off, cap, o, cs, rfl, _⟩
  · exact ⟨a, c, rfl⟩
  · exact ⟨_, cap, rfl⟩
theorem Own.row {lo : Nat} {e : TypeId} {k : IntKind} {v : Value} {xs : List Int} (o : Own h lo n e v (intsV k xs)) : Row h n e k v xs := by
  rcases o with ⟨rfl, q⟩ | ⟨b, rfl, hg, _, hb⟩
  · exact .inl ⟨none, 0, rfl, fun _ _ q => (nomatch q), by unfold intsV at q; simpa using q⟩
  · rw [intsV_len]
    exact .inr ⟨b, 0, CAP + xs.length, true, _, rfl, hg, hb, by rw [intsV_len]; omega, by rw [List.drop_zero, List.take_of_length_le (by rw [intsV_len]; omega)], by omega⟩
theorem Row.src {e : TypeId} {k : IntKind} {v : Value} {xs : List Int} (r : Row h n e k v xs) (h0 : 0 < xs.length) : Src h n v (intsV k xs) := by
  obtain ⟨b, off, cap, o, cs, hv, hg, hb, hl, ht, hc, _⟩ := r.some h0
  exact ⟨b, off, cap, ⟨e, o, cs⟩, by rw [hv, intsV_len], hg, hb, by rw [intsV_len]; exact hl, by rw [intsV_len]; exact ht⟩
end

end Go.Proofs.YtmjolmggelkjlaaGreat.Ev
/- From what a part of the second form does to what the call does in a world: arguments that are slices of integers. No program in sight. -/
namespace Go.Proofs.YtmjolmggelkjlaaGreat.Ev
set_option linter.unusedVariables false
set_option linter.unusedSimpArgs false
open Go Go.RowKit

theorem cell_some {w : World} {b off : Nat} {v : Value} (h : w.cell? ⟨b, off, none⟩ = some v) : ∃ cs e fr, w.heap[b]? = some (.cells cs e fr) ∧ cs[off]? = some v := by
  unfold World.cell? at h
  cases ho : w.heap[b]? with
  | none => simp [ho] at h
  | some o =>
    cases o with
    | cells cs e fr => exact ⟨cs, e, fr, rfl, by simpa [ho] using h⟩
    | _ => simp [ho] at h
/-- the memory while the arguments are laid -/
structure Laid (P : Program) (w : World) (m : Mp) (h : H) (n : Nat) : Prop where
  wr : WR P m w.heap.size h w.heap
  gl : Gl P m
  fresh : ∀ b, n ≤ b → m b = none
  own : ∀ b B, h.get b = some B → B.own = false
  glo : P.globals.size ≤ n
theorem laid_nil (P : Program) (w : World) : ∃ m, Laid P w m .nil P.globals.size := by
  have hnil : ∀ b B, ¬ (H.get (.nil : H) b = some B) := fun b B hg => by
    unfold H.get at hg; rw [Tr.get_nil] at hg; cases hg
  exact ⟨fun g => if g < P.globals.size then some ⟨g, 0, 0, 0, 0⟩ else none, ⟨fun b B hg => absurd hg (hnil b B), fun b b' B B' d d' hg => absurd hg (hnil b B)⟩,
    fun g hg => ⟨⟨g, 0, 0, 0, 0⟩, if_pos hg, rfl, rfl⟩, fun b hb => if_neg (by omega), fun b B hg => absurd hg (hnil b B), Nat.le_refl _⟩
/-- a closed call, from a start that is laid -/
theorem closed_laid {P : Program} {bad : List FuncId} (hnm : okNames P = true) (hok : okProg P bad = true) (hmix : P.follows .mixedOrders = true) (hkn : Known P bad) {fuel : Nat} {f : FuncId} {w : World} {m : Mp} {h : H} (x : Laid P w m h P.globals.size) (hr : yieldsTrue (evCall P bad fuel f #[] h P.globals.size) = true) :
    Calls P f #[] w fun e w' => e = .returned (.bool true) ∧ Below w.heap.size w w' := by
  unfold yieldsTrue at hr
  split at hr
  · rename_i o ho
    obtain ⟨v, h1, n1, L⟩ := o
    simp only at hr
    split at hr
    · rename_i b hb
      subst hr
      refine (call_sim hnm hok hmix hkn fuel f #[] h P.globals.size _ h1 n1 L m w #[] ho x.wr (Nat.le_refl w.heap.size) .nil (fun b h1 _ => x.fresh b h1) x.gl).mono ?_
      rintro e w' ⟨m', v', rfl, hp, hv⟩
      refine ⟨?_, hp.below⟩
      cases hv
      rfl
    · cases hr
  · cases hr
theorem laid_call {P : Program} (hnm : okNames P = true) (hok : okProg P KN = true) (hmix : P.follows .mixedOrders = true) (hkn : Known P KN) (hd : okDsts P = true) {w : World} {m : Mp} {h : H} {n : Nat} (x : Laid P w m h n) {gt : Nat → Hint} {lf d : Nat} {f : FuncId} {args args' : Array Value} (ha : VRs m args.toList args'.toList)
    (r : Run (fun _ => False) n (evCall2 P gt lf d f args) h n fun v _ _ => v = .bool true) : Calls P f args' w fun e w' => e = .returned (.bool true) ∧ Below w.heap.size w w' := by
  obtain ⟨v, h1, n1, L, e1, hn, _, rfl⟩ := r
  obtain ⟨f0, hf0⟩ := call2_ok hd d f args h n _ h1 n1 L e1
  refine (call_sim hnm hok hmix hkn f0 f args h n _ h1 n1 L m w args' (hf0 f0 (Nat.le_refl _)) x.wr (Nat.le_refl _) ha (fun b hb _ => x.fresh b hb) x.gl).mono ?_
  rintro e w' ⟨m', v', rfl, hp, hv⟩
  refine ⟨?_, hp.below⟩
  cases hv
  rfl
end Go.Proofs.YtmjolmggelkjlaaGreat.Ev
/- Elements of three cells: reading one, a variable of one, rows of one's own that grow. No program in sight. -/
namespace Go.Proofs.YtmjolmggelkjlaaGreat.Ev
set_option linter.unusedVariables false
set_option linter.unusedSimpArgs false
open Go

abbrev V3 := Value × Value × Value
def flat3 : List V3 → List Value
  | [] => []
  | t :: l => t.1 :: t.2.1 :: t.2.2 :: flat3 l
section
variable {β : Type} {W : Nat → Prop} {n0 : Nat} {h : H} {n : Nat} {Q : β → H → Nat → Prop} {e : TypeId}
theorem run_klg {sz : Nat} (b off : Nat) (k : Value → M β) {B : AB} (hg : h.get b = some B) (hb : b < n) (hl : off + sz ≤ B.cells.length) (x : Run W n0 (k (.agg ((B.cells.drop off).take sz).toArray)) h n Q) : Run W n0 (klg sz (.pointer (some ⟨b, off, none⟩)) k) h n Q := by
  obtain ⟨L, e1, e2⟩ := rdN_run hg hb sz off hl
  refine run_ins ?_
  have e : ((rdN3 b off sz).bind fun vs => M.ret (Value.agg ⟨vs⟩)) h n = some ⟨.agg ((B.cells.drop off).take sz).toArray, h, n, L ++ []⟩ := by
    rw [rdN3_eq]
    exact bind_run e1 rfl
  obtain ⟨L', e3, e4⟩ := inside_ro (W := W) (n0 := n0) e (by simpa using e2)
  exact Run.step e3 (Nat.le_refl _) e4 x
theorem wrN_run : ∀ (vs : List Value) (b off : Nat) (e : TypeId) (cs : List Value) (h : H) (n : Nat), h.get b = some ⟨e, true, cs⟩ → b < n → off + vs.length ≤ cs.length → vs.all one = true →
    ∃ h' L, wrN b off vs h n = some ⟨(), h', n, L⟩ ∧ h'.get b = some ⟨e, true, cs.take off ++ vs ++ cs.drop (off + vs.length)⟩ ∧ (∀ c, c ≠ b → h'.get c = h.get c) ∧ ∀ x ∈ L, x.b = b
  | [], b, off, e, cs, h, n, hg, hb, hl, _ => ⟨h, [], rfl, by simpa using hg, fun _ _ => rfl, by simp⟩
  | v :: vs, b, off, e, cs, h, n, hg, hb, hl, h1 => by
    simp only [List.all_cons, Bool.and_eq_true] at h1
    simp only [List.length_cons] at hl
    have hw : wr b off v h n = some ⟨(), h.set b (some ⟨e, true, cs.set off v⟩), n, [⟨false, b, some off⟩, ⟨true, b, some off⟩]⟩ := by
      unfold wr
      have : off < cs.length := by omega
      simp [hb, hg, this, h1.1]
    obtain ⟨h', L, e1, e2, e3, e4⟩ := wrN_run vs b (off + 1) e (cs.set off v) (h.set b (some ⟨e, true, cs.set off v⟩)) n (get_eq _ _ _) hb (by simp; omega) h1.2
    refine ⟨h', _, bind_run hw e1, ?_, fun c hc => (e3 c hc).trans (get_ne _ _ hc), fun x hx => ?_⟩
    · rw [e2]
      congr 2
      have ha : (cs.set off v).take (off + 1) = cs.take off ++ [v] := by
        rw [List.take_set, List.take_succ_eq_append_getElem (by omega), List.set_append_right _ _ (by simp; omega)]
        simp [Nat.min_eq_left (show off ≤ cs.length by omega)]
      have hd : (cs.set off v).drop (off + 1 + vs.length) = cs.drop (off + (v :: vs).length) := by
        rw [List.drop_set_of_lt (by omega)]
        congr 1
        simp only [List.length_cons]; omega
      rw [ha, hd]
      simp
    · rcases List.mem_append.1 hx with q | q
      · simp at q; rcases q with rfl | rfl <;> rfl
      · exact e4 x q
/-- a value of several cells is stored -/
theorem run_sta {T : Prop} (_ : T) {sz b off : Nat} {e : TypeId} {cs vs : List Value} {v : Value} (hv : v = .agg vs.toArray) (hl : vs.length = sz) (h1 : vs.all one = true) (hg : h.get b = some ⟨e, true, cs⟩) (hb : b < n) (ho : off + sz ≤ cs.length) (hw : n0 ≤ b ∨ W b) (k : Value → M β)
    (x : ∀ h', h'.get b = some ⟨e, true, cs.take off ++ vs ++ cs.drop (off + sz)⟩ → (∀ c, c ≠ b → h'.get c = h.get c) → Run W n0 (k undef) h' n Q) : Run W n0 (ksg sz (.pointer (some ⟨b, off, none⟩)) v k) h n Q := by
  obtain ⟨h', L, e1, e2, e3, e4⟩ := wrN_run vs b off e cs h n hg hb (by omega) h1
  subst hv
  have d : ksg sz (.pointer (some ⟨b, off, none⟩)) (.agg vs.toArray) k = insB ((wrN3 b off vs).bind fun _ => .ret undef) k := by
    show (match Nat.beq (lenV vs) sz with
      | true => insB ((wrN3 b off vs).bind fun _ => .ret undef) k
      | false => .fail) = _
    rw [lenV_eq, hl, Nat.beq_refl]
  rw [d]
  refine run_ins ?_
  have e5 : ((wrN3 b off vs).bind fun _ => M.ret undef) h n = some ⟨undef, h', n, L ++ []⟩ := by
    rw [wrN3_eq]
    exact bind_run e1 rfl
  refine Run.step (inside_run e5) (Nat.le_refl _) (fun y hy hy2 => ?_) (x h' (by rw [e2, hl]) e3)
  have := (List.mem_filter.1 hy).1
  rw [List.append_nil] at this
  rw [e4 y this]
  exact hw
/-- a row of one's own of such elements, that grows -/
def Own3 (h : H) (lo n : Nat) (e : TypeId) (v : Value) (ts : List V3) : Prop := (v = .slice none 0 0 ∧ ts = []) ∨ ∃ b, v = .slice (some ⟨b, 0, none⟩) ts.length (CAP + ts.length) ∧ h.get b = some ⟨e, true, flat3 ts⟩ ∧ lo ≤ b ∧ b < n
theorem Own3.nil (h : H) (lo n : Nat) (e : TypeId) : Own3 h lo n e (.slice none 0 0) [] := .inl ⟨rfl, rfl⟩
theorem Own3.keep {lo : Nat} {v : Value} {ts : List V3} {h' : H} {n' : Nat} (o : Own3 h lo n e v ts) (hn : n ≤ n') (hk : ∀ b, InBlk v b → h'.get b = h.get b) : Own3 h' lo n' e v ts := by
  rcases o with q | ⟨c, rfl, hc, h1, h2⟩
  · exact .inl q
  · exact .inr ⟨c, rfl, (hk c ⟨_, _, _, rfl⟩).trans hc, h1, by omega⟩
theorem Own3.lt {lo : Nat} {v : Value} {ts : List V3} (o : Own3 h lo n e v ts) {b : Nat} (hb : InBlk v b) : lo ≤ b ∧ b < n := by
  rcases o with ⟨rfl, _⟩ | ⟨c, rfl, _, h1, h2⟩
  · exact hb.not_nil.elim
  · rw [hb.inj]; exact ⟨h1, h2⟩
theorem Own3.len {lo : Nat} {v : Value} {ts : List V3} (o : Own3 h lo n e v ts) : ∃ a c, v = .slice a ts.length c := by
  rcases o with ⟨rfl, rfl⟩ | ⟨b, rfl, _⟩
  · exact ⟨none, 0, rfl⟩
  · exact ⟨_, _, rfl⟩
end

end Go.Proofs.YtmjolmggelkjlaaGreat.Ev
/- Arguments of plain data (numbers, texts, truths, slices, structs and arrays of them): how they lie in the world, and how they are laid for the evaluator. No program in sight. -/
namespace Go.Proofs.YtmjolmggelkjlaaGreat.Ev
set_option linter.unusedVariables false
set_option linter.unusedSimpArgs false
open Go Go.RowKit Go.WideShapes Go.ChangeShapes

def All2 {α β : Type} (R : α → β → Prop) : List α → List β → Prop
  | [], [] => True
  | a :: l, b :: m => R a b ∧ All2 R l m
  | _, _ => False
theorem All2.length {α β : Type} {R : α → β → Prop} : ∀ {l : List α} {m : List β}, All2 R l m → l.length = m.length
  | [], [], _ => rfl
  | _ :: _, _ :: _, h => by simp [All2.length h.2]
  | [], _ :: _, h => h.elim
  | _ :: _, [], h => h.elim
theorem All2.imp {α β : Type} {R S : α → β → Prop} : ∀ {l : List α} {m : List β}, (∀ a ∈ l, ∀ b, R a b → S a b) → All2 R l m → All2 S l m
  | [], [], _, _ => trivial
  | a :: _, _ :: _, h, x => ⟨h a (List.mem_cons_self ..) _ x.1, All2.imp (fun a ha => h a (List.mem_cons_of_mem _ ha)) x.2⟩
  | [], _ :: _, _, x => x.elim
  | _ :: _, [], _, x => x.elim
theorem All2.append {α β : Type} {R : α → β → Prop} : ∀ {l l' : List α} {m m' : List β}, All2 R l m → All2 R l' m' → All2 R (l ++ l') (m ++ m')
  | [], _, [], _, _, h => h
  | _ :: _, _, _ :: _, _, x, h => ⟨x.1, All2.append x.2 h⟩
  | [], _, _ :: _, _, x, _ => x.elim
  | _ :: _, _, [], _, x, _ => x.elim

/-- the types of a type's cells, one by one -/
def fieldTs (g : TypeId → Option (List TypeId)) : Nat → List Field → Option (List TypeId)
  | _, [] => some []
  | o, fd :: r => if fd.offset = o then (match g fd.type with
    | some ts => match fieldTs g (o + ts.length) r with
      | some rs => some (ts ++ rs)
      | none => none
    | none => none) else none
def cellTs (P : Program) : Nat → TypeId → Option (List TypeId)
  | 0, _ => none
  | f + 1, t => match P.underlying t with
    | some (.int _) | some .string | some .bool | some (.slice _) => if P.cellsOf t = 1 then some [t] else none
    | some (.struct fs) => match fieldTs (cellTs P f) 0 fs.toList with
      | some ts => if ts.length = P.cellsOf t then some ts else none
      | none => none
    | some (.array n e) => match cellTs P f e with
      | some ts => if n * ts.length = P.cellsOf t ∧ ts.length = P.cellsOf e then some (List.replicate n ts).flatten else none
      | none => none
    | _ => none
theorem fieldTs_some {g : TypeId → Option (List TypeId)} {o : Nat} {fd : Field} {r : List Field} {ts : List TypeId} (h : fieldTs g o (fd :: r) = some ts) : fd.offset = o ∧ ∃ a b, g fd.type = some a ∧ fieldTs g (o + a.length) r = some b ∧ ts = a ++ b := by
  unfold fieldTs at h
  split at h
  · rename_i h0
    split at h
    · rename_i a ha
      split at h
      · rename_i b hb
        cases h
        exact ⟨h0, a, b, ha, hb, rfl⟩
      · cases h
    · cases h
  · cases h
/-- how a value of one cell lies in the world -/
def Rep1 (P : Program) (w : World) : Nat → TypeId → Value → Prop
  | 0, _, _ => False
  | f + 1, t, v => match P.underlying t with
    | some (.int k) => ∃ n, v = .int k n ∧ (Lit.int k n).wf = true
    | some .string => ∃ s : ByteArray, v = .string s ∧ s.size ≤ maxLen
    | some .bool => ∃ b, v = .bool b
    | some (.slice e) => v = .slice none 0 0 ∨ ∃ a len cap ts, v = .slice (some a) len cap ∧ len ≤ cap ∧ cap ≤ maxLen ∧ cellTs P 8 e = some ts ∧ 0 < ts.length ∧ size? P e = some ts.length ∧
        ∀ i, i < cap → ∃ es : List Value, (∀ j u, es[j]? = some u → w.cell? (a.add (i * ts.length + j)) = some u) ∧ All2 (Rep1 P w f) ts es
    | _ => False
/-- types that are served -/
def okT (P : Program) : Nat → TypeId → Bool
  | 0, _ => false
  | f + 1, t => match P.underlying t with
    | some (.int _) | some .string | some .bool => true
    | some (.slice e) => match cellTs P 8 e with
      | some ts => decide (0 < ts.length) && decide (size? P e = some ts.length) && ts.all (okT P f)
      | none => false
    | _ => false
theorem cells?_get {w : World} {b : Nat} {a : Addr} {n : Nat} {es : List Value} (h : w.cells? b a n = some es) : es.length = n ∧ ∀ j u, es[j]? = some u → w.cell? (a.add j) = some u := by
  unfold World.cells? at h
  split at h
  · have hl := mapM_some_length h
    simp only [List.length_range] at hl
    refine ⟨hl, fun j u hj => ?_⟩
    have hjl := (List.getElem?_eq_some_iff.1 hj).1
    have := mapM_some_get h j j (by rw [List.getElem?_range (by omega)])
    rw [this]; exact hj
  · cases h
theorem add_add (a : Addr) (i j : Nat) : (a.add i).add j = a.add (i + j) := by
  unfold Addr.add
  by_cases hj : j = 0
  · subst hj; simp
  · by_cases hi : i = 0
    · subst hi; simp
    · have : ¬ (i + j = 0) := by omega
      simp only [hi, hj, this, if_false]
      congr 1
      omega
section
variable {H0 : Type} {enc : TypeId × Value → H0} {P : Program} {w : World} {held : Bool}
theorem fieldTs_cells {g : TypeId → Option (List TypeId)} {R : TypeId → Value → Prop} {cs : List Value} : ∀ (fs : List Field) (o : Nat) (ts : List TypeId), fieldTs g o fs = some ts → cs.length = o + ts.length →
    (∀ fd ∈ fs, ∀ a, g fd.type = some a → a.length = P.cellsOf fd.type ∧ All2 R a ((cs.drop fd.offset).take (P.cellsOf fd.type))) → All2 R ts (cs.drop o)
  | [], o, ts, h, hl, _ => by
    cases h
    rw [List.drop_eq_nil_of_le (by simp at hl; omega)]
    trivial
  | fd :: r, o, ts, h, hl, hf => by
    obtain ⟨h0, a, b, ha, hb, rfl⟩ := fieldTs_some h
    obtain ⟨hal, h2⟩ := hf fd (List.mem_cons_self ..) a ha
    have := fieldTs_cells r (o + a.length) b hb (by simp at hl; omega) fun fd hfd => hf fd (List.mem_cons_of_mem _ hfd)
    rw [h0, ← hal] at h2
    have e : cs.drop o = (cs.drop o).take a.length ++ cs.drop (o + a.length) := by rw [← List.drop_drop, List.take_append_drop]
    rw [e]
    exact h2.append this
theorem rep_cells {R : TypeId → Value → Prop} : ∀ (f : Nat) (t : TypeId) (cs : List Value) (ts : List TypeId) (m : Nat) (x : DataW H0 × List MemPlace), cellTs P f t = some ts →
    (∀ t' ∈ ts, ∀ v m x, DataW.trod enc P w 0 (fun _ => true) held m t' [v] = some x → R t' v) → DataW.trod enc P w 0 (fun _ => true) held m t cs = some x → ts.length = P.cellsOf t ∧ All2 R ts cs := by
  intro f
  induction f with
  | zero => intro t cs ts m x h; cases h
  | succ f ih =>
    intro t cs ts m x h hR hx
    unfold cellTs at h
    have one : ∀ v, cs = [v] → (if P.cellsOf t = 1 then some [t] else none) = some ts → ts.length = P.cellsOf t ∧ All2 R ts cs := by
      intro v hv hq
      subst hv
      by_cases hc : P.cellsOf t = 1
      · rw [if_pos hc] at hq
        cases hq
        exact ⟨hc.symm, hR t (List.mem_cons_self ..) v m x hx, trivial⟩
      · rw [if_neg hc] at hq; cases hq
    split at h
    · rename_i k hk
      obtain ⟨n, rfl, _⟩ := DataW.trod_int hk hx
      exact one _ rfl h
    · rename_i hk
      obtain ⟨n, rfl, _⟩ := DataW.trod_string hk hx
      exact one _ rfl h
    · rename_i hk
      obtain ⟨n, rfl, _⟩ := DataW.trod_bool hk hx
      exact one _ rfl h
    · rename_i e hk
      rcases DataW.trod_slice hk hx with ⟨rfl, _⟩ | ⟨a, len, cap, elems, rest, n, _, rfl, _⟩
      · exact one _ rfl h
      · exact one _ rfl h
    · rename_i fs hk
      split at h
      · rename_i ts' hts
        split at h
        · rename_i hlen
          cases h
          obtain ⟨xs, n, rfl, _, hcl, _, hall⟩ := DataW.trod_struct hk hx
          refine ⟨hlen, ?_⟩
          have := fieldTs_cells (P := P) (R := R) (cs := cs) fs.toList 0 ts hts (by omega) fun fd hfd a ha => ?_
          · simpa using this
          · obtain ⟨i, hi⟩ := List.mem_iff_getElem?.1 hfd
            have hi' : fs[i]? = some fd := by simpa using hi
            have hx2 := hall i fd hi'
            cases hxi : xs[i]? with
            | none => exact absurd hx2 (by
                rw [hxi]
                have := (Array.getElem?_eq_some_iff.1 hi').1
                have h3 : xs[i]? = none := hxi
                rw [List.getElem?_eq_none_iff] at h3
                omega)
            | some y =>
              rw [hxi] at hx2
              exact ih fd.type _ a n y ha (fun t' ht' => hR t' (by
                have : ∀ (l : List Field) (o : Nat) (ts : List TypeId), fieldTs (cellTs P f) o l = some ts → fd ∈ l → ∀ q ∈ a, q ∈ ts := by
                  intro l
                  induction l with
                  | nil => intro o ts _ hm; simp at hm
                  | cons g r ih2 =>
                    intro o ts hh hm q hq
                    obtain ⟨_, a2, b2, e1, e2, rfl⟩ := fieldTs_some hh
                    rcases List.mem_cons.1 hm with rfl | hm
                    · rw [ha] at e1; cases e1
                      exact List.mem_append.2 (.inl hq)
                    · exact List.mem_append.2 (.inr (ih2 _ _ e2 hm q hq))
                exact this fs.toList 0 ts hts hfd t' ht')) hx2
        · cases h
      · cases h
    · rename_i n e hk
      split at h
      · rename_i ts' hts
        split at h
        · rename_i hlen
          obtain ⟨hlen, hle⟩ := hlen
          obtain ⟨xs, m', rfl, _, hcl, hxn, hall⟩ := DataW.trod_array hk hx
          have hR' : n = 0 ∨ ∀ t' ∈ ts', t' ∈ ts := by
            rcases Nat.eq_zero_or_pos n with q | q
            · exact .inl q
            · refine .inr fun t' ht' => ?_
              cases h
              rw [List.mem_flatten]
              exact ⟨ts', List.mem_replicate.2 ⟨by omega, rfl⟩, ht'⟩
          have key : ∀ k, k ≤ n → All2 R (List.replicate k ts').flatten (cs.take (k * ts'.length)) := by
            intro k
            induction k with
            | zero => intro _; simp [All2]
            | succ k ihk =>
              intro hkn
              have h1 := ihk (by omega)
              have hx2 := hall k (by omega)
              cases hxi : xs[k]? with
              | none => rw [List.getElem?_eq_none_iff] at hxi; omega
              | some y =>
                rw [hxi] at hx2
                obtain ⟨h3, h4⟩ := ih e _ ts' m' y hts (fun t' ht' => hR t' (by
                  rcases hR' with q | q
                  · omega
                  · exact q t' ht')) hx2
                rw [← h3] at h4
                rw [List.replicate_succ', List.flatten_append, List.flatten_singleton]
                have e1 : cs.take ((k + 1) * ts'.length) = cs.take (k * ts'.length) ++ (cs.drop (k * ts'.length)).take ts'.length := by
                  rw [Nat.succ_mul, List.take_add]
                rw [e1]
                exact h1.append h4
          cases h
          refine ⟨?_, ?_⟩
          · rw [← hlen]; simp
          · have := key n (Nat.le_refl n)
            rwa [List.take_of_length_le (by omega)] at this
        · cases h
      · cases h
    · cases h
theorem rep1_of {f : Nat} : ∀ (t : TypeId) (v : Value) (m : Nat) (x : DataW H0 × List MemPlace), okT P f t = true → DataW.trod enc P w 0 (fun _ => true) held m t [v] = some x → Rep1 P w f t v := by
  induction f with
  | zero => intro t v m x h; cases h
  | succ f ih =>
    intro t v m x h hx
    unfold okT at h
    unfold Rep1
    split at h
    · rename_i k hk
      obtain ⟨n, e, _, hw⟩ := DataW.trod_int hk hx
      simp at e
      exact ⟨n, e, hw⟩
    · rename_i hk
      obtain ⟨s, e, _, hw⟩ := DataW.trod_string hk hx
      simp at e
      exact ⟨s, e, hw⟩
    · rename_i hk
      obtain ⟨b, e, _⟩ := DataW.trod_bool hk hx
      simp at e
      exact ⟨b, e⟩
    · rename_i e hk
      split at h
      · rename_i ts hts
        simp only [Bool.and_eq_true, decide_eq_true_eq, List.all_eq_true] at h
        obtain ⟨⟨h0, h1⟩, h2⟩ := h
        have hc : P.cellsOf e = ts.length := by
          unfold size? at h1
          unfold Program.cellsOf
          rw [h1]; rfl
        rcases DataW.trod_slice hk hx with ⟨hv, _⟩ | ⟨a, len, cap, elems, rest, n, _, hv, _, _, hl, hm, hlen, hel, hsp, _⟩
        · simp at hv
          exact .inl hv
        · simp at hv
          obtain ⟨hr, hrest⟩ := hsp rfl
          refine .inr ⟨a, len, cap, ts, hv, hl, hm, hts, h0, h1, fun i hi => ?_⟩
          have get : ∃ y, (w.cells? 0 (a.add (i * P.cellsOf e)) (P.cellsOf e)).bind (DataW.trod enc P w 0 (fun _ => true) held n e) = some y := by
            by_cases hil : i < len
            · rw [hel i hil]
              exact ⟨_, List.getElem?_eq_getElem (by omega)⟩
            · have := hrest (i - len) (by omega)
              rw [show len + (i - len) = i by omega] at this
              rw [this]
              exact ⟨_, List.getElem?_eq_getElem (by omega)⟩
          obtain ⟨y, hy⟩ := get
          rw [Option.bind_eq_some_iff] at hy
          obtain ⟨es, hes, hy⟩ := hy
          obtain ⟨_, hcell⟩ := cells?_get hes
          refine ⟨es, fun j u hj => ?_, (rep_cells 8 e es ts n y hts (fun t' ht' v m x hx => ih t' v m x (h2 t' ht') hx) hy).2⟩
          have := hcell j u hj
          rwa [add_add, hc] at this
      · cases h
    · cases h
end

def RepH1 (P : Program) (h : H) (n : Nat) : Nat → TypeId → Value → Prop
  | 0, _, _ => False
  | f + 1, t, v => match P.underlying t with
    | some (.int k) => ∃ n, v = .int k n ∧ (Lit.int k n).wf = true
    | some .string => ∃ s : ByteArray, v = .string s ∧ s.size ≤ maxLen
    | some .bool => ∃ b, v = .bool b
    | some (.slice e) => (∃ a, v = .slice a 0 0 ∧ ∀ b o, a ≠ some ⟨b, o, none⟩) ∨ ∃ b len ts cs, v = .slice (some ⟨b, 0, none⟩) len (CAP + len) ∧ cellTs P 8 e = some ts ∧ 0 < ts.length ∧ h.get b = some ⟨e, false, cs⟩ ∧ b < n ∧ cs.length = len * ts.length ∧ len ≤ maxLen ∧
        ∀ i, i < len → All2 (RepH1 P h n f) ts ((cs.drop (i * ts.length)).take ts.length)
    | _ => False
theorem RepH1.keep {P : Program} {h h' : H} {n n' : Nat} (hn : n ≤ n') (hk : ∀ b, b < n → h'.get b = h.get b) : ∀ {f : Nat} {t : TypeId} {v : Value}, RepH1 P h n f t v → RepH1 P h' n' f t v := by
  intro f
  induction f with
  | zero => intro t v x; exact x
  | succ f ih =>
    intro t v x
    unfold RepH1 at x ⊢
    split at x
    · exact x
    · exact x
    · exact x
    · rcases x with q | ⟨b, len, ts, cs, hv, ht, h0, hg, hb, hl, hm, hall⟩
      · exact .inl q
      · exact .inr ⟨b, len, ts, cs, hv, ht, h0, (hk b hb).trans hg, by omega, hl, hm, fun i hi => (hall i hi).imp fun _ _ _ q => ih q⟩
    · exact x
/-- a block that is read, of cells that the world holds -/
theorem laid_block {P : Program} {w : World} {m : Mp} {h : H} {n : Nat} (x : Laid P w m h n) {b off len cap : Nat} {cs : Array Value} {e' : TypeId} {fr : Nat × Nat} (hg : w.heap[b]? = some (.cells cs e' fr)) {e : TypeId} {sz : Nat} (he : size? P e = some sz) {vs vs' : List Value} (hv : VRs m vs vs')
    (hat : ∀ i v, vs'[i]? = some v → cs[off + i]? = some v) (hlen : vs.length = len * sz) (hl : len ≤ cap) (hc : off + cap * sz ≤ cs.size) :
    ∃ m', Laid P w m' (h.set n (some ⟨e, false, vs⟩)) (n + 1) ∧ VR m' (.slice (some ⟨n, 0, none⟩) len (CAP + len)) (.slice (some ⟨b, off, none⟩) len cap) ∧ Le m m' := by
  let m' : Mp := fun c => if c = n then some ⟨b, off, cs.size, sz, e'⟩ else m c
  have hle : Le m m' := fun c d hd => by
    by_cases ec : c = n
    · subst ec; rw [x.fresh c (Nat.le_refl c)] at hd; cases hd
    · show (if c = n then _ else _) = _; rw [if_neg ec]; exact hd
  let h' : H := h.set n (some ⟨e, false, vs⟩)
  have hn : m' n = some ⟨b, off, cs.size, sz, e'⟩ := if_pos rfl
  have hgn : h'.get n = some ⟨e, false, vs⟩ := get_eq _ _ _
  have hmul : len * sz ≤ cap * sz := Nat.mul_le_mul_right _ hl
  have hown : ∀ c C, h'.get c = some C → C.own = false := fun c C hcC => by
    by_cases ec : c = n
    · subst ec; rw [hgn] at hcC; cases hcC; rfl
    · rw [get_ne _ _ ec] at hcC; exact x.own c C hcC
  refine ⟨m', ⟨⟨?_, ?_⟩, x.gl.mono hle, fun c hc => ?_, hown, by have := x.glo; omega⟩, .slc hn (fun _ => rfl) (fun q => by unfold CAP at q; omega) (fun _ => ⟨Nat.le_refl _, by omega⟩) hl hc, hle⟩
  · intro c C hcC
    by_cases ec : c = n
    · subst ec
      rw [hgn] at hcC
      cases hcC
      refine ⟨_, cs, fr.1, fr.2, hn, hg, rfl, by show off + vs.length ≤ cs.size; omega, he, fun q => (by cases q), fun k u hu => ?_⟩
      obtain ⟨u', hu', hr⟩ := hv.get k u hu
      exact ⟨u', hat k u' hu', hr.mono hle⟩
    · rw [get_ne _ _ ec] at hcC
      obtain ⟨d, cs2, lo, hi, hm, hg2, h1, h2, h3, h4, h5⟩ := x.wr.live c C hcC
      refine ⟨d, cs2, lo, hi, hle _ _ hm, hg2, h1, h2, h3, h4, fun k u hu => ?_⟩
      obtain ⟨u', hu', hr⟩ := h5 k u hu
      exact ⟨u', hu', hr.mono hle⟩
  · intro c c' C C' d d' hcC hcC' ho
    rw [hown c C hcC, hown c' C' hcC'] at ho
    simp at ho
  · show (if c = n then _ else _) = none
    rw [if_neg (by omega)]
    exact x.fresh c (by omega)
def LayOk (P : Program) (w : World) (R : TypeId → Value → Prop) (S : H → Nat → TypeId → Value → Prop) : Prop := ∀ t v, R t v → ∀ m h n, Laid P w m h n → ∃ m' h' n' v0, Laid P w m' h' n' ∧ VR m' v0 v ∧ S h' n' t v0 ∧ Le m m' ∧ n ≤ n' ∧ ∀ b, b < n → h'.get b = h.get b
theorem VRs.mono' {m m' : Mp} (hl : Le m m') {l l' : List Value} (h : VRs m l l') : VRs m' l l' := VRs.mono hl h
theorem lay_list {P : Program} {w : World} {R : TypeId → Value → Prop} {S : H → Nat → TypeId → Value → Prop} (hk : ∀ (h h' : H) (n n' : Nat), n ≤ n' → (∀ b, b < n → h'.get b = h.get b) → ∀ t v, S h n t v → S h' n' t v) (ok : LayOk P w R S) :
    ∀ (ts : List TypeId) (vs : List Value), All2 R ts vs → ∀ m h n, Laid P w m h n → ∃ m' h' n' vs0, Laid P w m' h' n' ∧ VRs m' vs0 vs ∧ All2 (S h' n') ts vs0 ∧ Le m m' ∧ n ≤ n' ∧ ∀ b, b < n → h'.get b = h.get b
  | [], [], _, m, h, n, x => ⟨m, h, n, [], x, .nil, trivial, Le.refl _, Nat.le_refl _, fun _ _ => rfl⟩
  | t :: ts, v :: vs, hr, m, h, n, x => by
    obtain ⟨m1, h1, n1, v0, x1, hv, hs, l1, g1, k1⟩ := ok t v hr.1 m h n x
    obtain ⟨m2, h2, n2, vs0, x2, hvs, hss, l2, g2, k2⟩ := lay_list hk ok ts vs hr.2 m1 h1 n1 x1
    exact ⟨m2, h2, n2, v0 :: vs0, x2, .cons (hv.mono l2) hvs, ⟨hk _ _ _ _ g2 k2 _ _ hs, hss⟩, l1.trans l2, by omega, fun b hb => (k2 b (by omega)).trans (k1 b hb)⟩
  | [], _ :: _, hr, _, _, _, _ => hr.elim
  | _ :: _, [], hr, _, _, _, _ => hr.elim
theorem drop_take_append {α : Type} {l r : List α} {k c : Nat} (h : k + c ≤ l.length) : ((l ++ r).drop k).take c = (l.drop k).take c := by
  rw [List.drop_append_of_le_length (by omega), List.take_append_of_le_length (by simp; omega)]
theorem lay_elems {P : Program} {w : World} {R : TypeId → Value → Prop} {S : H → Nat → TypeId → Value → Prop} (hk : ∀ (h h' : H) (n n' : Nat), n ≤ n' → (∀ b, b < n → h'.get b = h.get b) → ∀ t v, S h n t v → S h' n' t v) (ok : LayOk P w R S) {ts : List TypeId} {a : Addr} :
    ∀ (len : Nat), (∀ i, i < len → ∃ es : List Value, (∀ j u, es[j]? = some u → w.cell? (a.add (i * ts.length + j)) = some u) ∧ All2 R ts es) → ∀ m h n, Laid P w m h n →
      ∃ m' h' n' vs0 vs, Laid P w m' h' n' ∧ VRs m' vs0 vs ∧ vs.length = len * ts.length ∧ (∀ i u, vs[i]? = some u → w.cell? (a.add i) = some u) ∧ (∀ i, i < len → All2 (S h' n') ts ((vs0.drop (i * ts.length)).take ts.length)) ∧ Le m m' ∧ n ≤ n' ∧ ∀ b, b < n → h'.get b = h.get b := by
  intro len
  induction len with
  | zero => intro _ m h n x; exact ⟨m, h, n, [], [], x, .nil, by simp, fun i u hu => by simp at hu, fun i hi => by omega, Le.refl _, Nat.le_refl _, fun _ _ => rfl⟩
  | succ len ih =>
    intro hel m h n x
    obtain ⟨m1, h1, n1, vs0, vs, x1, hv, hl, hc, hs, l1, g1, k1⟩ := ih (fun i hi => hel i (by omega)) m h n x
    obtain ⟨es, he1, he2⟩ := hel len (by omega)
    obtain ⟨m2, h2, n2, es0, x2, hv2, hs2, l2, g2, k2⟩ := lay_list hk ok ts es he2 m1 h1 n1 x1
    have hl0 : vs0.length = len * ts.length := by rw [hv.length, hl]
    have hel0 : es0.length = ts.length := hs2.length.symm
    have hel1 : es.length = ts.length := he2.length.symm
    refine ⟨m2, h2, n2, vs0 ++ es0, vs ++ es, x2, (hv.mono' l2).append hv2, by rw [List.length_append, hl, hel1, Nat.succ_mul], fun i u hu => ?_, fun i hi => ?_, l1.trans l2, by omega, fun b hb => (k2 b (by omega)).trans (k1 b hb)⟩
    · by_cases hi : i < vs.length
      · rw [List.getElem?_append_left hi] at hu
        exact hc i u hu
      · rw [List.getElem?_append_right (by omega)] at hu
        have := he1 _ u hu
        rwa [show len * ts.length + (i - vs.length) = i by omega] at this
    · by_cases hil : i < len
      · have hle : i * ts.length + ts.length ≤ vs0.length := by
          rw [hl0, ← Nat.succ_mul]; exact Nat.mul_le_mul_right _ hil
        rw [drop_take_append hle]
        exact (hs i hil).imp fun _ _ _ q => hk _ _ _ _ g2 k2 _ _ q
      · obtain rfl : i = len := by omega
        rw [← hl0, List.drop_left, ← hel0, List.take_length]
        exact hs2
theorem lay1 {P : Program} {w : World} : ∀ (f : Nat), LayOk P w (Rep1 P w f) (fun h n => RepH1 P h n f) := by
  intro f
  induction f with
  | zero => intro t v hr; exact hr.elim
  | succ f ih =>
    intro t v hr m h n x
    unfold Rep1 at hr
    have same : ∀ v0, VR m v0 v → RepH1 P h n (f + 1) t v0 → ∃ m' h' n' v0, Laid P w m' h' n' ∧ VR m' v0 v ∧ RepH1 P h' n' (f + 1) t v0 ∧ Le m m' ∧ n ≤ n' ∧ ∀ b, b < n → h'.get b = h.get b :=
      fun v0 h1 h2 => ⟨m, h, n, v0, x, h1, h2, Le.refl _, Nat.le_refl _, fun _ _ => rfl⟩
    split at hr
    · rename_i k hk
      obtain ⟨z, rfl, hw⟩ := hr
      exact same _ (.int k z) (by unfold RepH1; rw [hk]; exact ⟨z, rfl, hw⟩)
    · rename_i hk
      obtain ⟨z, rfl, hw⟩ := hr
      exact same _ (.string z) (by unfold RepH1; rw [hk]; exact ⟨z, rfl, hw⟩)
    · rename_i hk
      obtain ⟨z, rfl⟩ := hr
      exact same _ (.bool z) (by unfold RepH1; rw [hk]; exact ⟨z, rfl⟩)
    · rename_i e hk
      rcases hr with rfl | ⟨a, len, cap, ts, rfl, hl, hm, hts, h0, hsz, hel⟩
      · exact same _ (.snil 0 0 ⟨Nat.le_refl _, by unfold CAP; omega⟩) (by unfold RepH1; rw [hk]; exact .inl ⟨none, rfl, fun _ _ => by simp⟩)
      · by_cases hc0 : cap = 0
        · obtain rfl : len = 0 := by omega
          subst hc0
          exact same (.slice (some ⟨0, 0, some 0⟩) 0 0) (.semp 0 0 0 a) (by unfold RepH1; rw [hk]; exact .inl ⟨_, rfl, fun b o q => by simp at q⟩)
        · have first : ∃ b off, a = ⟨b, off, none⟩ ∧ ∃ cs e' fr, w.heap[b]? = some (.cells cs e' fr) ∧ off + cap * ts.length ≤ cs.size := by
            obtain ⟨es, he1, he2⟩ := hel (cap - 1) (by omega)
            obtain ⟨es', he1', he2'⟩ := hel 0 (by omega)
            have hl1 := he2.length
            have hl2 := he2'.length
            have c0 := he1' 0 es'[0] (by simp)
            obtain ⟨b, off, spot⟩ := a
            have hspot : spot = none := by simpa [Addr.add] using World.cell?_spot c0
            subst hspot
            obtain ⟨cs, e', fr, hg, _⟩ := cell_some (by rw [add0] at c0; exact c0)
            refine ⟨b, off, rfl, cs, e', fr, hg, ?_⟩
            have cl := he1 (ts.length - 1) es[ts.length - 1] (List.getElem?_eq_getElem (by omega))
            rw [add0, cell_eq w _ _ hg] at cl
            have hlt := (Array.getElem?_eq_some_iff.1 cl).1
            have hmul : (cap - 1) * ts.length + ts.length = cap * ts.length := by
              rw [← Nat.succ_mul]; congr 1; omega
            omega
          obtain ⟨b, off, rfl, cs, e', fr, hg, hfit⟩ := first
          obtain ⟨m1, h1, n1, vs0, vs, x1, hv, hvl, hcell, hs, l1, g1, k1⟩ := lay_elems (S := fun h n => RepH1 P h n f) (fun _ _ _ _ hn hk _ _ q => RepH1.keep hn hk q) ih len (fun i hi => hel i (by omega)) m h n x
          obtain ⟨m2, x2, hv2, l2⟩ := laid_block (len := len) (cap := cap) (off := off) x1 hg hsz hv (fun i u hu => by
            have := hcell i u hu
            rwa [add0, cell_eq w _ _ hg] at this) (by rw [hv.length, hvl]) hl hfit
          have kk : ∀ c, c < n1 → (h1.set n1 (some ⟨e, false, vs0⟩)).get c = h1.get c := fun c hc => get_ne _ _ (by omega)
          refine ⟨m2, _, n1 + 1, _, x2, hv2, ?_, l1.trans l2, by omega, fun c hc => (kk c (by omega)).trans (k1 c hc)⟩
          show RepH1 P _ (n1 + 1) (f + 1) t _
          unfold RepH1
          rw [hk]
          refine .inr ⟨n1, len, ts, vs0, rfl, hts, h0, get_eq _ _ _, Nat.lt_succ_self n1, by rw [hv.length, hvl], by omega, fun i hi => (hs i hi).imp fun _ _ _ q => RepH1.keep (Nat.le_succ n1) kk q⟩
    · exact hr.elim

def isAggT (P : Program) (t : TypeId) : Bool := match P.underlying t with
  | some (.struct _) | some (.array _ _) => true
  | _ => false
/-- an argument -/
def ArgR (P : Program) (w : World) (t : TypeId) (v : Value) : Prop := ∃ ts, cellTs P 8 t = some ts ∧ All2 (Rep1 P w 8) ts v.cells.toList ∧ (isAggT P t = true → ∃ cs, v = .agg cs) ∧ (isAggT P t = false → v.cells = #[v])
def ArgH (P : Program) (h : H) (n : Nat) (t : TypeId) (v : Value) : Prop := ∃ ts, cellTs P 8 t = some ts ∧ ((isAggT P t = true ∧ ∃ cs, v = .agg cs ∧ All2 (RepH1 P h n 8) ts cs.toList) ∨ (isAggT P t = false ∧ All2 (RepH1 P h n 8) ts [v]))
def okA (P : Program) (t : TypeId) : Bool := match cellTs P 8 t with
  | some ts => ts.all (okT P 8)
  | none => false
theorem argR_of {H0 : Type} {enc : TypeId × Value → H0} {P : Program} {w : World} {held : Bool} {r : Reach} {b0 : Nat} {t : TypeId} {v : Value} {d : DataW H0} {p : List MemPlace} (ho : okA P t = true) (hv : Value.okWide P w r b0 t v) (h : DataW.Trod enc P w 0 (fun _ => true) held t v d p) : ArgR P w t v := by
  unfold okA at ho
  split at ho
  · rename_i ts hts
    rw [List.all_eq_true] at ho
    obtain ⟨m, hm⟩ := h
    have hc := rep_cells (R := Rep1 P w 8) 8 t v.cells.toList ts m _ hts (fun t' ht' u m x hx => rep1_of t' u m x (ho t' ht') hx) hm
    refine ⟨ts, hts, hc.2, fun ha => ?_, fun ha => ?_⟩
    · unfold isAggT at ha
      split at ha
      · rename_i fs hk
        obtain ⟨cs, e, _⟩ := okWide_struct hk hv
        exact ⟨cs, e⟩
      · rename_i q e hk
        simp only [Value.okWide, hk] at hv
        obtain ⟨cs, e, _⟩ := hv
        exact ⟨cs, e⟩
      · cases ha
    · have hcell : P.cellsOf t = 1 ∨ True := .inr trivial
      unfold cellTs at hts
      unfold isAggT at ha
      split at hts
      · rename_i k hk
        obtain ⟨n, e⟩ := okWide_int hk hv
        rw [e]; rfl
      · rename_i hk
        obtain ⟨n, e⟩ := okWide_string hk hv
        rw [e]; rfl
      · rename_i hk
        obtain ⟨n, e⟩ := okWide_bool hk hv
        rw [e]; rfl
      · rename_i e hk
        obtain ⟨a, l, c, e⟩ := okWide_slice hk hv
        rw [e]; rfl
      · rename_i fs hk
        rw [hk] at ha
        cases ha
      · rename_i q e hk
        rw [hk] at ha
        cases ha
      · cases hts
  · cases ho
theorem lay_arg {P : Program} {w : World} : LayOk P w (ArgR P w) (ArgH P) := by
  intro t v hr m h n x
  obtain ⟨ts, hts, hall, ha, hb⟩ := hr
  obtain ⟨m1, h1, n1, vs0, x1, hv, hs, l1, g1, k1⟩ := lay_list (S := fun h n => RepH1 P h n 8) (fun _ _ _ _ hn hk _ _ q => RepH1.keep hn hk q) (lay1 8) ts _ hall m h n x
  cases hg : isAggT P t with
  | true =>
    obtain ⟨cs, rfl⟩ := ha hg
    exact ⟨m1, h1, n1, .agg vs0.toArray, x1, .agg hv, ⟨ts, hts, .inl ⟨hg, vs0.toArray, rfl, hs⟩⟩, l1, g1, k1⟩
  | false =>
    have hc := hb hg
    rw [hc] at hv
    cases hv with
    | cons hv ht =>
      cases ht
      exact ⟨m1, h1, n1, _, x1, hv, ⟨ts, hts, .inr ⟨hg, hs⟩⟩, l1, g1, k1⟩
theorem ArgH.keep {P : Program} {h h' : H} {n n' : Nat} (hn : n ≤ n') (hk : ∀ b, b < n → h'.get b = h.get b) {t : TypeId} {v : Value} (x : ArgH P h n t v) : ArgH P h' n' t v := by
  obtain ⟨ts, hts, q⟩ := x
  rcases q with ⟨h1, cs, h2, h3⟩ | ⟨h1, h2⟩
  · exact ⟨ts, hts, .inl ⟨h1, cs, h2, h3.imp fun _ _ _ q => RepH1.keep hn hk q⟩⟩
  · exact ⟨ts, hts, .inr ⟨h1, h2.imp fun _ _ _ q => RepH1.keep hn hk q⟩⟩
end Go.Proofs.YtmjolmggelkjlaaGreat.Ev
/- Texts in the second form: a text is the list of its bytes. No program in sight. -/
namespace Go.Proofs.YtmjolmggelkjlaaGreat.Ev
set_option linter.unusedVariables false
set_option linter.unusedSimpArgs false
open Go Go.RowKit

end Go.Proofs.YtmjolmggelkjlaaGreat.Ev
/- The rules that every step by simp takes, as two facts. No program in sight. -/
namespace Go.Proofs.YtmjolmggelkjlaaGreat.Ev
set_option linter.unusedVariables false
set_option linter.unusedSimpArgs false
open Go
set_option maxRecDepth 4000
theorem RXA : type_of% (And.intro @optK_some_eq (And.intro @knn_ptr (And.intro @knn_fun (And.intro @ifV_true (And.intro @ifV_false (And.intro @run_if (And.intro @run_out0 (And.intro @run_out1 (And.intro @run_out2 (And.intro @run_out3 (And.intro @optG_some (And.intro @cells_agg (And.intro @chk_true (And.intro @get_eq (And.intro @get_ne (And.intro @s_add (And.intro @s_sub (And.intro @s_mul (And.intro @s_eq (And.intro @s_ne (And.intro @s_lt (And.intro @s_le (And.intro @s_gt (And.intro @s_ge (And.intro @s_quo (And.intro @s_rem (And.intro @s_and (And.intro @s_or (And.intro @s_xor (And.intro @s_shl (And.intro @s_shr (And.intro @s_addS (And.intro @s_eqS (And.intro @s_neS (And.intro @s_eqB (And.intro @s_neB (And.intro @s_not (And.intro @s_neg (And.intro @s_cv (And.intro @s_id (And.intro @s_ln (And.intro @s_lx (And.intro @s_mi (And.intro @s_ma (And.intro @s_pk (And.intro @s_pe1 (And.intro @s_pe0 (And.intro @s_pn1 (And.intro @s_pn0 (And.intro @s_se1 (And.intro @s_se0 (And.intro @s_sn1 (And.intro @s_sn0 (And.intro @s_fe1 (And.intro @s_fn1 (And.intro @s_fa (And.intro @s_fd (And.intro @s_fg (And.intro @s_ex (And.intro @s_ix (And.intro @s_iy (And.intro @s_ia (And.intro @s_ib (And.intro @s_iv (And.intro @s_it (And.intro @s_sxh (And.intro @s_sxl (And.intro @s_sxb (And.intro @s_bd (And.intro @fill_nil (And.intro @fill_int (And.intro @fill_bool (And.intro @fill_str (And.intro @fill_slice (And.intro @fill_ptr (And.intro @fill_agg (And.intro @kld_iff (And.intro @st_int (And.intro @st_bool (And.intro @st_str (And.intro @st_ptr (@st_slice)))))))))))))))))))))))))))))))))))))))))))))))))))))))))))))))))))))))))))))))))) := And.intro @optK_some_eq (And.intro @knn_ptr (And.intro @knn_fun (And.intro @ifV_true (And.intro @ifV_false (And.intro @run_if (And.intro @run_out0 (And.intro @run_out1 (And.intro @run_out2 (And.intro @run_out3 (And.intro @optG_some (And.intro @cells_agg (And.intro @chk_true (And.intro @get_eq (And.intro @get_ne (And.intro @s_add (And.intro @s_sub (And.intro @s_mul (And.intro @s_eq (And.intro @s_ne (And.intro @s_lt (And.intro @s_le (And.intro @s_gt (And.intro @s_ge (And.intro @s_quo (And.intro @s_rem (And.intro @s_and (And.intro @s_or (And.intro @s_xor (And.intro @s_shl (And.intro @s_shr (And.intro @s_addS (And.intro @s_eqS (And.intro @s_neS (And.intro @s_eqB (And.intro @s_neB (And.intro @s_not (And.intro @s_neg (And.intro @s_cv (And.intro @s_id (And.intro @s_ln (And.intro @s_lx (And.intro @s_mi (And.intro @s_ma (And.intro @s_pk (And.intro @s_pe1 (And.intro @s_pe0 (And.intro @s_pn1 (And.intro @s_pn0 (And.intro @s_se1 (And.intro @s_se0 (And.intro @s_sn1 (And.intro @s_sn0 (And.intro @s_fe1 (And.intro @s_fn1 (And.intro @s_fa (And.intro @s_fd (And.intro @s_fg (And.intro @s_ex (And.intro @s_ix (And.intro @s_iy (And.intro @s_ia (And.intro @s_ib (And.intro @s_iv (And.intro @s_it (And.intro @s_sxh (And.intro @s_sxl (And.intro @s_sxb (And.intro @s_bd (And.intro @fill_nil (And.intro @fill_int (And.intro @fill_bool (And.intro @fill_str (And.intro @fill_slice (And.intro @fill_ptr (And.intro @fill_agg (And.intro @kld_iff (And.intro @st_int (And.intro @st_bool (And.intro @st_str (And.intro @st_ptr (@st_slice)))))))))))))))))))))))))))))))))))))))))))))))))))))))))))))))))))))))))))))))))
theorem RXB : type_of% (And.intro @List.getElem?_cons_zero.{0} (And.intro @List.getElem?_cons_succ.{0} (And.intro @List.set_cons_zero.{0} (And.intro @List.set_cons_succ.{0} (And.intro @List.length_cons.{0} (And.intro @List.length_nil.{0} (And.intro @Int.toNat_natCast (And.intro @Int.toNat_zero (And.intro @Nat.zero_add (And.intro @Nat.add_zero (And.intro @decide_eq_true_eq (And.intro @decide_eq_false_iff_not (And.intro @true_and (And.intro @and_true (And.intro @if_true.{1} (And.intro @if_false.{1} (And.intro @true_or (And.intro @or_true (And.intro @Bool.false_eq_true (And.intro @Bool.true_eq_false (And.intro @false_and (And.intro @and_false (And.intro @Bool.not_true (And.intro @Bool.not_false (And.intro @beq_self_eq_true.{0} (And.intro @bne_self_eq_false.{0} (And.intro @decide_true (And.intro @decide_false (And.intro @Bool.and_true (And.intro @Bool.true_and (And.intro @Bool.and_false (@Bool.false_and)))))))))))))))))))))))))))))))) := And.intro @List.getElem?_cons_zero.{0} (And.intro @List.getElem?_cons_succ.{0} (And.intro @List.set_cons_zero.{0} (And.intro @List.set_cons_succ.{0} (And.intro @List.length_cons.{0} (And.intro @List.length_nil.{0} (And.intro @Int.toNat_natCast (And.intro @Int.toNat_zero (And.intro @Nat.zero_add (And.intro @Nat.add_zero (And.intro @decide_eq_true_eq (And.intro @decide_eq_false_iff_not (And.intro @true_and (And.intro @and_true (And.intro @if_true.{1} (And.intro @if_false.{1} (And.intro @true_or (And.intro @or_true (And.intro @Bool.false_eq_true (And.intro @Bool.true_eq_false (And.intro @false_and (And.intro @and_false (And.intro @Bool.not_true (And.intro @Bool.not_false (And.intro @beq_self_eq_true.{0} (And.intro @bne_self_eq_false.{0} (And.intro @decide_true (And.intro @decide_false (And.intro @Bool.and_true (And.intro @Bool.true_and (And.intro @Bool.and_false (@Bool.false_and)))))))))))))))))))))))))))))))
end Go.Proofs.YtmjolmggelkjlaaGreat.Ev

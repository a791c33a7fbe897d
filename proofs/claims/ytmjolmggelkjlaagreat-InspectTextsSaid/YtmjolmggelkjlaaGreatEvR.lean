/- What a part of the second form does, step by step: the rules. No program in sight. -/
import Derived.Test.YtmjolmggelkjlaaGreatEvQ
namespace Go.Proofs.YtmjolmggelkjlaaGreat.Ev
set_option linter.unusedVariables false
set_option linter.unusedSimpArgs false
open Go

/-- a part runs to its end: n0: the first of the call's own blocks; W: the blocks that it may write besides them -/
def Run {α : Type} (W : Nat → Prop) (n0 : Nat) (m : M α) (h : H) (n : Nat) (Q : α → H → Nat → Prop) : Prop :=
  ∃ a h1 n1 L, m h n = some ⟨a, h1, n1, L⟩ ∧ n ≤ n1 ∧ (∀ e ∈ L, e.wr = true → n0 ≤ e.b ∨ W e.b) ∧ Q a h1 n1
theorem Run.mono {α : Type} {W : Nat → Prop} {n0 : Nat} {m : M α} {h : H} {n : Nat} {Q Q' : α → H → Nat → Prop} (x : Run W n0 m h n Q) (hq : ∀ a h1 n1, n ≤ n1 → Q a h1 n1 → Q' a h1 n1) : Run W n0 m h n Q' := by
  obtain ⟨a, h1, n1, L, e1, e2, e3, e4⟩ := x
  exact ⟨a, h1, n1, L, e1, e2, e3, hq _ _ _ e2 e4⟩
section
variable {α β : Type} {W : Nat → Prop} {n0 : Nat} {m : M α} {k : α → M β} {h h1 : H} {n n1 : Nat} {a : α} {L : List En} {Q : β → H → Nat → Prop}
theorem Run.step (e : m h n = some ⟨a, h1, n1, L⟩) (hn : n ≤ n1) (hw : ∀ e ∈ L, e.wr = true → n0 ≤ e.b ∨ W e.b) (x : Run W n0 (k a) h1 n1 Q) : Run W n0 (m.bind k) h n Q := by
  obtain ⟨b, h2, n2, L2, e1, e2, e3, e4⟩ := x
  refine ⟨b, h2, n2, L ++ L2, bind_run e e1, by omega, fun x hx => ?_, e4⟩
  rcases List.mem_append.1 hx with q | q
  · exact hw x q
  · exact e3 x q
theorem Run.unstep (e : m h n = some ⟨a, h1, n1, L⟩) (hn : n1 = n) (x : Run W n0 (m.bind k) h n Q) : Run W n0 (k a) h1 n1 Q := by
  obtain ⟨b, h2, n2, L2, e1, e2, e3, e4⟩ := x
  obtain ⟨a', h3, n3, L3, L4, e5, e6, rfl⟩ := bind_some e1
  rw [e] at e5
  simp only [Option.some.injEq, Out.mk.injEq] at e5
  obtain ⟨rfl, rfl, rfl, rfl⟩ := e5
  exact ⟨b, h2, n2, L4, e6, by omega, fun x hx => e3 x (List.mem_append.2 (.inr hx)), e4⟩
theorem Run.iff (e : m h n = some ⟨a, h1, n, L⟩) (hw : ∀ e ∈ L, e.wr = true → n0 ≤ e.b ∨ W e.b) : Run W n0 (m.bind k) h n Q ↔ Run W n0 (k a) h1 n Q :=
  ⟨Run.unstep e rfl, Run.step e (Nat.le_refl _) hw⟩
theorem Run.inside_ {Q' : α → H → Nat → Prop} (x : Run W n0 m h n Q') : Run W n0 (inside m) h n Q' := by
  obtain ⟨a, h1, n1, L, e1, e2, e3, e4⟩ := x
  exact ⟨a, h1, n1, _, inside_run e1, e2, fun e he => e3 e (List.mem_filter.1 he).1, e4⟩
end
section
variable {β : Type} {W : Nat → Prop} {n0 : Nat} {h h1 : H} {n n1 : Nat} {Q : β → H → Nat → Prop} {QV : Value → H → Nat → Prop}
theorem run_ret (a : β) : Run W n0 (M.ret a) h n Q ↔ Q a h n := by
  constructor
  · rintro ⟨b, h2, n2, L, e1, e2, e3, e4⟩
    obtain ⟨rfl, rfl, rfl, rfl⟩ := ret_run_inv e1
    exact e4
  · intro x
    exact ⟨a, h, n, [], rfl, Nat.le_refl _, fun e he => (nomatch he), x⟩
theorem run_out0 : Run W n0 (outK []) h n QV ↔ QV (.tuple #[]) h n := run_ret _
theorem run_out1 (v : Value) : Run W n0 (outK [v]) h n QV ↔ QV v h n := run_ret _
theorem run_out2 (v w : Value) : Run W n0 (outK [v, w]) h n QV ↔ QV (.tuple #[v, w]) h n := run_ret _
theorem run_out3 (v w u : Value) : Run W n0 (outK [v, w, u]) h n QV ↔ QV (.tuple #[v, w, u]) h n := run_ret _
theorem optK_some_eq {α : Type} (a : α) (k : α → M β) : optK (some a) k = k a := rfl
theorem run_if (b : Bool) (x y : M β) : Run W n0 (ifV (.bool b) x y) h n Q ↔ if b = true then Run W n0 x h n Q else Run W n0 y h n Q := by
  cases b
  · rw [if_neg Bool.false_ne_true]; exact Iff.rfl
  · rw [if_pos rfl]; exact Iff.rfl
theorem ifV_true (x y : M β) : ifV (.bool true) x y = x := rfl
theorem ifV_false (x y : M β) : ifV (.bool false) x y = y := rfl

/-! numbers, texts, truths -/
section
variable {β : Type} (k : Value → M β)
theorem knn_ptr (a : Addr) : knn (.pointer (some a)) k = k (.pointer (some a)) := rfl
theorem knn_fun (f : FuncId) (a b : Array Value) : knn (.func (.func f) a b) k = k (.func (.func f) a b) := rfl
theorem num2_eq (f : IntKind → Int → Int → Value) (j : IntKind) (a b : Int) : num2 f (.int j a) (.int j b) k = k (f j a b) := by
  unfold num2
  simp only [sameK_refl]
theorem s_add (j : IntKind) (a b : Int) : kad (.int j a) (.int j b) k = k (.int j (j.wrap (a + b))) := by
  show num2 (fun k a b => .int k (fwrap k (iadd a b))) (.int j a) (.int j b) k = _
  rw [num2_eq, fwrap_eq, iadd_eq]
theorem s_sub (j : IntKind) (a b : Int) : ksb (.int j a) (.int j b) k = k (.int j (j.wrap (a - b))) := by
  unfold ksb
  rw [num2_eq, fwrap_eq, isub_eq]
theorem s_mul (j : IntKind) (a b : Int) : kml (.int j a) (.int j b) k = k (.int j (j.wrap (a * b))) := by
  unfold kml
  rw [num2_eq, fwrap_eq, imul_eq]
theorem s_eq (j : IntKind) (a b : Int) : keq (.int j a) (.int j b) k = k (.bool (a == b)) := by
  show num2 (fun _ a b => .bool (ieq a b)) (.int j a) (.int j b) k = _
  rw [num2_eq, ieq_eq]
theorem s_ne (j : IntKind) (a b : Int) : kne (.int j a) (.int j b) k = k (.bool (a != b)) := by
  show num2 (fun _ a b => .bool (!ieq a b)) (.int j a) (.int j b) k = _
  rw [num2_eq, ieq_eq]; rfl
theorem s_lt (j : IntKind) (a b : Int) : kls (.int j a) (.int j b) k = k (.bool (decide (a < b))) := by
  unfold kls
  rw [num2_eq, ilt_eq]
theorem s_le (j : IntKind) (a b : Int) : klq (.int j a) (.int j b) k = k (.bool (decide (a ≤ b))) := by
  unfold klq
  rw [num2_eq, ile_eq]
theorem s_gt (j : IntKind) (a b : Int) : kgr (.int j a) (.int j b) k = k (.bool (decide (b < a))) := by
  unfold kgr
  rw [num2_eq, ilt_eq]
theorem s_ge (j : IntKind) (a b : Int) : kgq (.int j a) (.int j b) k = k (.bool (decide (b ≤ a))) := by
  unfold kgq
  rw [num2_eq, ile_eq]
theorem s_quo (j : IntKind) (a b : Int) (h0 : b ≠ 0) : kqu (.int j a) (.int j b) k = k (.int j (j.wrap (a.tdiv b))) := by
  unfold kqu
  simp only [sameK_refl, ieq_eq, beq_eq_false_iff_ne.2 h0, fwrap_eq]
theorem s_rem (j : IntKind) (a b : Int) (h0 : b ≠ 0) : krm (.int j a) (.int j b) k = k (.int j (a.tmod b)) := by
  unfold krm
  simp only [sameK_refl, ieq_eq, beq_eq_false_iff_ne.2 h0]
theorem bit2_eq {f : Nat → Nat → Nat} {g : (w : Nat) → BitVec w → BitVec w → BitVec w} (hg : ∀ w x y, (g w x y).toNat = f x.toNat y.toNat) (j : IntKind) (a b : Int) (ha : 0 ≤ a) (hb : 0 ≤ b) : bit2 f (.int j a) (.int j b) k = k (.int j (j.wrap (g j.bits (BitVec.ofInt j.bits a) (BitVec.ofInt j.bits b)).toNat)) := by
  obtain ⟨p, rfl⟩ : ∃ p : Nat, a = Int.ofNat p := ⟨a.toNat, (Int.toNat_of_nonneg ha).symm⟩
  obtain ⟨q, rfl⟩ : ∃ q : Nat, b = Int.ofNat q := ⟨b.toNat, (Int.toNat_of_nonneg hb).symm⟩
  unfold bit2
  simp only [sameK_refl, fwrap_eq, hg, (arQ_bits p q).1, (arQ_bits p q).2]
  rfl
theorem s_and (j : IntKind) (a b : Int) (ha : 0 ≤ a) (hb : 0 ≤ b) : kan (.int j a) (.int j b) k = k (.int j (j.wrap (BitVec.ofInt j.bits a &&& BitVec.ofInt j.bits b).toNat)) := bit2_eq k (g := fun _ x y => x &&& y) (fun _ _ _ => BitVec.toNat_and ..) j a b ha hb
theorem s_or (j : IntKind) (a b : Int) (ha : 0 ≤ a) (hb : 0 ≤ b) : kor (.int j a) (.int j b) k = k (.int j (j.wrap (BitVec.ofInt j.bits a ||| BitVec.ofInt j.bits b).toNat)) := bit2_eq k (g := fun _ x y => x ||| y) (fun _ _ _ => BitVec.toNat_or ..) j a b ha hb
theorem s_xor (j : IntKind) (a b : Int) (ha : 0 ≤ a) (hb : 0 ≤ b) : kxo (.int j a) (.int j b) k = k (.int j (j.wrap (BitVec.ofInt j.bits a ^^^ BitVec.ofInt j.bits b).toNat)) := bit2_eq k (g := fun _ x y => x ^^^ y) (fun _ _ _ => BitVec.toNat_xor ..) j a b ha hb
theorem s_shl (j j' : IntKind) (a b : Int) (ha : 0 ≤ a) (hb : 0 ≤ b) : ksl (.int j a) (.int j' b) k = k (.int j (j.wrap (a * 2 ^ (min b.toNat j.bits)))) := by
  obtain ⟨p, rfl⟩ : ∃ p : Nat, a = Int.ofNat p := ⟨a.toNat, (Int.toNat_of_nonneg ha).symm⟩
  obtain ⟨q, rfl⟩ : ∃ q : Nat, b = Int.ofNat q := ⟨b.toNat, (Int.toNat_of_nonneg hb).symm⟩
  unfold ksl
  simp only [fwrap_eq]
  congr 3
theorem s_shr (j j' : IntKind) (a b : Int) (ha : 0 ≤ a) (hb : 0 ≤ b) : ksr (.int j a) (.int j' b) k = k (.int j (a.fdiv (2 ^ (min b.toNat j.bits)))) := by
  obtain ⟨p, rfl⟩ : ∃ p : Nat, a = Int.ofNat p := ⟨a.toNat, (Int.toNat_of_nonneg ha).symm⟩
  obtain ⟨q, rfl⟩ : ∃ q : Nat, b = Int.ofNat q := ⟨b.toNat, (Int.toNat_of_nonneg hb).symm⟩
  unfold ksr
  simp only
  congr 2
  show ((p / 2 ^ (min q j.bits) : Nat) : Int) = ((p : Nat) : Int).fdiv (2 ^ min q j.bits)
  have e2 : (2 : Int) ^ (min q j.bits) = ((2 ^ (min q j.bits) : Nat) : Int) := by simp
  rw [e2, Int.fdiv_eq_ediv_of_nonneg _ (Int.natCast_nonneg _), ← Int.natCast_ediv]
theorem s_addS (a b : List UInt8) (h : a.length + b.length ≤ 9223372036854775807) : kad (.string ⟨a.toArray⟩) (.string ⟨b.toArray⟩) k = k (.string ⟨(a ++ b).toArray⟩) := by
  unfold kad
  simp only [lenB_eq]
  rw [show Nat.ble (Nat.add a.length b.length) 9223372036854775807 = true from Nat.ble_eq_true_of_le h]
  simp only [appB_eq]
theorem s_eqS (a b : List UInt8) : keq (.string ⟨a.toArray⟩) (.string ⟨b.toArray⟩) k = k (.bool (decide (a = b))) := by
  unfold keq
  simp only [beqB_eq]
theorem s_neS (a b : List UInt8) : kne (.string ⟨a.toArray⟩) (.string ⟨b.toArray⟩) k = k (.bool (!decide (a = b))) := by
  unfold kne
  simp only [beqB_eq]
theorem s_eqB (a b : Bool) : kbe (.bool a) (.bool b) k = k (.bool (a == b)) := by cases a <;> cases b <;> rfl
theorem s_neB (a b : Bool) : kbn (.bool a) (.bool b) k = k (.bool (a != b)) := by cases a <;> cases b <;> rfl
theorem s_not (b : Bool) : knt (.bool b) k = k (.bool (!b)) := rfl
theorem s_neg (j : IntKind) (a : Int) : kng (.int j a) k = k (.int j (j.wrap (0 - a))) := by
  unfold kng
  simp only [fwrap_eq, isub_eq]
theorem s_cv (kd j : IntKind) (a : Int) : kcv kd (.int j a) k = k (.int kd (kd.wrap a)) := by
  unfold kcv
  simp only [fwrap_eq]
theorem s_id (s : ByteArray) : kid (.string s) k = k (.string s) := rfl
theorem s_ln (a : Option Addr) (n c : Nat) : kln (.slice a n c) k = k (.int .i64 (n : Int)) := rfl
theorem s_lx (l : List UInt8) : klx (.string ⟨l.toArray⟩) k = k (.int .i64 (l.length : Int)) := by
  unfold klx
  simp only [lenB_eq]
  rfl
theorem s_mi (j j' : IntKind) (a b : Int) : kmi (.int j a) (.int j' b) k = k (.int j (if b < a then b else a)) := by
  unfold kmi
  simp only [ilt_eq]
  by_cases h : b < a <;> simp only [h, decide_true, decide_false, if_true, if_false]
theorem s_ma (j j' : IntKind) (a b : Int) : kma (.int j a) (.int j' b) k = k (.int j (if a < b then b else a)) := by
  unfold kma
  simp only [ilt_eq]
  by_cases h : a < b <;> simp only [h, decide_true, decide_false, if_true, if_false]
theorem s_pk (b : Bool) (x y : Value) : kpk (.bool b) x y k = k (if b = true then x else y) := by cases b <;> rfl
theorem s_pe1 (a : Addr) : kpe (.pointer (some a)) (.pointer none) k = k (.bool false) := rfl
theorem s_pe0 : kpe (.pointer none) (.pointer none) k = k (.bool true) := rfl
theorem s_pn1 (a : Addr) : kpn (.pointer (some a)) (.pointer none) k = k (.bool true) := rfl
theorem s_pn0 : kpn (.pointer none) (.pointer none) k = k (.bool false) := rfl
theorem s_se1 (a : Addr) (n c m d : Nat) : kse (.slice (some a) n c) (.slice none m d) k = k (.bool false) := rfl
theorem s_se0 (n c m d : Nat) : kse (.slice none n c) (.slice none m d) k = k (.bool true) := rfl
theorem s_sn1 (a : Addr) (n c m d : Nat) : ksn (.slice (some a) n c) (.slice none m d) k = k (.bool true) := rfl
theorem s_sn0 (n c m d : Nat) : ksn (.slice none n c) (.slice none m d) k = k (.bool false) := rfl
theorem s_fe1 (f : Fn) (a b : Array Value) : kfe (.func f a b) .nilFunc k = k (.bool false) := rfl
theorem s_fn1 (f : Fn) (a b : Array Value) : kfn (.func f a b) .nilFunc k = k (.bool true) := rfl

/-! places -/
theorem s_fa (K b off : Nat) : kfa K (.pointer (some ⟨b, off, none⟩)) k = k (.pointer (some ⟨b, off + K, none⟩)) := rfl
theorem nthK (l : List Value) (i : Nat) : (match nthV l i with
    | some v => k v
    | none => M.fail) = optK l[i]? k := by
  rw [nthV_eq]
  cases l[i]? <;> rfl
theorem s_fd (K : Nat) (l : List Value) : kfd K (.agg l.toArray) k = optK l[K]? k := nthK k l K
theorem s_fg (K m : Nat) (l : List Value) : kfg K m (.agg l.toArray) k = k (.agg ((l.drop K).take m).toArray) := rfl
theorem s_ex (l : List Value) (i : Nat) : kex (.tuple l.toArray) i k = optK l[i]? k := nthK k l i
theorem ext0 (a b : Value) : kex (.tuple #[a, b]) 0 k = k a := rfl
theorem ext1 (a b : Value) : kex (.tuple #[a, b]) 1 k = k b := rfl
theorem ble_lt {i : Int} {n : Nat} (h1 : i < n) {j : Nat} (e : i = Int.ofNat j) : Nat.ble (Nat.succ j) n = true := by
  subst e
  exact Nat.ble_eq_true_of_le (Int.ofNat_lt.1 h1)
theorem s_ix (b off n c : Nat) (j : IntKind) (i : Int) (h0 : 0 ≤ i) (h1 : i < n) : kix (.slice (some ⟨b, off, none⟩) n c) (.int j i) k = k (.pointer (some ⟨b, off + i.toNat, none⟩)) := by
  obtain ⟨p, rfl⟩ : ∃ p : Nat, i = Int.ofNat p := ⟨i.toNat, (Int.toNat_of_nonneg h0).symm⟩
  unfold kix
  simp only [ble_lt h1 rfl]
  rfl
theorem s_iy (sz b off n c : Nat) (j : IntKind) (i : Int) (h0 : 0 ≤ i) (h1 : i < n) : kiy sz (.slice (some ⟨b, off, none⟩) n c) (.int j i) k = k (.pointer (some ⟨b, off + i.toNat * sz, none⟩)) := by
  obtain ⟨p, rfl⟩ : ∃ p : Nat, i = Int.ofNat p := ⟨i.toNat, (Int.toNat_of_nonneg h0).symm⟩
  unfold kiy
  simp only [ble_lt h1 rfl]
  rfl
theorem s_ia (n b off : Nat) (j : IntKind) (i : Int) (h0 : 0 ≤ i) (h1 : i < n) : kia n (.pointer (some ⟨b, off, none⟩)) (.int j i) k = k (.pointer (some ⟨b, off + i.toNat, none⟩)) := by
  obtain ⟨p, rfl⟩ : ∃ p : Nat, i = Int.ofNat p := ⟨i.toNat, (Int.toNat_of_nonneg h0).symm⟩
  unfold kia
  simp only [ble_lt h1 rfl]
  rfl
theorem s_ib (n sz b off : Nat) (j : IntKind) (i : Int) (h0 : 0 ≤ i) (h1 : i < n) : kib n sz (.pointer (some ⟨b, off, none⟩)) (.int j i) k = k (.pointer (some ⟨b, off + i.toNat * sz, none⟩)) := by
  obtain ⟨p, rfl⟩ : ∃ p : Nat, i = Int.ofNat p := ⟨i.toNat, (Int.toNat_of_nonneg h0).symm⟩
  unfold kib
  simp only [ble_lt h1 rfl]
  rfl
theorem s_iv (n : Nat) (l : List Value) (j : IntKind) (i : Int) (h0 : 0 ≤ i) (h1 : i < n) : kiv n (.agg l.toArray) (.int j i) k = optK l[i.toNat]? k := by
  obtain ⟨p, rfl⟩ : ∃ p : Nat, i = Int.ofNat p := ⟨i.toNat, (Int.toNat_of_nonneg h0).symm⟩
  unfold kiv
  simp only [ble_lt h1 rfl]
  exact nthK k l p
theorem s_it (l : List UInt8) (j : IntKind) (i : Int) (h0 : 0 ≤ i) (h1 : i < l.length) : kit (.string ⟨l.toArray⟩) (.int j i) k = k (.int .u8 ((l.getD i.toNat 0).toNat : Int)) := by
  obtain ⟨p, rfl⟩ : ∃ p : Nat, i = Int.ofNat p := ⟨i.toNat, (Int.toNat_of_nonneg h0).symm⟩
  have hp : p < l.length := Int.ofNat_lt.1 h1
  have e : nthB l p = some (l.getD p 0) := by
    cases hn : nthB l p with
    | some c => rw [(nthB_some _ _ _ hn).2]
    | none =>
      exfalso
      have : ∀ (l : List UInt8) (p : Nat), p < l.length → nthB l p ≠ none := by
        intro l
        induction l with
        | nil => intro p h; simp at h
        | cons a l ih =>
          intro p h e
          cases p with
          | zero => cases e
          | succ p => exact ih p (by simpa using h) e
      exact this l p hp hn
  unfold kit
  simp only [e]
  rfl
theorem ksx_eq (l : List UInt8) (lo hi : Option Value) {a b : Nat} (ha : bndN lo 0 = some a) (hb : bndN hi l.length = some b) (h1 : a ≤ b) (h2 : b ≤ l.length) : ksx (.string ⟨l.toArray⟩) lo hi k = k (.string ⟨((l.drop a).take (b - a)).toArray⟩) := by
  unfold ksx
  simp only [ha, lenB_eq, hb, Nat.ble_eq_true_of_le h1, Nat.ble_eq_true_of_le h2]
  rfl
theorem bndN_int (j : IntKind) {i : Int} (d : Nat) (h : 0 ≤ i) : bndN (some (.int j i)) d = some i.toNat := by
  obtain ⟨p, rfl⟩ : ∃ p : Nat, i = Int.ofNat p := ⟨i.toNat, (Int.toNat_of_nonneg h).symm⟩
  rfl
theorem s_sxh (l : List UInt8) (kd : IntKind) (j : Int) (h0 : 0 ≤ j) (h1 : j ≤ l.length) : ksx (.string ⟨l.toArray⟩) none (some (.int kd j)) k = k (.string ⟨(l.take j.toNat).toArray⟩) := by
  rw [ksx_eq k l none _ (a := 0) (b := j.toNat) rfl (bndN_int kd _ h0) (by omega) (by omega)]
  simp
theorem s_sxl (l : List UInt8) (kd : IntKind) (i : Int) (h0 : 0 ≤ i) (h1 : i ≤ l.length) : ksx (.string ⟨l.toArray⟩) (some (.int kd i)) none k = k (.string ⟨(l.drop i.toNat).toArray⟩) := by
  rw [ksx_eq k l _ none (a := i.toNat) (b := l.length) (bndN_int kd _ h0) rfl (by omega) (by omega)]
  rw [List.take_of_length_le (by simp)]
theorem s_sxb (l : List UInt8) (kd kd' : IntKind) (i j : Int) (h0 : 0 ≤ i) (h1 : i ≤ j) (h2 : j ≤ l.length) : ksx (.string ⟨l.toArray⟩) (some (.int kd i)) (some (.int kd' j)) k = k (.string ⟨((l.drop i.toNat).take (j.toNat - i.toNat)).toArray⟩) :=
  ksx_eq k l _ _ (bndN_int kd _ h0) (bndN_int kd' _ (by omega)) (by omega) (by omega)
/-! structs put together -/
theorem s_bd (z : List Value) (ps : List (Nat × Nat × Value)) : kbd z ps k = optK (fillQ z ps) fun cs => k (.agg cs.toArray) := by
  unfold kbd
  cases fillQ z ps <;> rfl
theorem fill_nil (cs : List Value) : fillQ cs [] = some cs := rfl
theorem fillQ_cons (cs : List Value) (q : Nat × Nat × Value) (r : List (Nat × Nat × Value)) : fillQ cs (q :: r) = match Nat.beq (lenV (cellsL q.2.2)) q.2.1 with
    | true => match Nat.ble (Nat.add q.1 (lenV (cellsL q.2.2))) (lenV cs) with
      | true => fillQ (splice cs q.1 (cellsL q.2.2)) r
      | false => none
    | false => none := rfl
theorem fill_gen {cs vs : List Value} {off sz : Nat} {v : Value} {r : List (Nat × Nat × Value)} (hv : cellsL v = vs) : fillQ cs ((off, sz, v) :: r) = if vs.length = sz then (if off + sz ≤ cs.length then fillQ (cs.take off ++ (vs ++ cs.drop (off + sz))) r else none) else none := by
  have sp : ∀ (off : Nat) (cs l : List Value), off + l.length ≤ cs.length → splice cs off l = cs.take off ++ (l ++ cs.drop (off + l.length)) := by
    have ov : ∀ (l cs : List Value), l.length ≤ cs.length → over l cs = l ++ cs.drop l.length := by
      intro l
      induction l with
      | nil => intro cs _; simp [over]
      | cons x l ih =>
        intro cs h
        cases cs with
        | nil => simp at h
        | cons c cs =>
          show x :: over l cs = _
          rw [ih cs (by simpa using h)]
          simp
    intro off
    induction off with
    | zero =>
      intro cs l h
      have e : splice cs 0 l = over l cs := by cases cs <;> rfl
      rw [e, ov l cs (by omega)]
      simp
    | succ off ih =>
      intro cs l h
      cases cs with
      | nil => simp at h
      | cons c cs =>
        show c :: splice cs off l = _
        rw [ih cs l (by simp at h; omega), show off + 1 + l.length = off + l.length + 1 by omega]
        simp
  subst hv
  rw [fillQ_cons]
  simp only [lenV_eq]
  by_cases h1 : (cellsL v).length = sz
  · rw [if_pos h1]
    subst h1
    rw [Nat.beq_refl]
    simp only
    by_cases h2 : off + (cellsL v).length ≤ cs.length
    · rw [if_pos h2, show Nat.ble (Nat.add off (cellsL v).length) cs.length = true from Nat.ble_eq_true_of_le h2, sp _ _ _ h2]
    · rw [if_neg h2]
      have : Nat.ble (Nat.add off (cellsL v).length) cs.length = false := by
        cases hq : Nat.ble (Nat.add off (cellsL v).length) cs.length with
        | false => rfl
        | true => exact absurd (Nat.le_of_ble_eq_true hq) h2
      rw [this]
  · rw [if_neg h1]
    have : Nat.beq (cellsL v).length sz = false := by
      cases hq : Nat.beq (cellsL v).length sz with
      | false => rfl
      | true => exact absurd (Nat.eq_of_beq_eq_true hq) h1
    rw [this]
theorem fill_one {cs : List Value} {off : Nat} {v : Value} {r : List (Nat × Nat × Value)} (hv : cellsL v = [v]) : fillQ cs ((off, 1, v) :: r) = if off < cs.length then fillQ (cs.set off v) r else none := by
  rw [fill_gen hv, if_pos (show [v].length = 1 from rfl)]
  by_cases h : off < cs.length
  · rw [if_pos h, if_pos (by omega)]
    congr 1
    rw [List.set_eq_take_append_cons_drop, if_pos h]
    rfl
  · rw [if_neg h, if_neg (by omega)]
section
variable (cs : List Value) (off : Nat) (r : List (Nat × Nat × Value))
theorem fill_int (j : IntKind) (x : Int) : fillQ cs ((off, 1, .int j x) :: r) = if off < cs.length then fillQ (cs.set off (.int j x)) r else none := fill_one rfl
theorem fill_bool (b : Bool) : fillQ cs ((off, 1, .bool b) :: r) = if off < cs.length then fillQ (cs.set off (.bool b)) r else none := fill_one rfl
theorem fill_str (s : ByteArray) : fillQ cs ((off, 1, .string s) :: r) = if off < cs.length then fillQ (cs.set off (.string s)) r else none := fill_one rfl
theorem fill_slice (a : Option Addr) (n c : Nat) : fillQ cs ((off, 1, .slice a n c) :: r) = if off < cs.length then fillQ (cs.set off (.slice a n c)) r else none := fill_one rfl
theorem fill_ptr (a : Option Addr) : fillQ cs ((off, 1, .pointer a) :: r) = if off < cs.length then fillQ (cs.set off (.pointer a)) r else none := fill_one rfl
theorem fill_agg (sz : Nat) (vs : List Value) : fillQ cs ((off, sz, .agg vs.toArray) :: r) = if vs.length = sz then (if off + sz ≤ cs.length then fillQ (cs.take off ++ (vs ++ cs.drop (off + sz))) r else none) else none := fill_gen rfl
end
end

/-! memory -/
theorem get_eq (h : H) (i : Nat) (x : Option AB) : (h.set i x).get i = x := by rw [H.get_set, if_pos rfl]
theorem get_ne (h : H) {i j : Nat} (x : Option AB) (e : j ≠ i) : (h.set i x).get j = h.get j := by rw [H.get_set, if_neg e]
theorem cell_def (h : H) (b k : Nat) {B : AB} (hg : h.get b = some B) : h.cell b k = B.cells[k]? := by unfold H.cell; rw [hg]; rfl
theorem inside_ro {α : Type} {m : M α} {h h1 : H} {n n1 : Nat} {a : α} {L : List En} (e : m h n = some ⟨a, h1, n1, L⟩) (hw : ∀ e ∈ L, e.wr = false) : ∃ L', inside m h n = some ⟨a, h1, n1, L'⟩ ∧ ∀ e ∈ L', e.wr = true → n0 ≤ e.b ∨ W e.b :=
  ⟨_, inside_run e, fun x hx hx2 => by rw [hw x (List.mem_filter.1 hx).1] at hx2; cases hx2⟩
theorem newB_run (e : TypeId) (cs : List Value) (h : H) (n : Nat) : newB e cs h n = some ⟨n, h.set n (some ⟨e, true, cs⟩), n + 1, []⟩ := by
  unfold newB
  rw [if_pos (Nat.lt_succ_self n)]
theorem run_new {α : Type} {m : M α} {a : α} {k : α → M β} {h1 : H} {n1 : Nat} (e : m h n = some ⟨a, h1, n1, []⟩) (hn : n ≤ n1) (x : Run W n0 (k a) h1 n1 Q) : Run W n0 ((inside m).bind k) h n Q :=
  Run.step (inside_run e) hn (fun x hx => by simp at hx) x
theorem run_ins {α : Type} {m : M α} {kk : α → M β} (x : Run W n0 ((inside m).bind kk) h n Q) : Run W n0 (insB m kk) h n Q := by rw [insB_eq]; exact x
theorem newK (e : TypeId) (cs : List Value) (f : Nat → Value) (h : H) (n : Nat) : ((newB3 e cs).bind fun id => M.ret (f id)) h n = some ⟨f n, h.set n (some ⟨e, true, cs⟩), n + 1, []⟩ := by
  rw [newB3_eq]
  exact bind_run (newB_run _ _ _ _) rfl
theorem run_box {T : Prop} (_ : T) {t : TypeId} (v : Value) (k : Value → M β) (x : Run W n0 (k (.pointer (some ⟨n, 0, none⟩))) (h.set n (some ⟨t, true, v.cells.toList⟩)) (n + 1) Q) : Run W n0 (kbx t v k) h n Q := by
  rw [← cellsL_eq] at x
  exact run_ins (run_new (newK _ _ (fun id => Value.pointer (some ⟨id, 0, none⟩)) _ _) (Nat.le_succ n) x)
theorem run_alloc {t : TypeId} {z cs : List Value} (hz : z = cs) (k : Value → M β) (x : Run W n0 (k (.pointer (some ⟨n, 0, none⟩))) (h.set n (some ⟨t, true, cs⟩)) (n + 1) Q) : Run W n0 (kal t z k) h n Q := by
  subst hz
  exact run_ins (run_new (newK _ _ (fun id => Value.pointer (some ⟨id, 0, none⟩)) _ _) (Nat.le_succ n) x)
theorem catV_one (z : Value) : ∀ m, catV [z] m = List.replicate m z
  | 0 => rfl
  | m + 1 => by
    show z :: catV [z] m = _
    rw [catV_one z m]; rfl
theorem run_make {T : Prop} (_ : T) {e : TypeId} {z : Value} (l m : Nat) (k : Value → M β) {kd kd' : IntKind} (hl : l ≤ m) (hm : m ≤ 1099511627776) (x : Run W n0 (k (.slice (some ⟨n, 0, none⟩) l m)) (h.set n (some ⟨e, true, List.replicate m z⟩)) (n + 1) Q) : Run W n0 (kmk e [z] (.int kd l) (.int kd' m) k) h n Q := by
  have e1 : kmk e [z] (.int kd l) (.int kd' m) k = insB ((newB3 e (catV [z] m)).bind fun id => M.ret (Value.slice (some ⟨id, 0, none⟩) l m)) k := by
    show (match Nat.ble l m with
      | true => match Nat.ble m 1099511627776 with
        | true => insB ((newB3 e (catV [z] m)).bind fun id => M.ret (Value.slice (some ⟨id, 0, none⟩) l m)) k
        | false => .fail
      | false => .fail) = _
    rw [Nat.ble_eq_true_of_le hl, Nat.ble_eq_true_of_le hm]
  rw [e1, catV_one]
  exact run_ins (run_new (newK _ _ (fun id => Value.slice (some ⟨id, 0, none⟩) l m) _ _) (Nat.le_succ n) x)
theorem run_lit1 {T : Prop} (_ : T) {e : TypeId} {v : Value} (h1 : one v = true) (k : Value → M β) (x : Run W n0 (k (.slice (some ⟨n, 0, none⟩) 1 1)) (h.set n (some ⟨e, true, [v]⟩)) (n + 1) Q) : Run W n0 (kb1 e 1 v k) h n Q := by
  have hc : cellsL v = [v] := by cases v <;> first | rfl | (simp [one] at h1)
  unfold kb1
  rw [hc]
  exact run_ins (run_new (newK _ _ (fun id => Value.slice (some ⟨id, 0, none⟩) 1 1) _ _) (Nat.le_succ n) x)
end

end Go.Proofs.YtmjolmggelkjlaaGreat.Ev

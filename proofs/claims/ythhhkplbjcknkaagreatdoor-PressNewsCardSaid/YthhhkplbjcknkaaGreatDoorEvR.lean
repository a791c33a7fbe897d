/- What a part of the second form does, step by step: the rules. No program in sight. -/
import Derived.Test.YthhhkplbjcknkaaGreatDoorEvQ
namespace Go.Proofs.YthhhkplbjcknkaaGreatDoor.Ev
set_option linter.unusedVariables false
set_option linter.unusedSimpArgs false
open Go

/-- a part runs to its end: n0: the first of the call's own blocks; W: the blocks that it may write besides them -/
def Run {α : Type} (W : Nat → Prop) (n0 : Nat) (m : M α) (h : H) (n : Nat) (Q : α → H → Nat → Prop) : Prop :=
  ∃ a h1 n1 L, m h n = some ⟨a, h1, n1, L⟩ ∧ n ≤ n1 ∧ (∀ e ∈ L, e.wr = true → n0 ≤ e.b ∨ W e.b) ∧ Q a h1 n1
theorem Run.mono {α : Type} {W : Nat → Prop} {n0 : Nat} {m : M α} {h : H} {n : Nat} {Q Q' : α → H → Nat → Prop} (x : Run W n0 m h n Q) (hq : ∀ a h1 n1, n ≤ n1 → Q a h1 n1 → Q' a h1 n1) : Run W n0 m h n Q' := by
  obtain ⟨a, h1, n1, L, e1, e2, e3, e4⟩ := x
  exact ⟨a, h1, n1, L, e1, e2, e3, hq _ _ _ e2 e4⟩
section
variable {α β : Type} {W : Nat → Prop} {n0 : Nat} {m : M α} {k : α → M β} {h h1 : H} {n n1 : Nat} {a : α} {L : List En} {Q : β → H → Nat → Prop}
theorem Run.step (e : m h n = some ⟨a, h1, n1, L⟩) (hn : n ≤ n1) (hw : ∀ e ∈ L, e.wr = true → n0 ≤ e.b ∨ W e.b) (x : Run W n0 (k a) h1 n1 Q) : Run W n0 (m.bind k) h n Q := by
  obtain ⟨b, h2, n2, L2, e1, e2, e3, e4⟩ := x
  refine ⟨b, h2, n2, L ++ L2, bind_run e e1, by omega, fun x hx => ?_, e4⟩
  rcases List.mem_append.1 hx with q | q
  · exact hw x q
  · exact e3 x q
theorem Run.unstep (e : m h n = some ⟨a, h1, n1, L⟩) (hn : n1 = n) (x : Run W n0 (m.bind k) h n Q) : Run W n0 (k a) h1 n1 Q := by
  obtain ⟨b, h2, n2, L2, e1, e2, e3, e4⟩ := x
  obtain ⟨a', h3, n3, L3, L4, e5, e6, rfl⟩ := bind_some e1
  rw [e] at e5
  simp only [Option.some.injEq, Out.mk.injEq] at e5
  obtain ⟨rfl, rfl, rfl, rfl⟩ := e5
  exact ⟨b, h2, n2, L4, e6, by omega, fun x hx => e3 x (List.mem_append.2 (.inr hx)), e4⟩
theorem Run.iff (e : m h n = some ⟨a, h1, n, L⟩) (hw : ∀ e ∈ L, e.wr = true → n0 ≤ e.b ∨ W e.b) : Run W n0 (m.bind k) h n Q ↔ Run W n0 (k a) h1 n Q :=
  ⟨Run.unstep e rfl, Run.step e (Nat.le_refl _) hw⟩
theorem Run.inside_ {Q' : α → H → Nat → Prop} (x : Run W n0 m h n Q') : Run W n0 (inside m) h n Q' := by
  obtain ⟨a, h1, n1, L, e1, e2, e3, e4⟩ := x
  exact ⟨a, h1, n1, _, inside_run e1, e2, fun e he => e3 e (List.mem_filter.1 he).1, e4⟩
end
section
variable {β : Type} {W : Nat → Prop} {n0 : Nat} {h h1 : H} {n n1 : Nat} {Q : β → H → Nat → Prop} {QV : Value → H → Nat → Prop}
theorem run_ret (a : β) : Run W n0 (M.ret a) h n Q ↔ Q a h n := by
  constructor
  · rintro ⟨b, h2, n2, L, e1, e2, e3, e4⟩
    obtain ⟨rfl, rfl, rfl, rfl⟩ := ret_run_inv e1
    exact e4
  · intro x
    exact ⟨a, h, n, [], rfl, Nat.le_refl _, fun e he => (nomatch he), x⟩
theorem run_out0 : Run W n0 (outK []) h n QV ↔ QV (.tuple #[]) h n := run_ret _
theorem run_out1 (v : Value) : Run W n0 (outK [v]) h n QV ↔ QV v h n := run_ret _
theorem run_out2 (v w : Value) : Run W n0 (outK [v, w]) h n QV ↔ QV (.tuple #[v, w]) h n := run_ret _
theorem run_out3 (v w u : Value) : Run W n0 (outK [v, w, u]) h n QV ↔ QV (.tuple #[v, w, u]) h n := run_ret _
theorem optK_some_eq {α : Type} (a : α) (k : α → M β) : optK (some a) k = k a := rfl
theorem run_if (b : Bool) (x y : M β) : Run W n0 (ifV (.bool b) x y) h n Q ↔ if b = true then Run W n0 x h n Q else Run W n0 y h n Q := by
  cases b
  · rw [if_neg Bool.false_ne_true]; exact Iff.rfl
  · rw [if_pos rfl]; exact Iff.rfl
theorem ifV_true (x y : M β) : ifV (.bool true) x y = x := rfl
theorem ifV_false (x y : M β) : ifV (.bool false) x y = y := rfl

theorem nil2_ptr (a : Addr) : nil2 (.pointer (some a)) = some (.pointer (some a)) := rfl
theorem bin2_plain {P : Program} {op : BinOp} {t : TypeId} {x y v : Value} (hn : isNilT P t = false) (hs : (scalar x && scalar y) = true) (hr : pureRun P (do pure (.value (← Go.binOp op t x y))) = some v) (hv : scalar v = true) : bin2 P op t x y = some v := by
  unfold bin2 binP plainS
  rw [hn, hs]
  simp only
  rw [hr]
  simp only [hv]
section
variable {P : Program} {t : TypeId} {k : IntKind} (hn : isNilT P t = false) (a b : Int)
include hn
theorem b_add : bin2 P .add t (.int k a) (.int k b) = some (.int k (k.wrap (a + b))) := bin2_plain hn rfl (by unfold Go.binOp; simp only [ne_eq, not_true_eq_false, if_false]; rfl) rfl
theorem b_sub : bin2 P .sub t (.int k a) (.int k b) = some (.int k (k.wrap (a - b))) := bin2_plain hn rfl (by unfold Go.binOp; simp only [ne_eq, not_true_eq_false, if_false]; rfl) rfl
theorem b_mul : bin2 P .mul t (.int k a) (.int k b) = some (.int k (k.wrap (a * b))) := bin2_plain hn rfl (by unfold Go.binOp; simp only [ne_eq, not_true_eq_false, if_false]; rfl) rfl
theorem b_quo (h0 : b ≠ 0) : bin2 P .quo t (.int k a) (.int k b) = some (.int k (k.wrap (a.tdiv b))) := bin2_plain hn rfl (by unfold Go.binOp Op.intDiv; simp only [ne_eq, not_true_eq_false, if_false, h0]; rfl) rfl
theorem b_rem (h0 : b ≠ 0) : bin2 P .rem t (.int k a) (.int k b) = some (.int k (a.tmod b)) := bin2_plain hn rfl (by unfold Go.binOp Op.intDiv; simp only [ne_eq, not_true_eq_false, if_false, h0]; rfl) rfl
theorem b_eql : bin2 P .eql t (.int k a) (.int k b) = some (.bool (a == b)) := bin2_plain hn rfl (by unfold Go.binOp; simp only [ne_eq, not_true_eq_false, if_false]; rfl) rfl
theorem b_neq : bin2 P .neq t (.int k a) (.int k b) = some (.bool (a != b)) := bin2_plain hn rfl (by unfold Go.binOp; simp only [ne_eq, not_true_eq_false, if_false]; rfl) rfl
theorem b_lss : bin2 P .lss t (.int k a) (.int k b) = some (.bool (decide (a < b))) := bin2_plain hn rfl (by unfold Go.binOp; simp only [ne_eq, not_true_eq_false, if_false]; rfl) rfl
theorem b_leq : bin2 P .leq t (.int k a) (.int k b) = some (.bool (decide (a ≤ b))) := bin2_plain hn rfl (by unfold Go.binOp; simp only [ne_eq, not_true_eq_false, if_false]; rfl) rfl
theorem b_gtr : bin2 P .gtr t (.int k a) (.int k b) = some (.bool (decide (b < a))) := bin2_plain hn rfl (by unfold Go.binOp; simp only [ne_eq, not_true_eq_false, if_false]; rfl) rfl
theorem b_geq : bin2 P .geq t (.int k a) (.int k b) = some (.bool (decide (b ≤ a))) := bin2_plain hn rfl (by unfold Go.binOp; simp only [ne_eq, not_true_eq_false, if_false]; rfl) rfl
theorem b_shl {k' : IntKind} (h0 : 0 ≤ b) : bin2 P .shl t (.int k a) (.int k' b) = some (.int k (k.wrap (a * 2 ^ (min b.toNat k.bits)))) := bin2_plain hn rfl (by unfold Go.binOp Op.shift; simp only [show ¬ b < 0 by omega, if_false]; rfl) rfl
theorem b_shr {k' : IntKind} (h0 : 0 ≤ b) : bin2 P .shr t (.int k a) (.int k' b) = some (.int k (a.fdiv (2 ^ (min b.toNat k.bits)))) := bin2_plain hn rfl (by unfold Go.binOp Op.shift; simp only [show ¬ b < 0 by omega, if_false]; rfl) rfl
theorem b_and : bin2 P .and t (.int k a) (.int k b) = some (.int k (k.wrap (BitVec.ofInt k.bits a &&& BitVec.ofInt k.bits b).toNat)) := bin2_plain hn rfl (by unfold Go.binOp; simp only [ne_eq, not_true_eq_false, if_false]; rfl) rfl
theorem b_or : bin2 P .or t (.int k a) (.int k b) = some (.int k (k.wrap (BitVec.ofInt k.bits a ||| BitVec.ofInt k.bits b).toNat)) := bin2_plain hn rfl (by unfold Go.binOp; simp only [ne_eq, not_true_eq_false, if_false]; rfl) rfl
theorem b_xor : bin2 P .xor t (.int k a) (.int k b) = some (.int k (k.wrap (BitVec.ofInt k.bits a ^^^ BitVec.ofInt k.bits b).toNat)) := bin2_plain hn rfl (by unfold Go.binOp; simp only [ne_eq, not_true_eq_false, if_false]; rfl) rfl
end
theorem u_not {P : Program} (b : Bool) : un2 P .not (.bool b) = some (.bool (!b)) := rfl
theorem u_neg {P : Program} (k : IntKind) (n : Int) : un2 P .neg (.int k n) = some (.int k (k.wrap (0 - n))) := rfl
theorem min2_eq (k k' : IntKind) (a b : Int) : min2 [.int k a, .int k' b] = some (.int k (if b < a then b else a)) := rfl
theorem max2_eq (k k' : IntKind) (a b : Int) : max2 [.int k a, .int k' b] = some (.int k (if a < b then b else a)) := rfl
theorem pick2_eq (b : Bool) (x y : Value) : pick2 (.bool b) x y = some (if b = true then x else y) := by cases b <;> rfl
theorem wrap_id {x : Int} (h0 : -9223372036854775808 ≤ x) (h1 : x ≤ 9223372036854775807) : IntKind.i64.wrap x = x := IntWalk.i64_in x (by omega)
theorem len_slice {P : Program} {t e : TypeId} (h : P.underlying t = some (.slice e)) (a : Option Addr) (n c : Nat) : len2 P #[t] [.slice a n c] = some (.int .i64 n) := by
  unfold len2
  simp [h, lenS]
theorem len_str {P : Program} {t : TypeId} (h : P.underlying t = some .string) (s : ByteArray) : len2 P #[t] [.string s] = some (.int .i64 s.size) := by
  unfold len2
  simp [h, lenT]
theorem ix_slice {P : Program} {t e : TypeId} {sz : Nat} (h : P.underlying t = some (.slice e)) (hs : size? P e = some sz) (b off n c : Nat) (k : IntKind) (i : Int) (h0 : 0 ≤ i) (h1 : i < n) : evIndexAddr P t (.slice (some ⟨b, off, none⟩) n c) (.int k i) = some (.pointer (some ⟨b, off + i.toNat * sz, none⟩)) := by
  unfold evIndexAddr
  simp only [h, hs, h0, h1, and_self, if_true]
theorem ix_arr {P : Program} {t e : TypeId} {sz n : Nat} (h : P.underlying t = some (.array n e)) (hs : size? P e = some sz) (b off : Nat) (k : IntKind) (i : Int) (h0 : 0 ≤ i) (h1 : i < n) : evIndexAddr P t (.pointer (some ⟨b, off, none⟩)) (.int k i) = some (.pointer (some ⟨b, off + i.toNat * sz, none⟩)) := by
  unfold evIndexAddr
  simp only [h, hs, h0, h1, and_self, if_true]

theorem get_eq (h : H) (i : Nat) (x : Option AB) : (h.set i x).get i = x := by rw [H.get_set, if_pos rfl]
theorem get_ne (h : H) {i j : Nat} (x : Option AB) (e : j ≠ i) : (h.set i x).get j = h.get j := by rw [H.get_set, if_neg e]
theorem inside_ro {α : Type} {m : M α} {h h1 : H} {n n1 : Nat} {a : α} {L : List En} (e : m h n = some ⟨a, h1, n1, L⟩) (hw : ∀ e ∈ L, e.wr = false) : ∃ L', inside m h n = some ⟨a, h1, n1, L'⟩ ∧ ∀ e ∈ L', e.wr = true → n0 ≤ e.b ∨ W e.b :=
  ⟨_, inside_run e, fun x hx hx2 => by rw [hw x (List.mem_filter.1 hx).1] at hx2; cases hx2⟩
theorem run_st {P : Program} {t : TypeId} (hs : size? P t = some 1) (b off : Nat) (v : Value) (k : Value → M β) {e : TypeId} {cs : List Value} (hg : h.get b = some ⟨e, true, cs⟩) (hb : b < n) (ho : off < cs.length) (h1 : one v = true) (hw : n0 ≤ b ∨ W b) (x : Run W n0 (k undef) (h.set b (some ⟨e, true, cs.set off v⟩)) n Q) :
    Run W n0 ((inside (evStore P t (.pointer (some ⟨b, off, none⟩)) v)).bind k) h n Q := by
  have hc : v.cells = #[v] := by cases v <;> first | rfl | (simp [one] at h1)
  have hwr : wr b off v h n = some ⟨(), h.set b (some ⟨e, true, cs.set off v⟩), n, [⟨false, b, some off⟩, ⟨true, b, some off⟩]⟩ := by
    unfold wr
    simp [hb, hg, ho, h1]
  have e : evStore P t (.pointer (some ⟨b, off, none⟩)) v h n = some ⟨undef, h.set b (some ⟨e, true, cs.set off v⟩), n, [⟨false, b, some off⟩, ⟨true, b, some off⟩]⟩ := by
    unfold evStore
    simp only [hs, hc]
    show ((wrN b off [v]).bind fun _ => M.ret undef) h n = _
    unfold wrN
    have := bind_run (f := fun _ => wrN b (off + 1) []) hwr (L2 := []) (b := ()) (h2 := h.set b (some ⟨e, true, cs.set off v⟩)) (n2 := n) rfl
    have := bind_run (f := fun _ => M.ret undef) this (L2 := []) (b := undef) (h2 := h.set b (some ⟨e, true, cs.set off v⟩)) (n2 := n) rfl
    simpa using this
  refine Run.step (inside_run e) (Nat.le_refl _) (fun x hx hx2 => ?_) x
  have hx := (List.mem_filter.1 hx).1
  simp at hx
  rcases hx with rfl | rfl <;> exact hw
theorem newB_run (e : TypeId) (cs : List Value) (h : H) (n : Nat) : newB e cs h n = some ⟨n, h.set n (some ⟨e, true, cs⟩), n + 1, []⟩ := by
  unfold newB
  rw [if_pos (Nat.lt_succ_self n)]
theorem run_new {α : Type} {m : M α} {a : α} {k : α → M β} {h1 : H} {n1 : Nat} (e : m h n = some ⟨a, h1, n1, []⟩) (hn : n ≤ n1) (x : Run W n0 (k a) h1 n1 Q) : Run W n0 ((inside m).bind k) h n Q :=
  Run.step (inside_run e) hn (fun x hx => by simp at hx) x
theorem run_box {P : Program} {t : TypeId} {sz : Nat} (hs : size? P t = some sz) (v : Value) (k : Value → M β) (x : Run W n0 (k (.pointer (some ⟨n, 0, none⟩))) (h.set n (some ⟨t, true, v.cells.toList⟩)) (n + 1) Q) : Run W n0 ((inside (evBox P t v)).bind k) h n Q := by
  refine run_new (a := .pointer (some ⟨n, 0, none⟩)) ?_ (Nat.le_succ n) x
  unfold evBox
  simp only [hs]
  exact bind_run (newB_run _ _ _ _) rfl
theorem run_alloc {P : Program} {t : TypeId} {z : Value} (hz : zero? P t = some z) (k : Value → M β) (x : Run W n0 (k (.pointer (some ⟨n, 0, none⟩))) (h.set n (some ⟨t, true, z.cells.toList⟩)) (n + 1) Q) : Run W n0 ((inside (evAlloc P t)).bind k) h n Q := by
  refine run_new (a := .pointer (some ⟨n, 0, none⟩)) ?_ (Nat.le_succ n) x
  unfold evAlloc
  simp only [hz]
  exact bind_run (newB_run _ _ _ _) rfl
/-- what one knows of a type whose values are single cells -/
structure Cell1 (P : Program) (t e : TypeId) (z : Value) : Prop where
  und : P.underlying t = some (.slice e)
  info : ∃ i, P.info? e = some i ∧ i.size = 1 ∧ i.bytes ≤ 64
  zero : zero? P e = some z
  one : z.cells = #[z]
theorem Cell1.size {P : Program} {t e : TypeId} {z : Value} (c : Cell1 P t e z) : size? P e = some 1 := by
  obtain ⟨i, h1, h2, _⟩ := c.info
  unfold size?
  rw [h1]
  simp [h2]
theorem zeros_one {z : Value} (hz : z.cells = #[z]) (n : Nat) : (zeros z n).toList = List.replicate n z := by
  unfold zeros
  rw [hz]
  apply List.ext_getElem
  · simp
  · intro i h1 h2
    simp [Nat.mod_one]
theorem run_make {P : Program} {t e : TypeId} {z : Value} (c : Cell1 P t e z) (l m : Nat) (k : Value → M β) {kd kd' : IntKind} (hl : l ≤ m) (hm : m ≤ 1099511627776) (x : Run W n0 (k (.slice (some ⟨n, 0, none⟩) l m)) (h.set n (some ⟨e, true, List.replicate m z⟩)) (n + 1) Q) : Run W n0 ((inside (evMakeSlice P t (.int kd l) (.int kd' m))).bind k) h n Q := by
  obtain ⟨i, h1, h2, h3⟩ := c.info
  refine run_new (a := .slice (some ⟨n, 0, none⟩) l m) ?_ (Nat.le_succ n) x
  unfold evMakeSlice
  simp only [c.und, h1, c.zero]
  have hm' : (m : Int) ≤ 1099511627776 := by omega
  have hlm : (l : Int) ≤ (m : Int) := by omega
  rw [if_pos (by simp [h2, h3, c.one, hm', hlm])]
  simp only [Int.toNat_natCast, h2, Nat.mul_one, zeros_one c.one]
  exact bind_run (newB_run _ _ _ _) rfl
theorem fill_one {P : Program} {z v : Value} (h1 : one v = true) (h2 : z.cells = #[z]) : Instr.fill (fun i => some (i * 1, 1)) (zeros z (1 * 1)) [(0, v)] = some #[v] := by
  have hc : v.cells = #[v] := by cases v <;> first | rfl | (simp [one] at h1)
  have : zeros z (1 * 1) = #[z] := by
    apply Array.ext'
    rw [zeros_one h2]
    rfl
  rw [this]
  unfold Instr.fill Instr.fill
  simp [hc]
theorem run_lit1 {P : Program} {t e : TypeId} {z : Value} (c : Cell1 P t e z) {v : Value} (h1 : one v = true) (k : Value → M β) (x : Run W n0 (k (.slice (some ⟨n, 0, none⟩) 1 1)) (h.set n (some ⟨e, true, [v]⟩)) (n + 1) Q) : Run W n0 ((inside (evBuildSlice P t 1 [(0, v)])).bind k) h n Q := by
  refine run_new (a := .slice (some ⟨n, 0, none⟩) 1 1) ?_ (Nat.le_succ n) x
  unfold evBuildSlice
  simp only [c.und, c.size, c.zero]
  rw [if_neg (by simp), if_pos (by simp), fill_one (P := P) h1 c.one]
  exact bind_run (newB_run _ _ _ _) rfl
end

end Go.Proofs.YthhhkplbjcknkaaGreatDoor.Ev

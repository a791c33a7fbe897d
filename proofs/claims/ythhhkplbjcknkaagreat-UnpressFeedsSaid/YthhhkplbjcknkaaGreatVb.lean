/- Layer 25: the digits of a number. -/
import Derived.Test.YthhhkplbjcknkaaGreatVa
import Derived.Test.YthhhkplbjcknkaaGreatUc
namespace Go.Proofs.YthhhkplbjcknkaaGreat
set_option linter.unusedVariables false
set_option linter.unusedSimpArgs false
open Go.RowKit Ev

/-! rules for a row of one byte -/
section
variable {β : Type} {W : Nat → Prop} {n0 : Nat} {h : H} {n : Nat} {Q : β → H → Nat → Prop}
theorem lit1_eq {P : Program} {t e : TypeId} {z : Value} (c : Cell1 P t e z) {v : Value} (hv : one v = true) (h : H) (n : Nat) : evBuildSlice P t 1 [(0, v)] h n = some ⟨.slice (some ⟨n, 0, none⟩) 1 1, h.set n (some ⟨e, true, [v]⟩), n + 1, []⟩ := by
  have hc : v.cells = #[v] := by cases v <;> first | rfl | (simp [one] at hv)
  have hz : zeros z (1 * 1) = #[z] := by
    apply Array.ext'
    rw [zeros_one c.one]
    rfl
  have hf : Instr.fill (fun i => some (i * 1, 1)) (zeros z (1 * 1)) [(0, v)] = some #[v] := by
    rw [hz]
    unfold Instr.fill
    simp only [hc]
    rfl
  unfold evBuildSlice
  simp only [c.und, c.size, c.zero]
  rw [if_neg (by simp), if_pos (by simp), hf]
  exact bind_run (newB_run _ _ _ _) rfl
theorem timed_lit1 {P : Program} {t e : TypeId} {z : Value} (c : Cell1 P t e z) {v : Value} (hv : one v = true) (k : Value × Tk → M β) (x : Run W n0 (k (.slice (some ⟨n, 0, none⟩) 1 1, ⟨n, n + 1, []⟩)) (h.set n (some ⟨e, true, [v]⟩)) (n + 1) Q) : Run W n0 ((timed ((inside (evBuildSlice P t 1 [(0, v)])).bind fun v => M.ret v)).bind k) h n Q :=
  timed_step (ret_tail (inside_run (lit1_eq c hv h n))) (Nat.le_succ n) (by simp) x
theorem run_lit1 {P : Program} {t e : TypeId} {z : Value} (c : Cell1 P t e z) {v : Value} (hv : one v = true) (k : Value → M β) (x : Run W n0 (k (.slice (some ⟨n, 0, none⟩) 1 1)) (h.set n (some ⟨e, true, [v]⟩)) (n + 1) Q) : Run W n0 ((inside (evBuildSlice P t 1 [(0, v)])).bind k) h n Q :=
  run_new (lit1_eq c hv h n) (Nat.le_succ n) x
theorem str1_eq {b : Nat} {e : TypeId} {x : Int} (hg : h.get b = some ⟨e, true, [.int .u8 x]⟩) (hb : b < n) (cp : Nat) : evToStr (.slice (some ⟨b, 0, none⟩) 1 cp) h n = some ⟨.string ⟨[UInt8.ofNat x.toNat].toArray⟩, h, n, [⟨false, b, some 0⟩]⟩ := by
  have e0 : rd b 0 h n = some ⟨.int .u8 x, h, n, [⟨false, b, some 0⟩]⟩ := by
    unfold rd
    simp only [hb, hg, if_true]
    rfl
  have e1 : rdN b 0 1 h n = some ⟨[.int .u8 x], h, n, [⟨false, b, some 0⟩]⟩ := by
    unfold rdN
    have := bind_run (f := fun v => (rdN b (0 + 1) 0).bind fun vs => M.ret (v :: vs)) e0 (L2 := []) (b := [.int .u8 x]) (h2 := h) (n2 := n) rfl
    simpa using this
  have hh : ∀ f : List Value → M Value, f [.int .u8 x] h n = some ⟨.string ⟨[UInt8.ofNat x.toNat].toArray⟩, h, n, []⟩ → (rdN b 0 1).bind f h n = some ⟨.string ⟨[UInt8.ofNat x.toNat].toArray⟩, h, n, [⟨false, b, some 0⟩]⟩ := fun f hf => by
    have := bind_run e1 hf
    simpa using this
  unfold evToStr
  exact hh _ rfl
theorem run_str1 {b : Nat} {e : TypeId} {x : Int} (hg : h.get b = some ⟨e, true, [.int .u8 x]⟩) (hb : b < n) (cp : Nat) (k : Value → M β) (y : Run W n0 (k (.string ⟨[UInt8.ofNat x.toNat].toArray⟩)) h n Q) : Run W n0 ((inside (evToStr (.slice (some ⟨b, 0, none⟩) 1 cp))).bind k) h n Q := by
  obtain ⟨L', e3, e4⟩ := inside_ro (W := W) (n0 := n0) (str1_eq hg hb cp) (by simp)
  exact Run.step e3 (Nat.le_refl _) e4 y
theorem timed_str1 {b : Nat} {e : TypeId} {x : Int} (hg : h.get b = some ⟨e, true, [.int .u8 x]⟩) (hb : b < n) (cp : Nat) (k : Value × Tk → M β) (y : Run W n0 (k (.string ⟨[UInt8.ofNat x.toNat].toArray⟩, ⟨n, n, [⟨false, b, some 0⟩]⟩)) h n Q) : Run W n0 ((timed ((inside (evToStr (.slice (some ⟨b, 0, none⟩) 1 cp))).bind fun v => M.ret v)).bind k) h n Q := by
  have e2 := inside_run (str1_eq hg hb cp)
  have hf : [(⟨false, b, some 0⟩ : En)].filter (fun e => !(decide (n ≤ e.b) && decide (e.b < n))) = [⟨false, b, some 0⟩] := by
    simp; omega
  rw [hf] at e2
  exact timed_step (ret_tail e2) (Nat.le_refl _) (by simp) y
theorem timed_ret (v : Value) (k : Value × Tk → M β) (y : Run W n0 (k (v, ⟨n, n, []⟩)) h n Q) : Run W n0 ((timed (M.ret v)).bind k) h n Q :=
  timed_step (L := []) rfl (Nat.le_refl _) (by simp) y
end
theorem clash_far {a b : Tk} (h1 : ∀ e ∈ a.log, e.wr = false) (h2 : ∀ e ∈ b.log, e.wr = false) (h3 : ∀ e ∈ a.log, e.b < b.n) (h4 : ∀ e ∈ b.log, a.n1 ≤ e.b) : a.clash b = false := by
  unfold Tk.clash
  simp only [Bool.or_eq_false_iff, List.any_eq_false, Bool.and_eq_true, decide_eq_true_eq, not_and]
  refine ⟨⟨⟨fun x hx hw => ?_, fun x hx hw => ?_⟩, fun x hx hle => ?_⟩, fun x hx _ => ?_⟩
  · rw [h1 x hx] at hw; cases hw
  · rw [h2 x hx] at hw; cases hw
  · have := h3 x hx; omega
  · have := h4 x hx; omega

/-! the digits -/
def digs : Nat → Nat → List Nat
  | 0, _ => []
  | k + 1, n => if n < 10 then [n] else digs k (n / 10) ++ [n % 10]
def pre : Nat → Nat → List Nat
  | 0, _ => []
  | k + 1, n => if n < 10 then [] else pre k (n / 10) ++ [n / 10 % 10]
theorem digs_pre : ∀ (k n : Nat), n < 10 ^ (k + 1) → digs (k + 1) n = pre (k + 1) n ++ [n % 10]
  | 0, n, h => by
    have h : n < 10 := by simpa using h
    unfold digs pre
    simp only [h, if_true, List.nil_append]
    rw [Nat.mod_eq_of_lt h]
  | k + 1, n, h => by
    unfold digs pre
    by_cases h1 : n < 10
    · simp only [h1, if_true, List.nil_append]
      rw [Nat.mod_eq_of_lt h1]
    · simp only [h1, if_false]
      rw [digs_pre k (n / 10) (by rw [Nat.pow_succ] at h; omega)]
theorem digs_lt : ∀ (k n : Nat), ∀ x ∈ digs k n, x < 10
  | 0, _, x, h => by cases h
  | k + 1, n, x, h => by
    unfold digs at h
    by_cases h1 : n < 10
    · rw [if_pos h1] at h
      have := List.mem_singleton.1 h
      omega
    · rw [if_neg h1] at h
      rcases List.mem_append.1 h with h | h
      · exact digs_lt k _ x h
      · have := List.mem_singleton.1 h
        omega
theorem digs_len : ∀ (k n : Nat), (digs k n).length ≤ k
  | 0, _ => Nat.le_refl _
  | k + 1, n => by
    unfold digs
    by_cases h1 : n < 10
    · rw [if_pos h1]; simp
    · rw [if_neg h1]
      have := digs_len k (n / 10)
      simp; omega
def byD (x : Nat) : UInt8 := UInt8.ofNat (48 + x)
def ceD (x : Nat) : Value := .int .u8 ((48 + x : Nat) : Int)
def strD (l : List Nat) : Value := .string ⟨(l.map byD).toArray⟩
/-- blocks of one byte each, made one behind the other -/
def gar (e : TypeId) : H → Nat → List Value → H
  | h, _, [] => h
  | h, n, v :: r => gar e (h.set n (some ⟨e, true, [v]⟩)) (n + 1) r
theorem gar_app (e : TypeId) (v : Value) : ∀ (l : List Value) (h : H) (n : Nat), gar e h n (l ++ [v]) = (gar e h n l).set (n + l.length) (some ⟨e, true, [v]⟩)
  | [], h, n => rfl
  | a :: l, h, n => by
    show gar e (h.set n _) (n + 1) (l ++ [v]) = _
    rw [gar_app e v l]
    show _ = (gar e (h.set n _) (n + 1) l).set _ _
    congr 1
    simp; omega
theorem wrapU {x : Nat} (h : x < 256) : IntKind.u8.wrap (x : Int) = (x : Int) := by
  unfold IntKind.wrap
  simp only [IntKind.bits, IntKind.signed, Bool.false_and, Bool.false_eq_true, if_false]
  omega

end Go.Proofs.YthhhkplbjcknkaaGreat

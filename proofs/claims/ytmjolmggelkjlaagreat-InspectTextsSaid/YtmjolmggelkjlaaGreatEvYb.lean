/- Storing values of several cells; calls that are taken in; readings that do not touch one another. No program in sight. -/
import Derived.Test.YtmjolmggelkjlaaGreatEvYa
namespace Go.Proofs.YtmjolmggelkjlaaGreat.Ev
set_option linter.unusedVariables false
set_option linter.unusedSimpArgs false
open Go Go.RowKit
section
variable {β : Type} {W : Nat → Prop} {n0 : Nat} {h : H} {n : Nat} {Q : β → H → Nat → Prop} {P : Program}
theorem run_lda0 {T T' : Prop} (_ : T) (_ : T') {sz : Nat} (b off : Nat) (k : Value → M β) {B : AB} (hg : h.get b = some B) (hb : b < n) (hl : off + sz ≤ B.cells.length) (x : Run W n0 (k (.agg ((B.cells.drop off).take sz).toArray)) h n Q) : Run W n0 (klg sz (.pointer (some ⟨b, off, none⟩)) k) h n Q := run_klg b off k hg hb hl x
theorem run_ld0 {T : Prop} (_ : T) (b off : Nat) (k : Value → M β) {B : AB} (hg : h.get b = some B) (hb : b < n) {v : Value} (hv : B.cells[off]? = some v) (x : Run W n0 (k v) h n Q) : Run W n0 (kld (.pointer (some ⟨b, off, none⟩)) k) h n Q := by
  rw [kld_iff b off k hb, hg]
  show Run W n0 (optK B.cells[off]? k) h n Q
  rw [hv]
  exact x
/-- a call is taken in: what it does is walked where it stands -/
theorem run_inl {m : M Value} {b : M Value} {k : Value → M β} (e : m = inside b) (hn : n0 ≤ n) (x : Run W n0 b h n fun v h1 n1 => n ≤ n1 → Run W n0 (k v) h1 n1 Q) : Run W n0 (insB m k) h n Q := by
  subst e
  obtain ⟨v, h1, n1, L, e1, e2, e3, e4⟩ := x
  refine run_ins (Run.step (inside_run (inside_run e1)) e2 (fun y hy hy2 => ?_) (e4 e2))
  exact e3 y (List.mem_filter.1 (List.mem_filter.1 hy).1).1 hy2
theorem run_inl0 {m : M Value} {b : M Value} {k : Value → M β} (e : m = inside b) (hn : n0 ≤ n) (x : Run W n0 b h n fun v h1 n1 => Run W n0 (k v) h1 n1 Q) : Run W n0 (insB m k) h n Q :=
  run_inl e hn (x.mono fun _ _ _ _ q _ => q)
/-- two that only read what was there ahead of them do not clash -/
theorem clash_ro {a b : Tk} (h1 : ∀ e ∈ a.log, e.wr = false) (h2 : ∀ e ∈ b.log, e.wr = false) (h3 : ∀ e ∈ a.log, e.b < b.n) (h4 : ∀ e ∈ b.log, e.b < a.n) : a.clash b = false := by
  unfold Tk.clash
  simp only [Bool.or_eq_false_iff, List.any_eq_false, Bool.and_eq_true, decide_eq_true_eq, not_and]
  refine ⟨⟨⟨fun x hx hw => ?_, fun x hx hw => ?_⟩, fun x hx hle => ?_⟩, fun x hx hle => ?_⟩
  · rw [h1 x hx] at hw; cases hw
  · rw [h2 x hx] at hw; cases hw
  · have := h3 x hx; omega
  · have := h4 x hx; omega
/-- of a step of which one may want the order: that it reads, and what was there -/
structure RO (t : Tk) (n : Nat) : Prop where
  wr : ∀ e ∈ t.log, e.wr = false
  lt : ∀ e ∈ t.log, e.b < n
  n : t.n = n
theorem RO.clash {a b : Tk} {m : Nat} (x : RO a m) (y : RO b m) : clash3 a b = false := (clash3_eq a b).trans <| clash_ro x.wr y.wr (fun e he => by rw [y.n]; exact x.lt e he) (fun e he => by rw [x.n]; exact y.lt e he)
theorem timed_ld' {T : Prop} (c : T) (b off : Nat) (k : Value × Tk → M β) {B : AB} (hg : h.get b = some B) (hb : b < n) {v : Value} (hv : B.cells[off]? = some v) (x : ∀ T, RO T n → Run W n0 (k (v, T)) h n Q) : Run W n0 ((timed (kld (.pointer (some ⟨b, off, none⟩)) M.ret)).bind k) h n Q :=
  timed_ld c b off k hg hb hv (x _ ⟨by simp, by simpa using hb, rfl⟩)
theorem timed_same' {lf d : Nat} {gt : Nat → Hint} (hd : okDsts P = true) {f : FuncId} {vs : List Value} {v : Value} (s : Run (fun _ => False) n (evCall2 P gt lf d f ⟨vs⟩) h n fun v' h' n' => v' = v ∧ h' = h ∧ n' = n) (hn : n0 ≤ n) {k : Value × Tk → M β} (x : ∀ T, RO T n → Run W n0 (k (v, T)) h n Q) : Run W n0 ((timed (kcl (evCall2 P gt lf d) f vs M.ret)).bind k) h n Q := by
  refine timed_call hd s hn (fun _ _ h => h.elim) fun v' h' n' L _ _ hq hL hw => ?_
  obtain ⟨rfl, rfl, rfl⟩ := hq
  refine x _ ⟨fun e he => ?_, hL, rfl⟩
  cases hq : e.wr with
  | false => rfl
  | true => exact (hw e he hq).elim
end

end Go.Proofs.YtmjolmggelkjlaaGreat.Ev

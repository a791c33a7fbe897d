/- A slice of texts as an argument. No program in sight. -/
import Derived.Test.YthhhkplbjcknkaaGreatDoorEvZ
namespace Go.Proofs.YthhhkplbjcknkaaGreatDoor.Ev
set_option linter.unusedVariables false
set_option linter.unusedSimpArgs false
open Go Go.RowKit

def SRow (h : H) (n : Nat) (v : Value) (ss : List (List UInt8)) : Prop := ∃ a c, v = .slice a ss.length c ∧ ∀ i (hi : i < ss.length), ∃ b B, a = some ⟨b, 0, none⟩ ∧ h.get b = some B ∧ b < n ∧ B.cells[i]? = some (.string ⟨(ss[i]).toArray⟩)
theorem rep_strs {P : Program} {h : H} {n f : Nat} {t e : TypeId} {v : Value} (hu : P.underlying t = some (.slice e)) (he : P.underlying e = some .string) (hce : cellTs P 8 e = some [e]) (x : RepH1 P h n (f + 2) t v) : ∃ ss, SRow h n v ss ∧ (∀ s ∈ ss, s.length ≤ maxLen) ∧ ss.length ≤ maxLen := by
  unfold RepH1 at x
  rw [hu] at x
  rcases x with ⟨a, rfl, _⟩ | ⟨b, len, ts, cs, rfl, ht, h0, hg, hb, hl, hm, hall⟩
  · exact ⟨[], ⟨a, 0, rfl, fun i hi => absurd hi (by simp)⟩, by simp, Nat.zero_le _⟩
  · rw [hce] at ht
    cases ht
    have hl : cs.length = len := by simpa using hl
    have hat : ∀ i, i < len → ∃ l : List UInt8, cs[i]? = some (.string ⟨l.toArray⟩) ∧ l.length ≤ maxLen := by
      intro i hi
      have q := hall i hi
      have e1 : (cs.drop (i * [e].length)).take [e].length = [cs[i]] := by
        simp only [List.length_cons, List.length_nil, Nat.zero_add, Nat.mul_one]
        rw [List.drop_eq_getElem_cons (by omega), List.take_succ_cons, List.take_zero]
      rw [e1] at q
      obtain ⟨l, h1, h2⟩ := rep_str he q.1
      exact ⟨l, by rw [List.getElem?_eq_getElem (by omega), h1], h2⟩
    let g : Value → List UInt8 := fun v => match v with
      | .string s => s.data.toList
      | _ => []
    have hget : ∀ i (hi : i < (cs.map g).length), cs[i]? = some (.string ⟨((cs.map g)[i]).toArray⟩) ∧ ((cs.map g)[i]).length ≤ maxLen := by
      intro i hi
      rw [List.length_map] at hi
      obtain ⟨l, h1, h2⟩ := hat i (by omega)
      have h3 : cs[i] = .string ⟨l.toArray⟩ := by
        rw [List.getElem?_eq_getElem hi] at h1
        exact Option.some.inj h1
      have h4 : (cs.map g)[i] = l := by
        rw [List.getElem_map, h3]
      rw [h4]
      exact ⟨h1, h2⟩
    refine ⟨cs.map g, ⟨some ⟨b, 0, none⟩, CAP + len, by rw [List.length_map, hl], fun i hi => ⟨b, _, rfl, hg, hb, (hget i hi).1⟩⟩, fun s hs => ?_, by rw [List.length_map, hl]; exact hm⟩
    obtain ⟨i, hi, rfl⟩ := List.mem_iff_getElem.1 hs
    exact (hget i hi).2
theorem SRow.keep {h h' : H} {n n' : Nat} {v : Value} {ss : List (List UInt8)} (r : SRow h n v ss) (hn : n ≤ n') (hk : ∀ b, b < n → h'.get b = h.get b) : SRow h' n' v ss := by
  obtain ⟨a, c, rfl, q⟩ := r
  refine ⟨a, c, rfl, fun i hi => ?_⟩
  obtain ⟨b, B, ha, hg, hb, hc⟩ := q i hi
  exact ⟨b, B, ha, (hk b hb).trans hg, by omega, hc⟩

end Go.Proofs.YthhhkplbjcknkaaGreatDoor.Ev
/- Storing values of several cells; calls that are taken in; readings that do not touch one another. No program in sight. -/
namespace Go.Proofs.YthhhkplbjcknkaaGreatDoor.Ev
set_option linter.unusedVariables false
set_option linter.unusedSimpArgs false
open Go Go.RowKit
section
variable {β : Type} {W : Nat → Prop} {n0 : Nat} {h : H} {n : Nat} {Q : β → H → Nat → Prop} {P : Program}
theorem wrN_run : ∀ (vs : List Value) (b off : Nat) (e : TypeId) (cs : List Value) (h : H) (n : Nat), h.get b = some ⟨e, true, cs⟩ → b < n → off + vs.length ≤ cs.length → vs.all one = true →
    ∃ h' L, wrN b off vs h n = some ⟨(), h', n, L⟩ ∧ h'.get b = some ⟨e, true, cs.take off ++ vs ++ cs.drop (off + vs.length)⟩ ∧ (∀ c, c ≠ b → h'.get c = h.get c) ∧ ∀ x ∈ L, x.b = b
  | [], b, off, e, cs, h, n, hg, hb, hl, _ => ⟨h, [], rfl, by simpa using hg, fun _ _ => rfl, by simp⟩
  | v :: vs, b, off, e, cs, h, n, hg, hb, hl, h1 => by
    simp only [List.all_cons, Bool.and_eq_true] at h1
    simp only [List.length_cons] at hl
    have hw : wr b off v h n = some ⟨(), h.set b (some ⟨e, true, cs.set off v⟩), n, [⟨false, b, some off⟩, ⟨true, b, some off⟩]⟩ := by
      unfold wr
      have : off < cs.length := by omega
      simp [hb, hg, this, h1.1]
    obtain ⟨h', L, e1, e2, e3, e4⟩ := wrN_run vs b (off + 1) e (cs.set off v) (h.set b (some ⟨e, true, cs.set off v⟩)) n (get_eq _ _ _) hb (by simp; omega) h1.2
    refine ⟨h', _, bind_run hw e1, ?_, fun c hc => (e3 c hc).trans (get_ne _ _ hc), fun x hx => ?_⟩
    · rw [e2]
      congr 2
      have ha : (cs.set off v).take (off + 1) = cs.take off ++ [v] := by
        rw [List.take_set, List.take_succ_eq_append_getElem (by omega), List.set_append_right _ _ (by simp; omega)]
        simp [Nat.min_eq_left (show off ≤ cs.length by omega)]
      have hd : (cs.set off v).drop (off + 1 + vs.length) = cs.drop (off + (v :: vs).length) := by
        rw [List.drop_set_of_lt (by omega)]
        congr 1
        simp only [List.length_cons]; omega
      rw [ha, hd]
      simp
    · rcases List.mem_append.1 hx with q | q
      · simp at q; rcases q with rfl | rfl <;> rfl
      · exact e4 x q
/-- a value of several cells is stored -/
theorem run_sta {t : TypeId} {sz : Nat} (hs : size? P t = some sz) {b off : Nat} {e : TypeId} {cs vs : List Value} {v : Value} (hv : v.cells.toList = vs) (hl : vs.length = sz) (h1 : vs.all one = true) (hg : h.get b = some ⟨e, true, cs⟩) (hb : b < n) (ho : off + sz ≤ cs.length) (hw : n0 ≤ b ∨ W b) (k : Value → M β)
    (x : ∀ h', h'.get b = some ⟨e, true, cs.take off ++ vs ++ cs.drop (off + sz)⟩ → (∀ c, c ≠ b → h'.get c = h.get c) → Run W n0 (k undef) h' n Q) : Run W n0 ((inside (evStore P t (.pointer (some ⟨b, off, none⟩)) v)).bind k) h n Q := by
  obtain ⟨h', L, e1, e2, e3, e4⟩ := wrN_run vs b off e cs h n hg hb (by omega) h1
  have e5 : evStore P t (.pointer (some ⟨b, off, none⟩)) v h n = some ⟨undef, h', n, L ++ []⟩ := by
    unfold evStore
    have hc : v.cells.size = sz := by rw [← hl, ← hv, Array.length_toList]
    simp only [hs, hc, if_true, hv]
    exact bind_run e1 rfl
  refine Run.step (inside_run e5) (Nat.le_refl _) (fun y hy hy2 => ?_) (x h' (by rw [e2, hl]) e3)
  have := (List.mem_filter.1 hy).1
  rw [List.append_nil] at this
  rw [e4 y this]
  exact hw
theorem run_lda0 {t : TypeId} {sz : Nat} (ha : agg? P t = some true) (hs : size? P t = some sz) (b off : Nat) (k : Value → M β) {B : AB} (hg : h.get b = some B) (hb : b < n) (hl : off + sz ≤ B.cells.length) (x : Run W n0 (k (.agg ((B.cells.drop off).take sz).toArray)) h n Q) : Run W n0 ((evLoad P t (.pointer (some ⟨b, off, none⟩))).bind k) h n Q := by
  obtain ⟨L, e1, e2⟩ := rdN_run hg hb sz off hl
  have e : evLoad P t (.pointer (some ⟨b, off, none⟩)) h n = some ⟨.agg ((B.cells.drop off).take sz).toArray, h, n, L ++ []⟩ := by
    unfold evLoad
    simp only [ha, hs]
    exact bind_run e1 rfl
  exact Run.step e (Nat.le_refl _) (fun y hy hw => by rw [List.append_nil] at hy; rw [e2 y hy] at hw; cases hw) x
/-- a call is taken in: what it does is walked where it stands -/
theorem run_inl {m : M Value} {b : M Value} {k : Value → M β} (e : m = inside b) (hn : n0 ≤ n) (x : Run W n0 b h n fun v h1 n1 => n ≤ n1 → Run W n0 (k v) h1 n1 Q) : Run W n0 ((inside m).bind k) h n Q := by
  subst e
  obtain ⟨v, h1, n1, L, e1, e2, e3, e4⟩ := x
  refine Run.step (inside_run (inside_run e1)) e2 (fun y hy hy2 => ?_) (e4 e2)
  exact e3 y (List.mem_filter.1 (List.mem_filter.1 hy).1).1 hy2
/-- two that only read what was there ahead of them do not clash -/
theorem clash_ro {a b : Tk} (h1 : ∀ e ∈ a.log, e.wr = false) (h2 : ∀ e ∈ b.log, e.wr = false) (h3 : ∀ e ∈ a.log, e.b < b.n) (h4 : ∀ e ∈ b.log, e.b < a.n) : a.clash b = false := by
  unfold Tk.clash
  simp only [Bool.or_eq_false_iff, List.any_eq_false, Bool.and_eq_true, decide_eq_true_eq, not_and]
  refine ⟨⟨⟨fun x hx hw => ?_, fun x hx hw => ?_⟩, fun x hx hle => ?_⟩, fun x hx hle => ?_⟩
  · rw [h1 x hx] at hw; cases hw
  · rw [h2 x hx] at hw; cases hw
  · have := h3 x hx; omega
  · have := h4 x hx; omega
/-- of a step of which one may want the order: that it reads, and what was there -/
structure RO (t : Tk) (n : Nat) : Prop where
  wr : ∀ e ∈ t.log, e.wr = false
  lt : ∀ e ∈ t.log, e.b < n
  n : t.n = n
theorem RO.clash {a b : Tk} {m : Nat} (x : RO a m) (y : RO b m) : Tk.clash a b = false := clash_ro x.wr y.wr (fun e he => by rw [y.n]; exact x.lt e he) (fun e he => by rw [x.n]; exact y.lt e he)
theorem timed_ld' {t : TypeId} (ha : agg? P t = some false) (b off : Nat) (k : Value × Tk → M β) {B : AB} (hg : h.get b = some B) (hb : b < n) {v : Value} (hv : B.cells[off]? = some v) (x : ∀ T, RO T n → Run W n0 (k (v, T)) h n Q) : Run W n0 ((timed ((inside (evLoad P t (.pointer (some ⟨b, off, none⟩)))).bind fun v => M.ret v)).bind k) h n Q :=
  timed_ld ha b off k hg hb hv (x _ ⟨by simp, by simpa using hb, rfl⟩)
end

end Go.Proofs.YthhhkplbjcknkaaGreatDoor.Ev

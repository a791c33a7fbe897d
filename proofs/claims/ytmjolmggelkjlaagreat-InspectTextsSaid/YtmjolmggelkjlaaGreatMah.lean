/- Arguments opened: numbers, texts, structs of them. No program in sight. -/
import Derived.Test.YtmjolmggelkjlaaGreatMaf
import Derived.Test.YtmjolmggelkjlaaGreatMag
import Derived.Test.YtmjolmggelkjlaaGreatRows
import Derived.Shelf.Strings.Builder1
import Derived.Test.YtmjolmggelkjlaaGreatProg
namespace Go.Proofs.YtmjolmggelkjlaaGreat.Ev
set_option linter.unusedVariables false
set_option linter.unusedSimpArgs false
open Go Go.RowKit

section
variable {P : Program} {h : H} {n f : Nat} {t : TypeId} {v : Value}
theorem rep_int {k : IntKind} (hu : P.underlying t = some (.int k)) (x : RepH1 P h n (f + 1) t v) : ∃ i, v = .int k i ∧ (Lit.int k i).wf = true := by
  unfold RepH1 at x
  rw [hu] at x
  exact x
theorem all2_1 {α β : Type} {R : α → β → Prop} {a : α} {l : List β} (x : All2 R [a] l) : ∃ b, l = [b] ∧ R a b := by
  match l, x with
  | [b], x => exact ⟨b, rfl, x.1⟩
theorem wf64 {i : Int} (h : (Lit.int .i64 i).wf = true) : -9223372036854775808 ≤ i ∧ i ≤ 9223372036854775807 := by
  have e1 : IntKind.i64.min = -9223372036854775808 := by decide
  have e2 : IntKind.i64.max = 9223372036854775807 := by decide
  simp only [Lit.wf, e1, e2, Bool.and_eq_true, decide_eq_true_eq] at h
  exact h
end

end Go.Proofs.YtmjolmggelkjlaaGreat.Ev
/- A part of the second form that the kernel itself runs; statements whose arguments hold no slices. No program in sight. -/
namespace Go.Proofs.YtmjolmggelkjlaaGreat.Ev
set_option linter.unusedVariables false
set_option linter.unusedSimpArgs false
open Go Go.RowKit

/-- a value that is what it seems -/
def flat : Value → Bool
  | .agg cs => cs.toList.all scalar
  | v => scalar v
theorem flat_vr {m : Mp} {v : Value} (h : flat v = true) : VR m v v := by
  cases v with
  | agg cs =>
    have hs : ∀ l : List Value, l.all scalar = true → VRs m l l := by
      intro l
      induction l with
      | nil => intro _; exact .nil
      | cons a l ih =>
        intro h
        simp only [List.all_cons, Bool.and_eq_true] at h
        exact .cons (VR.self h.1) (ih h.2)
    exact .agg (hs cs.toList h)
  | _ => exact VR.self h
theorem flat_vrs {m : Mp} : ∀ {l : List Value}, l.all flat = true → VRs m l l
  | [], _ => .nil
  | a :: l, h => by
    simp only [List.all_cons, Bool.and_eq_true] at h
    exact .cons (flat_vr h.1) (flat_vrs h.2)
section
variable {P : Program} {w : World} {f : Nat} {t : TypeId} {v : Value}
end

end Go.Proofs.YtmjolmggelkjlaaGreat.Ev
/- A slice of texts as an argument. No program in sight. -/
namespace Go.Proofs.YtmjolmggelkjlaaGreat.Ev
set_option linter.unusedVariables false
set_option linter.unusedSimpArgs false
open Go Go.RowKit

def SRow (h : H) (n : Nat) (v : Value) (ss : List (List UInt8)) : Prop := ∃ a c, v = .slice a ss.length c ∧ ∀ i (hi : i < ss.length), ∃ b B, a = some ⟨b, 0, none⟩ ∧ h.get b = some B ∧ b < n ∧ B.cells[i]? = some (.string ⟨(ss[i]).toArray⟩)
theorem SRow.keep {h h' : H} {n n' : Nat} {v : Value} {ss : List (List UInt8)} (r : SRow h n v ss) (hn : n ≤ n') (hk : ∀ b, b < n → h'.get b = h.get b) : SRow h' n' v ss := by
  obtain ⟨a, c, rfl, q⟩ := r
  refine ⟨a, c, rfl, fun i hi => ?_⟩
  obtain ⟨b, B, ha, hg, hb, hc⟩ := q i hi
  exact ⟨b, B, ha, (hk b hb).trans hg, by omega, hc⟩

end Go.Proofs.YtmjolmggelkjlaaGreat.Ev
/- Storing values of several cells; calls that are taken in; readings that do not touch one another. No program in sight. -/
namespace Go.Proofs.YtmjolmggelkjlaaGreat.Ev
set_option linter.unusedVariables false
set_option linter.unusedSimpArgs false
open Go Go.RowKit
section
variable {β : Type} {W : Nat → Prop} {n0 : Nat} {h : H} {n : Nat} {Q : β → H → Nat → Prop} {P : Program}
theorem run_lda0 {T T' : Prop} (_ : T) (_ : T') {sz : Nat} (b off : Nat) (k : Value → M β) {B : AB} (hg : h.get b = some B) (hb : b < n) (hl : off + sz ≤ B.cells.length) (x : Run W n0 (k (.agg ((B.cells.drop off).take sz).toArray)) h n Q) : Run W n0 (klg sz (.pointer (some ⟨b, off, none⟩)) k) h n Q := run_klg b off k hg hb hl x
/-- two that only read what was there ahead of them do not clash -/
theorem clash_ro {a b : Tk} (h1 : ∀ e ∈ a.log, e.wr = false) (h2 : ∀ e ∈ b.log, e.wr = false) (h3 : ∀ e ∈ a.log, e.b < b.n) (h4 : ∀ e ∈ b.log, e.b < a.n) : a.clash b = false := by
  unfold Tk.clash
  simp only [Bool.or_eq_false_iff, List.any_eq_false, Bool.and_eq_true, decide_eq_true_eq, not_and]
  refine ⟨⟨⟨fun x hx hw => ?_, fun x hx hw => ?_⟩, fun x hx hle => ?_⟩, fun x hx hle => ?_⟩
  · rw [h1 x hx] at hw; cases hw
  · rw [h2 x hx] at hw; cases hw
  · have := h3 x hx; omega
  · have := h4 x hx; omega
/-- of a step of which one may want the order: that it reads, and what was there -/
structure RO (t : Tk) (n : Nat) : Prop where
  wr : ∀ e ∈ t.log, e.wr = false
  lt : ∀ e ∈ t.log, e.b < n
  n : t.n = n
theorem RO.clash {a b : Tk} {m : Nat} (x : RO a m) (y : RO b m) : clash3 a b = false := (clash3_eq a b).trans <| clash_ro x.wr y.wr (fun e he => by rw [y.n]; exact x.lt e he) (fun e he => by rw [x.n]; exact y.lt e he)
end

end Go.Proofs.YtmjolmggelkjlaaGreat.Ev
/- Rows of bytes; appending to a row that was there ahead of the call. No program in sight. -/
namespace Go.Proofs.YtmjolmggelkjlaaGreat.Ev
set_option linter.unusedVariables false
set_option linter.unusedSimpArgs false
open Go Go.RowKit
def u8V (ws : List Nat) : List Value := ws.map fun (x : Nat) => Value.int .u8 (x : Int)
def bS (ws : List Nat) : List UInt8 := ws.map UInt8.ofNat
theorem bytesL_u8 : ∀ ws : List Nat, bytesL (u8V ws) = some (bS ws)
  | [] => rfl
  | x :: ws => by
    show (match bytesL (u8V ws) with
      | some l => some (UInt8.ofNat ((x : Int)).toNat :: l)
      | none => none) = _
    rw [bytesL_u8 ws]
    rfl
section
variable {β : Type} {W : Nat → Prop} {n0 : Nat} {h : H} {n : Nat} {Q : β → H → Nat → Prop} {P : Program}
theorem run_toStr {b off cp : Nat} {B : AB} {ws : List Nat} (hg : h.get b = some B) (hb : b < n) (hl : off + ws.length ≤ B.cells.length) (hc : (B.cells.drop off).take ws.length = u8V ws) (k : Value → M β) (y : Run W n0 (k (.string ⟨(bS ws).toArray⟩)) h n Q) : Run W n0 (kts (.slice (some ⟨b, off, none⟩) ws.length cp) k) h n Q := by
  obtain ⟨L, e1, e2⟩ := rdN_run (n := n) hg hb ws.length off hl
  rw [hc] at e1
  refine run_ins ?_
  have e : ((rdN3 b off ws.length).bind fun vs => match bytesL vs with
      | some l => M.ret (Value.string ⟨⟨l⟩⟩)
      | none => .fail) h n = some ⟨.string ⟨(bS ws).toArray⟩, h, n, L ++ []⟩ := by
    rw [rdN3_eq]
    refine bind_run e1 ?_
    rw [bytesL_u8]
    rfl
  obtain ⟨L', e3, e4⟩ := inside_ro (W := W) (n0 := n0) e (by simpa using e2)
  exact Run.step e3 (Nat.le_refl _) e4 y
end

end Go.Proofs.YtmjolmggelkjlaaGreat.Ev
/- Structs that begin with an array; arrays that are filled place by place; steps whose order may matter. No program in sight. -/
namespace Go.Proofs.YtmjolmggelkjlaaGreat.Ev
set_option linter.unusedVariables false
set_option linter.unusedSimpArgs false
open Go Go.RowKit
section
variable {β : Type} {W : Nat → Prop} {n0 : Nat} {h : H} {n : Nat} {Q : β → H → Nat → Prop} {P : Program}
end

end Go.Proofs.YtmjolmggelkjlaaGreat.Ev
/- Steps whose order may matter, that read only what was there ahead of a place. No program in sight. -/
namespace Go.Proofs.YtmjolmggelkjlaaGreat.Ev
set_option linter.unusedVariables false
set_option linter.unusedSimpArgs false
open Go Go.RowKit
structure RB (t : Tk) (m : Nat) : Prop where
  wr : ∀ e ∈ t.log, e.wr = false
  lt : ∀ e ∈ t.log, e.b < m
  le : m ≤ t.n
theorem RB.clash {a b : Tk} {m : Nat} (x : RB a m) (y : RB b m) : clash3 a b = false := (clash3_eq a b).trans <| clash_ro x.wr y.wr (fun e he => Nat.lt_of_lt_of_le (x.lt e he) y.le) (fun e he => Nat.lt_of_lt_of_le (y.lt e he) x.le)
section
variable {β : Type} {W : Nat → Prop} {n0 : Nat} {h : H} {n m : Nat} {Q : β → H → Nat → Prop} {P : Program}
theorem timed_ldB {T : Prop} (ha : T) (b off : Nat) (k : Value × Tk → M β) {B : AB} (hg : h.get b = some B) (hb : b < m) (hm : m ≤ n) {v : Value} (hv : B.cells[off]? = some v) (x : ∀ T, RB T m → Run W n0 (k (v, T)) h n Q) : Run W n0 ((timed (kld (.pointer (some ⟨b, off, none⟩)) M.ret)).bind k) h n Q :=
  timed_ld ha b off k hg (by omega) hv (x _ ⟨by simp, by simpa using hb, hm⟩)
theorem timed_retB (v : Value) (k : Value × Tk → M β) (hm : m ≤ n) (y : ∀ T, RB T m → Run W n0 (k (v, T)) h n Q) : Run W n0 ((timed (M.ret v)).bind k) h n Q :=
  timed_step (L := []) rfl (Nat.le_refl _) (by simp) (y _ ⟨by simp, by simp, hm⟩)
end

end Go.Proofs.YtmjolmggelkjlaaGreat.Ev
/- Loops by their steps; rows of rows of numbers. No program in sight. -/
namespace Go.Proofs.YtmjolmggelkjlaaGreat.Ev
set_option linter.unusedVariables false
set_option linter.unusedSimpArgs false
open Go Go.RowKit
def VRow (h : H) (n : Nat) (e : TypeId) (v : Value) (cs : List Value) : Prop :=
  (∃ a c, v = .slice a 0 c ∧ (∀ b o, a ≠ some ⟨b, o, none⟩) ∧ cs = []) ∨ ∃ b off cap o ks, v = .slice (some ⟨b, off, none⟩) cs.length cap ∧ h.get b = some ⟨e, o, ks⟩ ∧ b < n ∧ off + cs.length ≤ ks.length ∧ (ks.drop off).take cs.length = cs ∧ cs.length ≤ cap
section
variable {h h' : H} {n n' lo hi : Nat} {e e' es ei : TypeId} {v v' : Value} {cs cs' : List Value} {xss : List (List Int)}
theorem VRow.keep (r : VRow h n e v cs) (hn : n ≤ n') (hk : ∀ b, InBlk v b → h'.get b = h.get b) : VRow h' n' e v cs := by
  rcases r with q | ⟨b, off, cap, o, ks, hv, hg, hb, r⟩
  · exact .inl q
  · exact .inr ⟨b, off, cap, o, ks, hv, (hk b ⟨_, _, _, hv⟩).trans hg, by omega, r⟩
theorem VRow.len (r : VRow h n e v cs) : ∃ a c, v = .slice a cs.length c := by
  rcases r with ⟨a, c, rfl, _, rfl⟩ | ⟨b, off, cap, o, ks, rfl, _⟩
  · exact ⟨a, c, rfl⟩
  · exact ⟨_, cap, rfl⟩
theorem VRow.some (r : VRow h n e v cs) (h0 : 0 < cs.length) : ∃ b off cap o ks, v = .slice (some ⟨b, off, none⟩) cs.length cap ∧ h.get b = some ⟨e, o, ks⟩ ∧ b < n ∧ ∀ i, i < cs.length → ks[off + i]? = some (cs.getD i undef) := by
  rcases r with ⟨a, c, _, _, rfl⟩ | ⟨b, off, cap, o, ks, hv, hg, hb, hl, ht, hc⟩
  · simp at h0
  · refine ⟨b, off, cap, o, ks, hv, hg, hb, fun i hi => ?_⟩
    have := congrArg (fun z => z[i]?) ht
    simp only [List.getElem?_take, hi, if_true, List.getElem?_drop] at this
    rw [this, List.getD_eq_getElem?_getD, List.getElem?_eq_getElem hi]
    rfl
theorem VRow.lt (r : VRow h n e v cs) {b : Nat} (hb : InBlk v b) : b < n := by
  rcases r with ⟨a, c, rfl, hne, _⟩ | ⟨c, off, cap, o, ks, rfl, hg, hbn, _⟩
  · obtain ⟨o, l, k, q⟩ := hb
    cases q
    exact absurd rfl (hne b o)
  · rw [hb.inj]; exact hbn
theorem Own.elem (o : Own h lo n e v cs) {b : Nat} (hb : InBlk v b) : ∃ B, h.get b = Option.some B ∧ B.elem = e := by
  rcases o with ⟨rfl, _⟩ | ⟨c, rfl, hc, _⟩
  · exact hb.not_nil.elim
  · rw [hb.inj]; exact ⟨_, hc, rfl⟩
theorem Row.elem {k : IntKind} {xs : List Int} (r : Row h n e k v xs) {b : Nat} (hb : InBlk v b) : ∃ B, h.get b = Option.some B ∧ B.elem = e := by
  rcases r with ⟨a, c, rfl, hne, _⟩ | ⟨c, off, cap, o, ks, rfl, hg, _⟩
  · obtain ⟨o, l, k, q⟩ := hb
    cases q
    exact absurd rfl (hne b o)
  · rw [hb.inj]; exact ⟨_, hg, rfl⟩
theorem Own.apart (o : Own h lo n e v cs) {lo' : Nat} (o' : Own h lo' n e' v' cs') (hne : e ≠ e') {b : Nat} (hb : InBlk v b) : ¬ InBlk v' b := fun hb' => by
  obtain ⟨B, h1, h2⟩ := o.elem hb
  obtain ⟨B', h3, h4⟩ := o'.elem hb'
  rw [h1] at h3; cases h3
  exact hne (h2.symm.trans h4)
theorem Row.apart {k : IntKind} {xs : List Int} (o : Row h n e k v xs) {lo' : Nat} (o' : Own h lo' n e' v' cs') (hne : e ≠ e') {b : Nat} (hb : InBlk v b) : ¬ InBlk v' b := fun hb' => by
  obtain ⟨B, h1, h2⟩ := o.elem hb
  obtain ⟨B', h3, h4⟩ := o'.elem hb'
  rw [h1] at h3; cases h3
  exact hne (h2.symm.trans h4)

def RR (h : H) (n : Nat) (es ei : TypeId) (v : Value) (xss : List (List Int)) : Prop := ∃ cs, VRow h n es v cs ∧ cs.length = xss.length ∧ ∀ i, i < xss.length → Row h n ei .i64 (cs.getD i undef) (xss.getD i [])
theorem RR.len (r : RR h n es ei v xss) : ∃ a c, v = .slice a xss.length c := by
  obtain ⟨cs, r, hl, _⟩ := r
  rw [← hl]; exact r.len
theorem RR.keep (r : RR h n es ei v xss) (hn : n ≤ n') (hk : ∀ b, b < n → h'.get b = h.get b) : RR h' n' es ei v xss := by
  obtain ⟨cs, r, hl, hr⟩ := r
  exact ⟨cs, r.keep hn fun b hb => hk b (r.lt hb), hl, fun i hi => (hr i hi).keep hn hk⟩
theorem RR.at (r : RR h n es ei v xss) (h0 : 0 < xss.length) : ∃ b off cap o ks, v = .slice (some ⟨b, off, none⟩) xss.length cap ∧ h.get b = some ⟨es, o, ks⟩ ∧ b < n ∧ ∀ i, i < xss.length → ∃ x, ks[off + i]? = some x ∧ Row h n ei .i64 x (xss.getD i []) := by
  obtain ⟨cs, r, hl, hr⟩ := r
  obtain ⟨b, off, cap, o, ks, hv, hg, hb, ha⟩ := r.some (by omega)
  exact ⟨b, off, cap, o, ks, by rw [hv, hl], hg, hb, fun i hi => ⟨_, ha i (by omega), hr i hi⟩⟩
/-- a row of rows of one's own that grows: the rows in it lie in blocks below hi -/
def OwnRR (h : H) (lo hi n : Nat) (es ei : TypeId) (v : Value) (xss : List (List Int)) : Prop := ∃ cs, Own h lo n es v cs ∧ cs.length = xss.length ∧ ∀ i, i < xss.length → Row h n ei .i64 (cs.getD i undef) (xss.getD i []) ∧ ∀ b, InBlk (cs.getD i undef) b → b < hi
theorem OwnRR.nil (h : H) (lo hi n : Nat) (es ei : TypeId) : OwnRR h lo hi n es ei (.slice none 0 0) [] := ⟨[], Own.nil _ _ _ _, rfl, fun i hi => absurd hi (by simp)⟩
theorem OwnRR.lt (o : OwnRR h lo hi n es ei v xss) {b : Nat} (hb : InBlk v b) : lo ≤ b ∧ b < n := by
  obtain ⟨cs, o, _⟩ := o
  exact o.lt hb
theorem OwnRR.elem (o : OwnRR h lo hi n es ei v xss) {b : Nat} (hb : InBlk v b) : ∃ B, h.get b = Option.some B ∧ B.elem = es := by
  obtain ⟨cs, o, _⟩ := o
  exact o.elem hb
theorem OwnRR.keep (o : OwnRR h lo hi n es ei v xss) (hn : n ≤ n') (hk : ∀ b, b < n → (b < hi ∨ InBlk v b) → h'.get b = h.get b) : OwnRR h' lo hi n' es ei v xss := by
  obtain ⟨cs, o, hl, hr⟩ := o
  exact ⟨cs, o.keep hn fun b hb => hk b (o.lt hb).2 (.inr hb), hl, fun i hi => ⟨(hr i hi).1.keep' hn fun b hb => hk b ((hr i hi).1.lt hb) (.inl ((hr i hi).2 b hb)), (hr i hi).2⟩⟩
theorem OwnRR.up (o : OwnRR h lo hi n es ei v xss) {hi' : Nat} (hh : hi ≤ hi') : OwnRR h lo hi' n es ei v xss := by
  obtain ⟨cs, o, hl, hr⟩ := o
  exact ⟨cs, o, hl, fun i hi => ⟨(hr i hi).1, fun b hb => Nat.lt_of_lt_of_le ((hr i hi).2 b hb) hh⟩⟩
end
end Go.Proofs.YtmjolmggelkjlaaGreat.Ev
/- Rows last where blocks of their elements do. No program in sight. -/
namespace Go.Proofs.YtmjolmggelkjlaaGreat.Ev
set_option linter.unusedVariables false
set_option linter.unusedSimpArgs false
open Go Go.RowKit
section
variable {h h' : H} {n n' : Nat} {e es ei : TypeId} {v : Value} {cs : List Value} {xss : List (List Int)}
theorem VRow.elem (r : VRow h n e v cs) {b : Nat} (hb : InBlk v b) : ∃ B, h.get b = Option.some B ∧ B.elem = e := by
  rcases r with ⟨a, c, rfl, hne, _⟩ | ⟨c, off, cap, o, ks, rfl, hg, _⟩
  · obtain ⟨o, l, k, q⟩ := hb
    cases q
    exact absurd rfl (hne b o)
  · rw [hb.inj]; exact ⟨_, hg, rfl⟩
end
end Go.Proofs.YtmjolmggelkjlaaGreat.Ev
/- Arguments opened: rows of numbers, rows of rows. No program in sight. -/
namespace Go.Proofs.YtmjolmggelkjlaaGreat.Ev
set_option linter.unusedVariables false
set_option linter.unusedSimpArgs false
open Go Go.RowKit
section
variable {P : Program} {h : H} {n f : Nat} {t e : TypeId} {v : Value}
theorem VRow.row {k : IntKind} {xs : List Int} (r : VRow h n e v (intsV k xs)) : Row h n e k v xs := by
  rcases r with ⟨a, c, rfl, hne, hx⟩ | ⟨b, off, cap, o, ks, hv, hg, hb, hl, ht, hc⟩
  · exact .inl ⟨a, c, rfl, hne, by unfold intsV at hx; simpa using hx⟩
  · rw [intsV_len] at hv hl ht hc
    exact .inr ⟨b, off, cap, o, ks, hv, hg, hb, hl, ht, hc⟩
end
section
variable {β : Type} {W : Nat → Prop} {n0 : Nat} {h : H} {n m : Nat} {Q : β → H → Nat → Prop} {P : Program}
theorem rdN_run2 {b : Nat} {B : AB} (hg : h.get b = some B) (hb : b < n) : ∀ (c k : Nat), k + c ≤ B.cells.length → ∃ L, rdN b k c h n = some ⟨(B.cells.drop k).take c, h, n, L⟩ ∧ ∀ e ∈ L, e.wr = false ∧ e.b = b
  | 0, k, _ => ⟨[], by rw [List.take_zero]; rfl, by simp⟩
  | c + 1, k, hk => by
    obtain ⟨L, e, hL⟩ := rdN_run2 hg hb c (k + 1) (by omega)
    have hk2 : k < B.cells.length := by omega
    refine ⟨[⟨false, b, some k⟩] ++ (L ++ []), ?_, ?_⟩
    · unfold rdN
      have e0 : rd b k h n = some ⟨B.cells[k], h, n, [⟨false, b, some k⟩]⟩ := by
        unfold rd
        simp only [hb, hg, if_true, List.getElem?_eq_getElem hk2]
      refine bind_run e0 (bind_run e ?_)
      rw [List.drop_eq_getElem_cons hk2, List.take_succ_cons]
      rfl
    · intro x hx
      simp only [List.append_nil, List.mem_append, List.mem_cons, List.not_mem_nil, or_false] at hx
      rcases hx with rfl | hx
      · exact ⟨rfl, rfl⟩
      · exact hL x hx
end
end Go.Proofs.YtmjolmggelkjlaaGreat.Ev
/- Rules for calls by the evaluator with any list of known functions. No program in sight. -/
namespace Go.Proofs.YtmjolmggelkjlaaGreat.Ev
set_option linter.unusedVariables false
set_option linter.unusedSimpArgs false
open Go Go.RowKit
section
variable {β : Type} {W : Nat → Prop} {n0 : Nat} {h h1 : H} {n n1 : Nat} {Q : β → H → Nat → Prop} {kn : List FuncId}
theorem callN_frame {P : Program} (hd : okDsts P = true) {gt : Nat → Hint} {lf d : Nat} {f : FuncId} {args : Array Value} {v : Value} {L : List En} (e : evCallN kn P gt lf d f args h n = some ⟨v, h1, n1, L⟩) {W' : Nat → Prop} (hw : ∀ e ∈ L, e.wr = true → n ≤ e.b ∨ W' e.b) : ∀ b, b < n → ¬ W' b → h1.get b = h.get b := by
  obtain ⟨f0, e0⟩ := callN_ok hd d f args h n v h1 n1 L e
  have A := Loc.evCall P kn f0 f args h n v h1 n1 L (e0 f0 (Nat.le_refl _))
  intro b hb hn
  refine get_of_agrS fun k => A.frame b k ?_ (by omega)
  rintro ⟨e, he, h2, h3, _⟩
  rcases hw e he h2 with q | q
  · omega
  · exact hn (h3 ▸ q)
theorem run_callN {P : Program} (hd : okDsts P = true) {gt : Nat → Hint} {lf d : Nat} {f : FuncId} {vs : List Value} {W' : Nat → Prop} {Q' : Value → H → Nat → Prop} (s : Run W' n (evCallN kn P gt lf d f ⟨vs⟩) h n Q') (hn : n0 ≤ n) (hW : ∀ b, b < n → W' b → n0 ≤ b ∨ W b) {k : Value → M β}
    (x : ∀ v h1 n1, n ≤ n1 → (∀ b, b < n → ¬ W' b → h1.get b = h.get b) → Q' v h1 n1 → Run W n0 (k v) h1 n1 Q) : Run W n0 (kcl (evCallN kn P gt lf d) f vs k) h n Q := by
  obtain ⟨v, h1, n1, L, e1, e2, e3, e4⟩ := s
  refine run_ins (m := evCallN kn P gt lf d f ⟨vs⟩) (Run.step (inside_run e1) e2 (fun e he hwr => ?_) (x v h1 n1 e2 (callN_frame hd e1 e3) e4))
  have hL := (List.mem_filter.1 he).1
  rcases e3 e hL hwr with q | q
  · exact .inl (by omega)
  · by_cases hlt : e.b < n
    · exact hW _ hlt q
    · exact .inl (by omega)
theorem timed_callN {P : Program} (hd : okDsts P = true) {gt : Nat → Hint} {lf d : Nat} {f : FuncId} {vs : List Value} {Q' : Value → H → Nat → Prop} (s : Run (fun _ => False) n (evCallN kn P gt lf d f ⟨vs⟩) h n Q') {k : Value × Tk → M β}
    (x : ∀ v h1 n1 L, n ≤ n1 → (∀ b, b < n → h1.get b = h.get b) → Q' v h1 n1 → RB ⟨n, n1, L⟩ n → Run W n0 (k (v, ⟨n, n1, L⟩)) h1 n1 Q) : Run W n0 ((timed (kcl (evCallN kn P gt lf d) f vs M.ret)).bind k) h n Q := by
  obtain ⟨v, h1, n1, L, e1, e2, e3, e4⟩ := s
  obtain ⟨f0, e0⟩ := callN_ok hd d f ⟨vs⟩ h n v h1 n1 L e1
  have A := Loc.evCall P kn f0 f ⟨vs⟩ h n v h1 n1 L (e0 f0 (Nat.le_refl _))
  have hlt : ∀ e ∈ L.filter (fun e => !(decide (n ≤ e.b) && decide (e.b < n1))), e.b < n := fun e he => by
    obtain ⟨h1, h2⟩ := List.mem_filter.1 he
    have := A.lt e h1
    simp at h2
    omega
  have hwr : ∀ e ∈ L.filter (fun e => !(decide (n ≤ e.b) && decide (e.b < n1))), e.wr = false := fun e he => by
    cases hq : e.wr with
    | false => rfl
    | true =>
      rcases e3 e (List.mem_filter.1 he).1 hq with q | q
      · have := hlt e he; omega
      · exact q.elim
  refine timed_step (ins_ret e1) e2 (fun e he hw => ?_) (x v h1 n1 _ e2 (fun b hb => callN_frame (W' := fun _ => False) hd e1 e3 b hb id) e4 ⟨hwr, hlt, Nat.le_refl _⟩)
  rw [hwr e he] at hw
  cases hw
/-- a row of one byte, made and told as a text -/
theorem str1_run {b : Nat} {e : TypeId} {x : Nat} (hg : h.get b = some ⟨e, true, [.int .u8 (x : Int)]⟩) (hb : b < n) (cp : Nat) : ∃ L, kts (.slice (some ⟨b, 0, none⟩) 1 cp) M.ret h n = some ⟨.string ⟨(bS [x]).toArray⟩, h, n, L⟩ ∧ (∀ e ∈ L, e.wr = false) ∧ ∀ e ∈ L, e.b = b := by
  have e1 : rdN3 b 0 1 h n = some ⟨[.int .u8 (x : Int)], h, n, [⟨false, b, some 0⟩]⟩ := by
    rw [rdN3_eq]
    have e0 : rd b 0 h n = some ⟨.int .u8 (x : Int), h, n, [⟨false, b, some 0⟩]⟩ := by
      unfold rd
      simp only [hb, hg, if_true]
      rfl
    unfold rdN
    have := bind_run (f := fun v => (rdN b (0 + 1) 0).bind fun vs => M.ret (v :: vs)) e0 (L2 := []) (b := [.int .u8 (x : Int)]) (h2 := h) (n2 := n) rfl
    simpa using this
  have e2 : ((rdN3 b 0 1).bind fun vs => match bytesL vs with
    | some l => M.ret (Value.string ⟨⟨l⟩⟩)
    | none => M.fail) h n = some ⟨Value.string ⟨(bS [x]).toArray⟩, h, n, [⟨false, b, some 0⟩] ++ []⟩ := by
    refine bind_run e1 ?_
    have : bytesL (u8V [x]) = some (bS [x]) := bytesL_u8 [x]
    show (match bytesL (u8V [x]) with
      | some l => M.ret (Value.string ⟨⟨l⟩⟩)
      | none => M.fail) h n = _
    rw [this]
    rfl
  have hf : ([(⟨false, b, some 0⟩ : En)] ++ []).filter (fun e : En => !(decide (n ≤ e.b) && decide (e.b < n))) = [⟨false, b, some 0⟩] := by
    simp; omega
  refine ⟨[⟨false, b, some 0⟩], ?_, by simp, by simp⟩
  have e3 := ins_ret e2
  rw [hf] at e3
  exact e3
theorem clash_far {a b : Tk} (h1 : ∀ e ∈ a.log, e.wr = false) (h2 : ∀ e ∈ b.log, e.wr = false) (h3 : ∀ e ∈ a.log, e.b < b.n) (h4 : ∀ e ∈ b.log, a.n1 ≤ e.b) : clash3 a b = false := by
  rw [clash3_eq]
  unfold Tk.clash
  simp only [Bool.or_eq_false_iff, List.any_eq_false, Bool.and_eq_true, decide_eq_true_eq, not_and]
  refine ⟨⟨⟨fun x hx hw => ?_, fun x hx hw => ?_⟩, fun x hx hle => ?_⟩, fun x hx _ => ?_⟩
  · rw [h1 x hx] at hw; cases hw
  · rw [h2 x hx] at hw; cases hw
  · have := h3 x hx; omega
  · have := h4 x hx; omega
end
end Go.Proofs.YtmjolmggelkjlaaGreat.Ev
/- Layer 47: digits, words, a part as text, by the evaluator with any list of known functions. -/
namespace Go.Proofs.YtmjolmggelkjlaaGreat
set_option linter.unusedVariables false
set_option linter.unusedSimpArgs false
open Go.RowKit Ev Ip

theorem wrap_succ {x : Nat} (h : x < 9223372036854775807) : IntKind.i64.wrap ((x : Int) + 1) = ((x + 1 : Nat) : Int) := by rw [wrap_id (by omega) (by omega)]; rfl
theorem wrap_pred {x : Nat} (h : x < 9223372036854775807) : IntKind.i64.wrap (((x + 1 : Nat) : Int) - 1) = ((x : Nat) : Int) := by rw [wrap_id (by omega) (by omega)]; omega
/-- (this text writes the third form as it stands: theorem st_) -/
theorem shK {kn : List FuncId} {lf d : Nat} {f : FuncId} {a : Array Value} {b : RT → M Value} (s : ∀ r, evStep Tryz.prog gt lf r f a = b r) (h : kn.contains f = false) : evCallN kn Tryz.prog gt lf (d + 1) f a = b (evCallN kn Tryz.prog gt lf d) := by
  show (match kn.contains f with
    | true => _
    | false => evStep Tryz.prog gt lf (evCallN kn Tryz.prog gt lf d) f a : M Value) = _
  rw [h]
  exact s _
structure KOk (kn : List FuncId) : Prop where
  dg : kn.contains 107 = false
  wd : kn.contains 67 = false
  ln : kn.contains 19 = false
  hx : kn.contains 68 = true
theorem tdiv10 (x : Nat) : (x : Int).tdiv 10 = ((x / 10 : Nat) : Int) := rfl
theorem tmod10 (x : Nat) : (x : Int).tmod 10 = ((x % 10 : Nat) : Int) := rfl
theorem u8d {m : Nat} (h : m < 10) : IntKind.u8.wrap (48 + (m : Int)) = ((48 + m : Nat) : Int) := by
  have : IntKind.u8.wrap ((48 + m : Nat) : Int) = ((48 + m : Nat) : Int) := IntWalk.u8_in _ (by omega)
  rwa [Int.natCast_add] at this
def dgB (k x : Nat) : List Nat := (digs k x).map (48 + ·)
theorem digs_len : ∀ (k n : Nat), (digs k n).length ≤ k
  | 0, _ => Nat.le_refl _
  | k + 1, n => by
    unfold digs
    by_cases h1 : n < 10
    · rw [if_pos h1]; simp
    · rw [if_neg h1]
      have := digs_len k (n / 10)
      simp; omega
theorem bS_app (a b : List Nat) : bS (a ++ b) = bS a ++ bS b := by unfold bS; rw [List.map_append]
theorem stB_add (a b : List Nat) (h : a.length + b.length ≤ 9223372036854775807) (K : Value → M Value) : kad (stB a) (stB b) K = K (stB (a ++ b)) := by
  have := s_addS (k := K) (bS a) (bS b) (by unfold bS; simpa using h)
  rw [← bS_app] at this
  exact this
theorem dgB_len (k x : Nat) : (dgB k x).length ≤ k := by unfold dgB; rw [List.length_map]; exact digs_len k x
section
variable {kn : List FuncId} (ko : KOk kn) (lf : Nat)
include ko
theorem n_small (d n : Nat) (h : H) {x : Nat} (hx : x < 10) : Run (fun _ => False) n (evCallN kn Tryz.prog gt lf (d + 1) 107 #[.int .i64 (x : Int)]) h n fun v h' n' => v = .string ⟨(bS [48 + x]).toArray⟩ := by
  rw [shK (fun _ => st_tester_Digits) ko.dg]
  refine Run.inside_ ?_
  unfold b_tester_Digits
  have e1 := u8d (m := x) hx
  have c1 : (x : Int) < 10 := by omega
  have c2 : ¬ ((x : Int) < 0) := by omega
  try simp (disch := first | omega | assumption | exact Int.natCast_nonneg _) only [RXA, RXB, Nat.reduceAdd, Nat.reduceLT, wrap_id, wrap_succ, wrap_pred, zr33, zr34, zr43, zr51, zr60, zr67, zr73, zr85, zr87, zr98, zr107, zr120, zr126, zr132, zr134, zr139, zr142, zr144, zr150, zr152, zr157, zr159, zr168, zr171, zr185, zr188, zr207, zr212, zr224, zr228, zr233, zr235, zr243, zr252, zr255, zr269, zr280, zr282, zr299, zr317, zr328, zr333, c1, c2, e1]
  refine run_lit1 trivial (one_int _ _) _ ?_
  refine run_toStr (ws := [48 + x]) (get_eq _ _ _) (Nat.lt_succ_self _) (by simp) rfl _ ?_
  try simp (disch := first | omega | assumption | exact Int.natCast_nonneg _) only [RXA, RXB, Nat.reduceAdd, Nat.reduceLT, wrap_id, wrap_succ, wrap_pred, zr33, zr34, zr43, zr51, zr60, zr67, zr73, zr85, zr87, zr98, zr107, zr120, zr126, zr132, zr134, zr139, zr142, zr144, zr150, zr152, zr157, zr159, zr168, zr171, zr185, zr188, zr207, zr212, zr224, zr228, zr233, zr235, zr243, zr252, zr255, zr269, zr280, zr282, zr299, zr317, zr328, zr333]
theorem n_Digits (d : Nat) : ∀ (k x n : Nat) (h : H), x < 10 ^ (k + 1) → x ≤ 9223372036854775807 → k < 100 → Run (fun _ => False) n (evCallN kn Tryz.prog gt lf (d + (k + 1)) 107 #[.int .i64 (x : Int)]) h n fun v h' n' => v = .string ⟨(bS (dgB (k + 1) x)).toArray⟩ := by
  intro k
  induction k with
  | zero =>
    intro x n h hx hx2 _
    have hx : x < 10 := by simpa using hx
    have := n_small ko lf d n h hx
    unfold dgB digs
    rw [if_pos hx]
    exact this
  | succ k ih =>
    intro x n h hx hx2 hk
    by_cases h10 : x < 10
    · have := n_small ko lf (d + (k + 1)) n h h10
      unfold dgB digs
      rw [if_pos h10]
      exact this
    · have h11 : ¬ ((x : Int) < 10) := by omega
      unfold dgB digs
      rw [if_neg h10]
      show Run (fun _ => False) n (evCallN kn Tryz.prog gt lf (d + (k + 1) + 1) 107 #[.int .i64 (x : Int)]) h n _
      rw [shK (fun _ => st_tester_Digits) ko.dg]
      refine Run.inside_ ?_
      unfold b_tester_Digits
      have e1 := u8d (m := x % 10) (by omega)
      try simp (disch := first | omega | assumption | exact Int.natCast_nonneg _) only [RXA, RXB, Nat.reduceAdd, Nat.reduceLT, wrap_id, wrap_succ, wrap_pred, zr33, zr34, zr43, zr51, zr60, zr67, zr73, zr85, zr87, zr98, zr107, zr120, zr126, zr132, zr134, zr139, zr142, zr144, zr150, zr152, zr157, zr159, zr168, zr171, zr185, zr188, zr207, zr212, zr224, zr228, zr233, zr235, zr243, zr252, zr255, zr269, zr280, zr282, zr299, zr317, zr328, zr333, h11, tdiv10]
      refine timed_callN okd (ih (x / 10) n h (by rw [Nat.pow_succ] at hx; omega) (by omega) (by omega)) ?_
      rintro v h1 n1 L hn fr rfl hL
      try simp (disch := first | omega | assumption | exact Int.natCast_nonneg _) only [RXA, RXB, Nat.reduceAdd, Nat.reduceLT, wrap_id, wrap_succ, wrap_pred, zr33, zr34, zr43, zr51, zr60, zr67, zr73, zr85, zr87, zr98, zr107, zr120, zr126, zr132, zr134, zr139, zr142, zr144, zr150, zr152, zr157, zr159, zr168, zr171, zr185, zr188, zr207, zr212, zr224, zr228, zr233, zr235, zr243, zr252, zr255, zr269, zr280, zr282, zr299, zr317, zr328, zr333, tmod10, e1]
      refine timed_retB _ _ hn fun T1 t1 => ?_
      refine timed_step (ins_ret (newK 5 [Value.int .u8 ((48 + x % 10 : Nat) : Int)] (fun id => Value.slice (some ⟨id, 0, none⟩) 1 1) h1 n1)) (Nat.le_succ n1) (by simp) ?_
      obtain ⟨L2, k1, k2, k3⟩ := str1_run (n := n1 + 1) (get_eq h1 n1 (some ⟨5, true, [Value.int .u8 ((48 + x % 10 : Nat) : Int)]⟩)) (by omega) 1
      refine timed_step k1 (Nat.le_refl _) (fun e he hw => by rw [k2 e he] at hw; cases hw) ?_
      have ad := fun (K : Value → M Value) => s_addS (k := K) (bS (dgB (k + 1) (x / 10))) (bS [48 + x % 10]) (by
        have := digs_len (k + 1) (x / 10)
        unfold bS dgB
        simp
        omega)
      have c1 := hL.clash t1
      have c2 : clash3 ⟨n, n1, L⟩ ⟨n1, n1 + 1, []⟩ = false := hL.clash ⟨by simp, by simp, hn⟩
      have c3 : clash3 ⟨n, n1, L⟩ ⟨n1 + 1, n1 + 1, L2⟩ = false := clash_far hL.wr k2 (fun e he => by have := hL.lt e he; show e.b < n1 + 1; omega) (fun e he => by rw [k3 e he]; exact Nat.le_refl _)
      try simp (disch := first | omega | assumption | exact Int.natCast_nonneg _) only [RXA, RXB, Nat.reduceAdd, Nat.reduceLT, wrap_id, wrap_succ, wrap_pred, zr33, zr34, zr43, zr51, zr60, zr67, zr73, zr85, zr87, zr98, zr107, zr120, zr126, zr132, zr134, zr139, zr142, zr144, zr150, zr152, zr157, zr159, zr168, zr171, zr185, zr188, zr207, zr212, zr224, zr228, zr233, zr235, zr243, zr252, zr255, zr269, zr280, zr282, zr299, zr317, zr328, zr333, ad, c1, c2, c3, List.filter_nil, Bool.not_false, Bool.and_self, chk_true]
      rw [← bS_app]
      simp [dgB]
theorem n_hexed (d n : Nat) (h : H) {x : Int} (h0 : 0 ≤ x) (h1 : x < 4294967296) : Run (fun _ => False) n (evCallN kn Tryz.prog gt lf (d + 1) 68 #[.int .u32 x]) h n fun v h' n' => v = stB (hexB x.toNat) ∧ h' = h ∧ n' = n := by
  have e : evCallN kn Tryz.prog gt lf (d + 1) 68 #[.int .u32 x] = M.ret (stB (hexB x.toNat)) := by
    unfold evCallN
    rw [ko.hx]
    have hN : hexN [.int .u32 x] = some (stB (hexB x.toNat)) := if_pos ⟨h0, h1⟩
    show M.lift (hexN [.int .u32 x]) = _
    rw [hN]
    rfl
  rw [e]
  exact (run_ret _).2 ⟨rfl, rfl, rfl⟩
omit ko in
theorem numB_eq {x : Nat} : numB (x : Int) = dgB 19 x := rfl
theorem words_loop (d n0 : Nat) {a0 : Value} : ∀ (xs : List Int) (m i fu n : Nat) (h : H) (s : List Nat) (v b : Value) (ys : List Int), Row h n 3 .i64 v ys → ys.drop i = xs → xs.length = m → m < fu → (∀ x ∈ ys, 0 ≤ x ∧ x ≤ 9223372036854775807) → ys.length ≤ 10 → s.length + 30 * m ≤ 1000000 → i ≤ ys.length → n0 ≤ n →
    Run (fun _ => False) n0 (lpA_inspect_words lf (evCallN kn Tryz.prog gt lf (d + 19)) fu (kcA_inspect_words lf (evCallN kn Tryz.prog gt lf (d + 19))) (stB s) b a0 v (.int .i64 (ys.length : Int)) (.int .i64 (i : Int))) h n fun v' h' n' => v' = stB (wordsB s xs) := by
  intro xs
  induction xs with
  | nil =>
    intro m i fu n h s v b ys hR hd hm hf hx hl hs hi hn0
    obtain ⟨fu, rfl⟩ : ∃ f, fu = f + 1 := ⟨fu - 1, by omega⟩
    have : i = ys.length := by
      have := congrArg List.length hd
      simp at this
      omega
    subst this
    rw [lpA_inspect_words]
    try simp (disch := first | omega | assumption | exact Int.natCast_nonneg _) only [RXA, RXB, Nat.reduceAdd, Nat.reduceLT, wrap_id, wrap_succ, wrap_pred, zr33, zr34, zr43, zr51, zr60, zr67, zr73, zr85, zr87, zr98, zr107, zr120, zr126, zr132, zr134, zr139, zr142, zr144, zr150, zr152, zr157, zr159, zr168, zr171, zr185, zr188, zr207, zr212, zr224, zr228, zr233, zr235, zr243, zr252, zr255, zr269, zr280, zr282, zr299, zr317, zr328, zr333, Int.lt_irrefl]
    unfold kcA_inspect_words
    try simp (disch := first | omega | assumption | exact Int.natCast_nonneg _) only [RXA, RXB, Nat.reduceAdd, Nat.reduceLT, wrap_id, wrap_succ, wrap_pred, zr33, zr34, zr43, zr51, zr60, zr67, zr73, zr85, zr87, zr98, zr107, zr120, zr126, zr132, zr134, zr139, zr142, zr144, zr150, zr152, zr157, zr159, zr168, zr171, zr185, zr188, zr207, zr212, zr224, zr228, zr233, zr235, zr243, zr252, zr255, zr269, zr280, zr282, zr299, zr317, zr328, zr333]
    rfl
  | cons x xs ih =>
    intro m i fu n h s v b ys hR hd hm hf hx hl hs hi hn0
    obtain ⟨fu, rfl⟩ : ∃ f, fu = f + 1 := ⟨fu - 1, by simp at hm; omega⟩
    have hlt : i < ys.length := by
      have := congrArg List.length hd
      simp at this
      omega
    have hxi : ys[i] = x := by
      have := congrArg (·[0]?) hd
      simp at this
      rw [List.getElem?_eq_getElem hlt] at this
      simpa using this
    have hb := hx x (by rw [← hxi]; exact List.getElem_mem _)
    obtain ⟨y, rfl⟩ : ∃ y : Nat, x = y := ⟨x.toNat, by omega⟩
    obtain ⟨bb, off, cap, o, ks, rfl, hg, hbn, _, _, _, hat⟩ := hR.some (by omega)
    have a1 := hat i hlt
    have e0 : ys.getD i 0 = (y : Int) := by rw [List.getD_eq_getElem?_getD, List.getElem?_eq_getElem hlt, hxi]; rfl
    rw [e0] at a1
    have e1 : ((i : Nat) : Int) < ((ys.length : Nat) : Int) := by omega
    have l1 := dgB_len 19 y
    have w1 : ((i : Nat) : Int) + 1 = ((i + 1 : Nat) : Int) := rfl
    simp only [List.length_cons] at hm
    rw [lpA_inspect_words]
    try simp (disch := first | omega | assumption | exact Int.natCast_nonneg _) only [RXA, RXB, Nat.reduceAdd, Nat.reduceLT, wrap_id, wrap_succ, wrap_pred, zr33, zr34, zr43, zr51, zr60, zr67, zr73, zr85, zr87, zr98, zr107, zr120, zr126, zr132, zr134, zr139, zr142, zr144, zr150, zr152, zr157, zr159, zr168, zr171, zr185, zr188, zr207, zr212, zr224, zr228, zr233, zr235, zr243, zr252, zr255, zr269, zr280, zr282, zr299, zr317, zr328, zr333, e1, hg, a1]
    refine run_callN okd (n_Digits ko lf d 18 y n h (by omega) (by omega) (by omega)) hn0 (fun _ _ h => h.elim) ?_
    rintro v1 h1 n1 hn1 fr rfl
    have ad1 := fun K => stB_add [32] (dgB 19 y) (by simp; omega) K
    have ad2 := fun K => stB_add s (32 :: dgB 19 y) (by simp; omega) K
    show Run (fun _ => False) n0 (kad (stB [32]) (stB (dgB 19 y)) _) h1 n1 _
    rw [ad1]
    show Run (fun _ => False) n0 (kad (stB s) (stB (32 :: dgB 19 y)) _) h1 n1 _
    rw [ad2]
    try simp (disch := first | omega | assumption | exact Int.natCast_nonneg _) only [RXA, RXB, Nat.reduceAdd, Nat.reduceLT, wrap_id, wrap_succ, wrap_pred, zr33, zr34, zr43, zr51, zr60, zr67, zr73, zr85, zr87, zr98, zr107, zr120, zr126, zr132, zr134, zr139, zr142, zr144, zr150, zr152, zr157, zr159, zr168, zr171, zr185, zr188, zr207, zr212, zr224, zr228, zr233, zr235, zr243, zr252, zr255, zr269, zr280, zr282, zr299, zr317, zr328, zr333]
    rw [w1]
    have hR1 := hR.keep hn1 fun b hb => fr b hb id
    exact ih (m - 1) (i + 1) fu n1 h1 (s ++ 32 :: dgB 19 y) _ b ys hR1 (by rw [← List.tail_drop, hd]; rfl) (by omega) (by omega) hx hl (by simp; omega) (by omega) (by omega)
theorem n_words (d n : Nat) (h : H) (s : List Nat) (v : Value) (ys : List Int) (hR : Row h n 3 .i64 v ys) (hx : ∀ x ∈ ys, 0 ≤ x ∧ x ≤ 9223372036854775807) (hl : ys.length ≤ 10) (hs : s.length ≤ 1000) (hlf : 100 ≤ lf) : Run (fun _ => False) n (evCallN kn Tryz.prog gt lf (d + 20) 67 #[stB s, v]) h n fun v' h' n' => v' = stB (wordsB s ys) := by
  rw [shK (fun _ => st_inspect_words) ko.wd]
  refine Run.inside_ ?_
  unfold b_inspect_words
  obtain ⟨a, c, rfl⟩ := hR.len
  try simp (disch := first | omega | assumption | exact Int.natCast_nonneg _) only [RXA, RXB, Nat.reduceAdd, Nat.reduceLT, wrap_id, wrap_succ, wrap_pred, zr33, zr34, zr43, zr51, zr60, zr67, zr73, zr85, zr87, zr98, zr107, zr120, zr126, zr132, zr134, zr139, zr142, zr144, zr150, zr152, zr157, zr159, zr168, zr171, zr185, zr188, zr207, zr212, zr224, zr228, zr233, zr235, zr243, zr252, zr255, zr269, zr280, zr282, zr299, zr317, zr328, zr333]
  exact words_loop ko lf d n ys ys.length 0 lf n h s _ _ ys hR (by simp) rfl (by omega) hx hl (by omega) (by omega) (Nat.le_refl _)
omit ko in
theorem run_lits {W : Nat → Prop} {n0 n : Nat} {h : H} {Q : Value → H → Nat → Prop} {e len : Nat} {z : List Value} {ps : List (Nat × Nat × Value)} {cs : List Value} (hf : fillQ z ps = some cs) (k : Value → M Value) (x : Run W n0 (k (.slice (some ⟨n, 0, none⟩) len len)) (h.set n (some ⟨e, true, cs⟩)) (n + 1) Q) : Run W n0 (kbs e z len ps k) h n Q := by
  unfold kbs
  rw [hf]
  exact run_ins (run_new (newK _ _ (fun id => Value.slice (some ⟨id, 0, none⟩) len len) _ _) (Nat.le_succ n) x)
omit ko in
theorem timed_lits {W : Nat → Prop} {n0 n m : Nat} {h : H} {Q : Value → H → Nat → Prop} {e len : Nat} {z : List Value} {ps : List (Nat × Nat × Value)} {cs : List Value} (hf : fillQ z ps = some cs) (hm : m ≤ n) (k : Value × Tk → M Value) (x : ∀ T, RB T m → Run W n0 (k (.slice (some ⟨n, 0, none⟩) len len, T)) (h.set n (some ⟨e, true, cs⟩)) (n + 1) Q) : Run W n0 ((timed (kbs e z len ps M.ret)).bind k) h n Q := by
  have e1 : kbs e z len ps M.ret = insB ((newB3 e cs).bind fun id => M.ret (Value.slice (some ⟨id, 0, none⟩) len len)) M.ret := by
    unfold kbs
    rw [hf]
  rw [e1]
  exact timed_step (ins_ret (newK _ _ (fun id => Value.slice (some ⟨id, 0, none⟩) len len) _ _)) (Nat.le_succ n) (by simp) (x _ ⟨by simp, by simp, hm⟩)
omit ko in
theorem m6_eq (a b c d e f : Int) (k : Value → M Value) : km6 (.int .i64 a) (.int .i64 b) (.int .i64 c) (.int .i64 d) (.int .i64 e) (.int .i64 f) k = k (.int .i64 (imin (imin (imin (imin (imin a b) c) d) e) f)) := by
  have st : ∀ (x y : Int) (k : Value → M Value), kmi (.int .i64 x) (.int .i64 y) k = k (.int .i64 (imin x y)) := fun x y k => by
    unfold kmi imin
    simp only [ilt_eq]
    by_cases h : y < x <;> simp [h]
  unfold km6
  simp only [st]
omit ko in
theorem m6_neg (p : Pt) : (imin (imin (imin (imin (imin p.level p.frm) p.to_) p.orig) p.last) p.len < 0) ↔ p.small = true := by
  unfold imin Pt.small
  simp only [Bool.or_eq_true, decide_eq_true_eq]
  repeat' split
  all_goals omega
omit ko in
theorem fresh_row {h : H} {n : Nat} {k : Nat} (xs : List Int) (hk : xs.length = k) (h0 : 0 < k) : Row (h.set n (some ⟨3, true, intsV .i64 xs⟩)) (n + 1) 3 .i64 (.slice (some ⟨n, 0, none⟩) k k) xs := by
  subst hk
  refine .inr ⟨n, 0, xs.length, true, intsV .i64 xs, rfl, get_eq _ _ _, by omega, by rw [intsV_len]; omega, ?_, Nat.le_refl _⟩
  rw [List.drop_zero, ← intsV_len (k := .i64) (xs := xs), List.take_length]
omit ko in
theorem pt_ok {p : Pt} (h : p.ok = true) (hs : ¬ p.small = true) : (0 ≤ p.level ∧ p.level ≤ 9223372036854775807) ∧ (0 ≤ p.frm ∧ p.frm ≤ 9223372036854775807) ∧ (0 ≤ p.to_ ∧ p.to_ ≤ 9223372036854775807) ∧ (0 ≤ p.orig ∧ p.orig ≤ 9223372036854775807) ∧ (0 ≤ p.last ∧ p.last ≤ 9223372036854775807) ∧ (0 ≤ p.len ∧ p.len ≤ 9223372036854775807) := by
  unfold Pt.ok i64ok at h
  unfold Pt.small at hs
  simp only [Bool.and_eq_true, Bool.or_eq_true, decide_eq_true_eq] at h hs
  omega
set_option maxHeartbeats 1000000 in
theorem n_Line (d n : Nat) (h : H) (p : Pt) (hp : p.ok = true) (hlf : 100 ≤ lf) : Run (fun _ => False) n (evCallN kn Tryz.prog gt lf (d + 21) 19 #[.agg p.cells.toArray]) h n fun v' h' n' => v' = ansB (lineB p) := by
  rw [shK (fun _ => st_inspect_Line) ko.ln]
  refine Run.inside_ ?_
  unfold b_inspect_Line
  refine run_box trivial _ _ ?_
  obtain ⟨h2, hh2⟩ : ∃ h2, h.set n (some ⟨33, true, (Value.agg p.cells.toArray).cells.toList⟩) = h2 := ⟨_, rfl⟩
  have g2 : h2.get n = some ⟨33, true, [.int .i64 p.what, .int .i64 p.level, .int .i64 p.frm, .int .i64 p.to_, .int .u32 p.sum, .int .i64 p.orig, .int .i64 p.last, .int .i64 p.len]⟩ := by rw [← hh2, get_eq]; rfl
  rw [hh2]
  have lt1 : n < n + 1 := by omega
  by_cases hs : p.small = true
  · have c0 := (m6_neg p).2 hs
    have e0 : lineB p = none := by unfold lineB; rw [if_pos hs]
    try simp (disch := first | omega | assumption | exact Int.natCast_nonneg _) only [RXA, RXB, Nat.reduceAdd, Nat.reduceLT, wrap_id, wrap_succ, wrap_pred, zr33, zr34, zr43, zr51, zr60, zr67, zr73, zr85, zr87, zr98, zr107, zr120, zr126, zr132, zr134, zr139, zr142, zr144, zr150, zr152, zr157, zr159, zr168, zr171, zr185, zr188, zr207, zr212, zr224, zr228, zr233, zr235, zr243, zr252, zr255, zr269, zr280, zr282, zr299, zr317, zr328, zr333, g2, m6_eq, c0]
    rw [e0]
    rfl
  have c0 : ¬ _ < _ := fun q => hs ((m6_neg p).1 q)
  obtain ⟨b1, b2, b3, b4, b5, b6⟩ := pt_ok hp hs
  by_cases w1 : p.what = 1
  · have z1 : (p.what == 1) = true := by rw [w1]; rfl
    have e0 : lineB p = some (wordsB beginB [p.level, p.frm, p.to_]) := by unfold lineB; rw [if_neg hs, if_pos w1]
    try simp (disch := first | omega | assumption | exact Int.natCast_nonneg _) only [RXA, RXB, Nat.reduceAdd, Nat.reduceLT, wrap_id, wrap_succ, wrap_pred, zr33, zr34, zr43, zr51, zr60, zr67, zr73, zr85, zr87, zr98, zr107, zr120, zr126, zr132, zr134, zr139, zr142, zr144, zr150, zr152, zr157, zr159, zr168, zr171, zr185, zr188, zr207, zr212, zr224, zr228, zr233, zr235, zr243, zr252, zr255, zr269, zr280, zr282, zr299, zr317, zr328, zr333, g2, m6_eq, c0, z1]
    refine run_lits (cs := intsV .i64 [p.level, p.frm, p.to_]) rfl _ ?_
    refine run_callN okd (n_words ko lf d (n + 1 + 1) _ beginB _ _ (fresh_row [p.level, p.frm, p.to_] rfl (by simp)) (by intro x hx; simp at hx; omega) (by simp) (by decide) hlf) (by omega) (fun _ _ h => h.elim) ?_
    rintro v1 h1 n1 hn1 fr rfl
    try simp (disch := first | omega | assumption | exact Int.natCast_nonneg _) only [RXA, RXB, Nat.reduceAdd, Nat.reduceLT, wrap_id, wrap_succ, wrap_pred, zr33, zr34, zr43, zr51, zr60, zr67, zr73, zr85, zr87, zr98, zr107, zr120, zr126, zr132, zr134, zr139, zr142, zr144, zr150, zr152, zr157, zr159, zr168, zr171, zr185, zr188, zr207, zr212, zr224, zr228, zr233, zr235, zr243, zr252, zr255, zr269, zr280, zr282, zr299, zr317, zr328, zr333]
    rw [e0]
    rfl
  have n1 : (p.what == 1) = false := beq_eq_false_iff_ne.2 w1
  have sm : 0 ≤ p.sum ∧ p.sum < 4294967296 := by
    unfold Pt.ok at hp
    simp only [Bool.and_eq_true, decide_eq_true_eq] at hp
    omega
  have hl8 : (hexB p.sum.toNat).length = 8 := by unfold hexB; simp
  by_cases w2 : p.what = 2
  · have z2 : (p.what == 2) = true := by rw [w2]; rfl
    have e0 : lineB p = some (wordsB (blockB ++ hexB p.sum.toNat) [p.orig, p.last, p.len, p.frm, p.to_]) := by unfold lineB; rw [if_neg hs, if_neg w1, if_pos w2]
    have ad := fun K => stB_add blockB (hexB p.sum.toNat) (by rw [hl8]; decide) K
    try simp (disch := first | omega | assumption | exact Int.natCast_nonneg _) only [RXA, RXB, Nat.reduceAdd, Nat.reduceLT, wrap_id, wrap_succ, wrap_pred, zr33, zr34, zr43, zr51, zr60, zr67, zr73, zr85, zr87, zr98, zr107, zr120, zr126, zr132, zr134, zr139, zr142, zr144, zr150, zr152, zr157, zr159, zr168, zr171, zr185, zr188, zr207, zr212, zr224, zr228, zr233, zr235, zr243, zr252, zr255, zr269, zr280, zr282, zr299, zr317, zr328, zr333, g2, m6_eq, c0, n1, z2]
    refine timed_ldB trivial _ _ _ g2 lt1 (Nat.le_refl _) rfl fun T0 t0 => ?_
    refine timed_callN okd (n_hexed ko lf (d + 19) (n + 1) h2 sm.1 sm.2) ?_
    rintro v1 h1 n1' L1 hn1 fr ⟨rfl, rfl, rfl⟩ r1
    show Run (fun _ => False) n (kad (stB blockB) (stB (hexB p.sum.toNat)) _) _ _ _
    rw [ad]
    try simp (disch := first | omega | assumption | exact Int.natCast_nonneg _) only [RXA, RXB, Nat.reduceAdd, Nat.reduceLT, wrap_id, wrap_succ, wrap_pred, zr33, zr34, zr43, zr51, zr60, zr67, zr73, zr85, zr87, zr98, zr107, zr120, zr126, zr132, zr134, zr139, zr142, zr144, zr150, zr152, zr157, zr159, zr168, zr171, zr185, zr188, zr207, zr212, zr224, zr228, zr233, zr235, zr243, zr252, zr255, zr269, zr280, zr282, zr299, zr317, zr328, zr333]
    refine timed_ldB trivial _ _ _ g2 lt1 hn1 rfl fun T1 t1 => ?_
    try simp (disch := first | omega | assumption | exact Int.natCast_nonneg _) only [RXA, RXB, Nat.reduceAdd, Nat.reduceLT, wrap_id, wrap_succ, wrap_pred, zr33, zr34, zr43, zr51, zr60, zr67, zr73, zr85, zr87, zr98, zr107, zr120, zr126, zr132, zr134, zr139, zr142, zr144, zr150, zr152, zr157, zr159, zr168, zr171, zr185, zr188, zr207, zr212, zr224, zr228, zr233, zr235, zr243, zr252, zr255, zr269, zr280, zr282, zr299, zr317, zr328, zr333]
    refine timed_ldB trivial _ _ _ g2 lt1 hn1 rfl fun T2 t2 => ?_
    try simp (disch := first | omega | assumption | exact Int.natCast_nonneg _) only [RXA, RXB, Nat.reduceAdd, Nat.reduceLT, wrap_id, wrap_succ, wrap_pred, zr33, zr34, zr43, zr51, zr60, zr67, zr73, zr85, zr87, zr98, zr107, zr120, zr126, zr132, zr134, zr139, zr142, zr144, zr150, zr152, zr157, zr159, zr168, zr171, zr185, zr188, zr207, zr212, zr224, zr228, zr233, zr235, zr243, zr252, zr255, zr269, zr280, zr282, zr299, zr317, zr328, zr333]
    refine timed_ldB trivial _ _ _ g2 lt1 hn1 rfl fun T3 t3 => ?_
    try simp (disch := first | omega | assumption | exact Int.natCast_nonneg _) only [RXA, RXB, Nat.reduceAdd, Nat.reduceLT, wrap_id, wrap_succ, wrap_pred, zr33, zr34, zr43, zr51, zr60, zr67, zr73, zr85, zr87, zr98, zr107, zr120, zr126, zr132, zr134, zr139, zr142, zr144, zr150, zr152, zr157, zr159, zr168, zr171, zr185, zr188, zr207, zr212, zr224, zr228, zr233, zr235, zr243, zr252, zr255, zr269, zr280, zr282, zr299, zr317, zr328, zr333]
    refine timed_ldB trivial _ _ _ g2 lt1 hn1 rfl fun T4 t4 => ?_
    try simp (disch := first | omega | assumption | exact Int.natCast_nonneg _) only [RXA, RXB, Nat.reduceAdd, Nat.reduceLT, wrap_id, wrap_succ, wrap_pred, zr33, zr34, zr43, zr51, zr60, zr67, zr73, zr85, zr87, zr98, zr107, zr120, zr126, zr132, zr134, zr139, zr142, zr144, zr150, zr152, zr157, zr159, zr168, zr171, zr185, zr188, zr207, zr212, zr224, zr228, zr233, zr235, zr243, zr252, zr255, zr269, zr280, zr282, zr299, zr317, zr328, zr333]
    refine timed_ldB trivial _ _ _ g2 lt1 hn1 rfl fun T5 t5 => ?_
    try simp (disch := first | omega | assumption | exact Int.natCast_nonneg _) only [RXA, RXB, Nat.reduceAdd, Nat.reduceLT, wrap_id, wrap_succ, wrap_pred, zr33, zr34, zr43, zr51, zr60, zr67, zr73, zr85, zr87, zr98, zr107, zr120, zr126, zr132, zr134, zr139, zr142, zr144, zr150, zr152, zr157, zr159, zr168, zr171, zr185, zr188, zr207, zr212, zr224, zr228, zr233, zr235, zr243, zr252, zr255, zr269, zr280, zr282, zr299, zr317, zr328, zr333]
    refine timed_lits (cs := intsV .i64 [p.orig, p.last, p.len, p.frm, p.to_]) rfl hn1 _ fun T6 t6 => ?_
    refine timed_callN okd (n_words ko lf d _ _ (blockB ++ hexB p.sum.toNat) _ _ (fresh_row [p.orig, p.last, p.len, p.frm, p.to_] rfl (by simp)) (by intro x hx; simp at hx; omega) (by simp) (by rw [List.length_append, hl8]; decide) hlf) ?_
    rintro v2 h3 n3 L2 hn3 fr3 rfl r2
    try simp (disch := first | omega | assumption | exact Int.natCast_nonneg _) only [RXA, RXB, Nat.reduceAdd, Nat.reduceLT, wrap_id, wrap_succ, wrap_pred, zr33, zr34, zr43, zr51, zr60, zr67, zr73, zr85, zr87, zr98, zr107, zr120, zr126, zr132, zr134, zr139, zr142, zr144, zr150, zr152, zr157, zr159, zr168, zr171, zr185, zr188, zr207, zr212, zr224, zr228, zr233, zr235, zr243, zr252, zr255, zr269, zr280, zr282, zr299, zr317, zr328, zr333, r1.clash t1, r1.clash t2, r1.clash t3, r1.clash t4, r1.clash t5, r1.clash t6, Bool.not_false, Bool.and_self, chk_true]
    rw [e0]
    rfl
  have n2 : (p.what == 2) = false := beq_eq_false_iff_ne.2 w2
  by_cases w3 : p.what = 3
  · have z3 : (p.what == 3) = true := by rw [w3]; rfl
    have e0 : lineB p = some (wordsB (endB ++ hexB p.sum.toNat) [p.frm, p.to_]) := by unfold lineB; rw [if_neg hs, if_neg w1, if_neg w2, if_pos w3]
    have ad := fun K => stB_add endB (hexB p.sum.toNat) (by rw [hl8]; decide) K
    try simp (disch := first | omega | assumption | exact Int.natCast_nonneg _) only [RXA, RXB, Nat.reduceAdd, Nat.reduceLT, wrap_id, wrap_succ, wrap_pred, zr33, zr34, zr43, zr51, zr60, zr67, zr73, zr85, zr87, zr98, zr107, zr120, zr126, zr132, zr134, zr139, zr142, zr144, zr150, zr152, zr157, zr159, zr168, zr171, zr185, zr188, zr207, zr212, zr224, zr228, zr233, zr235, zr243, zr252, zr255, zr269, zr280, zr282, zr299, zr317, zr328, zr333, g2, m6_eq, c0, n1, n2, z3]
    refine timed_ldB trivial _ _ _ g2 lt1 (Nat.le_refl _) rfl fun T0 t0 => ?_
    refine timed_callN okd (n_hexed ko lf (d + 19) (n + 1) h2 sm.1 sm.2) ?_
    rintro v1 h1 n1' L1 hn1 fr ⟨rfl, rfl, rfl⟩ r1
    show Run (fun _ => False) n (kad (stB endB) (stB (hexB p.sum.toNat)) _) _ _ _
    rw [ad]
    try simp (disch := first | omega | assumption | exact Int.natCast_nonneg _) only [RXA, RXB, Nat.reduceAdd, Nat.reduceLT, wrap_id, wrap_succ, wrap_pred, zr33, zr34, zr43, zr51, zr60, zr67, zr73, zr85, zr87, zr98, zr107, zr120, zr126, zr132, zr134, zr139, zr142, zr144, zr150, zr152, zr157, zr159, zr168, zr171, zr185, zr188, zr207, zr212, zr224, zr228, zr233, zr235, zr243, zr252, zr255, zr269, zr280, zr282, zr299, zr317, zr328, zr333]
    refine timed_ldB trivial _ _ _ g2 lt1 hn1 rfl fun T1 t1 => ?_
    try simp (disch := first | omega | assumption | exact Int.natCast_nonneg _) only [RXA, RXB, Nat.reduceAdd, Nat.reduceLT, wrap_id, wrap_succ, wrap_pred, zr33, zr34, zr43, zr51, zr60, zr67, zr73, zr85, zr87, zr98, zr107, zr120, zr126, zr132, zr134, zr139, zr142, zr144, zr150, zr152, zr157, zr159, zr168, zr171, zr185, zr188, zr207, zr212, zr224, zr228, zr233, zr235, zr243, zr252, zr255, zr269, zr280, zr282, zr299, zr317, zr328, zr333]
    refine timed_ldB trivial _ _ _ g2 lt1 hn1 rfl fun T2 t2 => ?_
    try simp (disch := first | omega | assumption | exact Int.natCast_nonneg _) only [RXA, RXB, Nat.reduceAdd, Nat.reduceLT, wrap_id, wrap_succ, wrap_pred, zr33, zr34, zr43, zr51, zr60, zr67, zr73, zr85, zr87, zr98, zr107, zr120, zr126, zr132, zr134, zr139, zr142, zr144, zr150, zr152, zr157, zr159, zr168, zr171, zr185, zr188, zr207, zr212, zr224, zr228, zr233, zr235, zr243, zr252, zr255, zr269, zr280, zr282, zr299, zr317, zr328, zr333]
    refine timed_lits (cs := intsV .i64 [p.frm, p.to_]) rfl hn1 _ fun T6 t6 => ?_
    refine timed_callN okd (n_words ko lf d _ _ (endB ++ hexB p.sum.toNat) _ _ (fresh_row [p.frm, p.to_] rfl (by simp)) (by intro x hx; simp at hx; omega) (by simp) (by rw [List.length_append, hl8]; decide) hlf) ?_
    rintro v2 h3 n3 L2 hn3 fr3 rfl r2
    try simp (disch := first | omega | assumption | exact Int.natCast_nonneg _) only [RXA, RXB, Nat.reduceAdd, Nat.reduceLT, wrap_id, wrap_succ, wrap_pred, zr33, zr34, zr43, zr51, zr60, zr67, zr73, zr85, zr87, zr98, zr107, zr120, zr126, zr132, zr134, zr139, zr142, zr144, zr150, zr152, zr157, zr159, zr168, zr171, zr185, zr188, zr207, zr212, zr224, zr228, zr233, zr235, zr243, zr252, zr255, zr269, zr280, zr282, zr299, zr317, zr328, zr333, r1.clash t1, r1.clash t2, r1.clash t6, Bool.not_false, Bool.and_self, chk_true]
    rw [e0]
    rfl
  have n3 : (p.what == 3) = false := beq_eq_false_iff_ne.2 w3
  have e0 : lineB p = none := by unfold lineB; rw [if_neg hs, if_neg w1, if_neg w2, if_neg w3]
  try simp (disch := first | omega | assumption | exact Int.natCast_nonneg _) only [RXA, RXB, Nat.reduceAdd, Nat.reduceLT, wrap_id, wrap_succ, wrap_pred, zr33, zr34, zr43, zr51, zr60, zr67, zr73, zr85, zr87, zr98, zr107, zr120, zr126, zr132, zr134, zr139, zr142, zr144, zr150, zr152, zr157, zr159, zr168, zr171, zr185, zr188, zr207, zr212, zr224, zr228, zr233, zr235, zr243, zr252, zr255, zr269, zr280, zr282, zr299, zr317, zr328, zr333, g2, m6_eq, c0, n1, n2, n3]
  rw [e0]
  rfl
end
end Go.Proofs.YtmjolmggelkjlaaGreat
/- Layer 47: a part as text, as a call in every world. -/
namespace Go.Proofs.YtmjolmggelkjlaaGreat
set_option linter.unusedVariables false
set_option linter.unusedSimpArgs false
open Go.RowKit Ev Ip

def kn1 : List FuncId := [65, 68]
theorem ev_names : Ev.okNames Tryz.prog = true := by kernel_rfl
theorem ev_mix : Tryz.prog.follows .mixedOrders = true := by kernel_rfl
theorem ev_prog1 : Ev.okProg Tryz.prog kn1 = true := by kernel_rfl
theorem hexTo_str (x : Nat) : (Value.string (strOfNums (hexTo x 8))) = stB (hexB x) := by
  unfold strOfNums hexTo stB hexB
  congr 2
theorem nat_hexed (args : Array Value) (v : Value) (w : World) (h : hexN args.toList = some v) : (∀ m, VR m v v) ∧ Calls Tryz.prog 68 args w fun e w' => e = .returned v ∧ Below w.heap.size w w' := by
  obtain ⟨l, rfl⟩ : ∃ l, args = l.toArray := ⟨args.toList, rfl⟩
  simp only at h
  have : ∃ x, l = [.int .u32 x] ∧ 0 ≤ x ∧ x < 4294967296 ∧ v = stB (hexB x.toNat) := by
    unfold hexN at h
    split at h
    · split at h
      · rename_i hx
        cases h
        exact ⟨_, rfl, hx.1, hx.2, rfl⟩
      · cases h
    · cases h
  obtain ⟨x, rfl, h1, h2, rfl⟩ := this
  obtain ⟨y, rfl⟩ : ∃ y : Nat, x = y := ⟨x.toNat, by omega⟩
  refine ⟨fun m => .string _, ?_⟩
  have := h_hexed y w (by omega)
  rw [hexTo_str] at this
  exact this
theorem nat_known1 : Ev.NatKnown Tryz.prog kn1 := by
  intro f k hb hf
  have hb : f = 65 ∨ f = 68 := by simpa [kn1] using hb
  rcases hb with rfl | rfl
  · cases hf
  · cases hf
    refine ⟨fun e => (by cases e), fun e => (by cases e), fun _ args v w _ h => nat_hexed args v w h, fun e => (by cases e)⟩
theorem known1 : Ev.Known Tryz.prog kn1 := by
  refine ⟨fun f hf hn hp w _ => ?_, nat_known1⟩
  have hb : f = 65 ∨ f = 68 := by simpa [kn1] using hf
  rcases hb with rfl | rfl
  · have e : Ev.noPar Tryz.prog 65 = false := by kernel_rfl
    exact absurd (e.symm.trans hp) (by decide)
  · exact absurd hn (by decide)
theorem callN_flat {kn : List FuncId} (hok : okProg Tryz.prog kn = true) (hkn : Known Tryz.prog kn) {w : World} {lf d : Nat} {f : FuncId} {vs : List Value} {res : Value} (ha : vs.all flat = true) (hr : ∀ m v', VR m res v' → v' = res)
    (r : ∀ n h, Run (fun _ => False) n (evCallN kn Tryz.prog gt lf d f vs.toArray) h n fun v _ _ => v = res) : Calls Tryz.prog f vs.toArray w fun e w' => e = .returned res ∧ Below w.heap.size w w' := by
  obtain ⟨m, x⟩ := laid_nil Tryz.prog w
  obtain ⟨v, h1, n1, L, e1, hn, _, rfl⟩ := r _ _
  obtain ⟨f0, hf0⟩ := callN_ok okd d f vs.toArray _ _ _ h1 n1 L e1
  refine (call_sim ev_names hok ev_mix hkn f0 f vs.toArray _ _ _ h1 n1 L m w vs.toArray (hf0 f0 (Nat.le_refl _)) x.wr (Nat.le_refl _) (flat_vrs ha) (fun b hb _ => x.fresh b hb) x.gl).mono ?_
  rintro e w' ⟨m', v', rfl, hp, hv⟩
  exact ⟨congrArg _ (hr _ _ hv), hp.below⟩
theorem vr_ans (o : Option (List Nat)) (m : Mp) (v : Value) (h : VR m (ansB o) v) : v = ansB o := by
  have g : ∀ {cs : Array Value}, cs.toList.all scalar = true → VR m (.tuple cs) v → v = .tuple cs := by
    intro cs hc h
    cases h with
    | tuple hs => exact congrArg _ (Array.toList_inj.1 (VRs.plain hs hc))
  cases o
  · exact g rfl h
  · exact g rfl h
theorem h_Line (p : Pt) (hp : p.ok = true) (w : World) : Calls Tryz.prog 19 #[.agg p.cells.toArray] w fun e w' => e = .returned (ansB (lineB p)) ∧ Below w.heap.size w w' :=
  callN_flat (vs := [.agg p.cells.toArray]) (lf := 100) (d := 21) ev_prog1 known1 rfl (vr_ans _) fun n h => n_Line (kn := kn1) ⟨rfl, rfl, rfl, rfl⟩ 100 0 n h p hp (Nat.le_refl _)
end Go.Proofs.YtmjolmggelkjlaaGreat
/- Contracts of the library's text builder at this program, laid by hand in the form of the kit's tool. -/
namespace Go.Proofs.YtmjolmggelkjlaaGreat
set_option linter.unusedVariables false
set_option linter.unusedSimpArgs false
open Go.Shelf
def bren : Go.Shelf.Ren := ⟨fun | 166 => 65 | 169 => 66 | 240 => 106 | 276 => 136 | n => n, fun | 70 => 105 | 72 => 107 | 37 => 73 | 127 => 163 | 164 => 197 | 75 => 109 | 80 => 112 | n => n, fun | n => n⟩
theorem lays169 : Go.Proofs.Lays.n169 Tryz.prog bren := {
  mixed := by kernel_rfl
  f169 := Tryz.func66.trans (congrArg some (by kernel_rfl))
  t0 := Tryz.underlying0
  a0 := Tryz.isAgg0
  z0 := Tryz.sizeOf0
  v0 := Tryz.zeroValue0
  t3 := Tryz.underlying3
  a3 := Tryz.isAgg3
  z3 := Tryz.sizeOf3
  v3 := Tryz.zeroValue3
  t9 := Tryz.underlying9
  a9 := Tryz.isAgg9
  z9 := Tryz.sizeOf9
  v9 := Tryz.zeroValue9
  t37 := Tryz.underlying73
  a37 := Tryz.isAgg73
  z37 := Tryz.sizeOf73
  v37 := Tryz.zeroValue73
  t70 := Tryz.underlying105
  a70 := Tryz.isAgg105
  z70 := Tryz.sizeOf105
  v70 := Tryz.zeroValue105
  t72 := Tryz.underlying107
  a72 := Tryz.isAgg107
  z72 := Tryz.sizeOf107
  v72 := Tryz.zeroValue107
  t127 := Tryz.underlying163
  a127 := Tryz.isAgg163
  z127 := Tryz.sizeOf163
  v127 := Tryz.zeroValue163 }
theorem lays166 : Go.Proofs.Lays.n166 Tryz.prog bren := {
  mixed := by kernel_rfl
  f166 := Tryz.func65.trans (congrArg some (by kernel_rfl))
  f240 := Tryz.func106.trans (congrArg some (by kernel_rfl))
  f276 := Tryz.func136.trans (congrArg some (by kernel_rfl))
  t0 := Tryz.underlying0
  a0 := Tryz.isAgg0
  z0 := Tryz.sizeOf0
  v0 := Tryz.zeroValue0
  t3 := Tryz.underlying3
  a3 := Tryz.isAgg3
  z3 := Tryz.sizeOf3
  v3 := Tryz.zeroValue3
  t4 := Tryz.underlying4
  a4 := Tryz.isAgg4
  z4 := Tryz.sizeOf4
  v4 := Tryz.zeroValue4
  t9 := Tryz.underlying9
  a9 := Tryz.isAgg9
  z9 := Tryz.sizeOf9
  v9 := Tryz.zeroValue9
  t20 := Tryz.underlying20
  a20 := Tryz.isAgg20
  z20 := Tryz.sizeOf20
  v20 := Tryz.zeroValue20
  t37 := Tryz.underlying73
  a37 := Tryz.isAgg73
  z37 := Tryz.sizeOf73
  v37 := Tryz.zeroValue73
  t70 := Tryz.underlying105
  a70 := Tryz.isAgg105
  z70 := Tryz.sizeOf105
  v70 := Tryz.zeroValue105
  t72 := Tryz.underlying107
  a72 := Tryz.isAgg107
  z72 := Tryz.sizeOf107
  v72 := Tryz.zeroValue107
  t75 := Tryz.underlying109
  a75 := Tryz.isAgg109
  z75 := Tryz.sizeOf109
  v75 := Tryz.zeroValue109
  t164 := Tryz.underlying197
  a164 := Tryz.isAgg197
  z164 := Tryz.sizeOf197
  v164 := Tryz.zeroValue197 }
theorem bextra : Builder.Extra Tryz.prog bren := {
  sizeBuilder := by kernel_rfl
  liesBuilder := by kernel_rfl
  t5 := Tryz.underlying5
  a5 := Tryz.isAgg5
  z5 := Tryz.sizeOf5
  v5 := Tryz.zeroValue5
  infoByte := by kernel_rfl
  cellsByte := by kernel_rfl
  sizeByte := by kernel_rfl
  neB5 := by decide }
open Go.RowKit in
theorem h_String (B b : Nat) (l : List UInt8) (w : World) (h : Lib.IsBuilder 107 5 B b (Lib.byteCells l) w) (hBw : B ≤ w.heap.size) :
    Calls Tryz.prog 66 #[.pointer (some ⟨b, 0, none⟩)] w fun e w' => e = .returned (.string ⟨l.toArray⟩) ∧ Below B w w' := Any.Builder_String_any lays169 bextra B b l w h hBw
open Go.RowKit in
theorem h_WriteString (B b : Nat) (bs : List Value) (s : ByteArray) (w : World) (h : Lib.IsBuilder 107 5 B b bs w) (hlen : bs.length + s.size ≤ 140737488355328) (hBw : B ≤ w.heap.size) :
    Calls Tryz.prog 65 #[.pointer (some ⟨b, 0, none⟩), .string s] w fun e w' => e = .returned (.tuple #[.int .i64 s.size, .nilIface]) ∧ (Lib.BuilderAt 107 5 B b (.pointer (some ⟨b, 0, none⟩)) (bs ++ Lib.strCells s) w' ∧ Below B w w') := Any.Builder_WriteString lays166 bextra B b bs s w h hlen hBw

end Go.Proofs.YtmjolmggelkjlaaGreat
/- Layer 47: parts as text. -/
namespace Go.Proofs.YtmjolmggelkjlaaGreat
set_option linter.unusedVariables false
set_option linter.unusedSimpArgs false
open Go.RowKit Ip

theorem textB_snoc (l : List Pt) (p : Pt) : textB (l ++ [p]) = match textB l, lineB p with
    | some T, some s => some (T ++ (s ++ [10]))
    | _, _ => none := by
  induction l with
  | nil =>
    show textB [p] = _
    unfold textB
    cases e : lineB p <;> simp [textB]
  | cons q l ih =>
    show textB (q :: (l ++ [p])) = _
    unfold textB
    rw [ih]
    cases lineB q <;> cases textB l <;> cases lineB p <;> simp
theorem textB_none (l : List Pt) {p : Pt} (hp : p ∈ l) (h : lineB p = none) : textB l = none := by
  induction l with
  | nil => cases hp
  | cons q l ih =>
    unfold textB
    rcases List.mem_cons.1 hp with rfl | h1
    · rw [h]
    · rw [ih h1]
      cases lineB q <;> rfl
theorem wordsB_len : ∀ (xs : List Int) (s : List Nat), (wordsB s xs).length ≤ s.length + 20 * xs.length
  | [], s => Nat.le_refl _
  | x :: xs, s => by
    have h1 := wordsB_len xs (s ++ 32 :: numB x)
    have h2 : (numB x).length ≤ 19 := by unfold numB; rw [List.length_map]; exact digs_len _ _
    unfold wordsB
    simp at h1 ⊢
    omega
theorem lineB_len {p : Pt} {s : List Nat} (h : lineB p = some s) : s.length ≤ 150 := by
  have hl8 : (hexB p.sum.toNat).length = 8 := by unfold hexB; simp
  unfold lineB at h
  repeat' split at h
  all_goals first | cases h | skip
  · have := wordsB_len [p.level, p.frm, p.to_] beginB
    simp [beginB] at this ⊢
    omega
  · have := wordsB_len [p.orig, p.last, p.len, p.frm, p.to_] (blockB ++ hexB p.sum.toNat)
    simp [blockB, hl8] at this ⊢
    omega
  · have := wordsB_len [p.frm, p.to_] (endB ++ hexB p.sum.toNat)
    simp [endB, hl8] at this ⊢
    omega
def u8L (l : List Nat) : List UInt8 := l.map UInt8.ofNat
theorem stB_eq (l : List Nat) : stB l = .string ⟨(u8L l).toArray⟩ := rfl
theorem isB_below {T e : TypeId} {B b : Nat} {bs : List Value} {W W' : World} (h : Lib.IsBuilder T e B b bs W) (hb : Below W.heap.size W W') : Lib.IsBuilder T e B b bs W' := by
  have g : ∀ {p}, Lib.BuilderAt T e B b p bs W → Lib.BuilderAt T e B b p bs W' := by
    rintro p ⟨hB, v, hbk, hown, hne⟩
    have lt : ∀ {c} {x : Obj}, W.heap[c]? = some x → W'.heap[c]? = some x := fun hx => (hb.block _ (Array.getElem?_eq_some_iff.1 hx).1).trans hx
    refine ⟨hB, v, lt hbk, ⟨hown.1, ?_⟩, hne⟩
    rcases hown.2 with h1 | ⟨g, cap, cur, h1, h2, h3, h4⟩
    · exact .inl h1
    · exact .inr ⟨g, cap, cur, h1, h2, lt h3, h4⟩
  exact h.elim (fun x => .inl (g x)) (fun x => .inr (g x))
theorem h_Text (a : Option Addr) (n c : Nat) (l : List Pt) (w : World) (hlen : l.length = n) (hn : n ≤ 1000) (hok : ∀ p ∈ l, p.ok = true)
    (hcell : ∀ (i : Nat) (p : Pt), l[i]? = some p → ∃ b o, a = some ⟨b, o, none⟩ ∧ ∀ j v, p.cells[j]? = some v → w.cell? ⟨b, o + i * 8 + j, none⟩ = some v) :
    Calls Tryz.prog 18 #[.slice a n c] w fun e w' => e = .returned (ansB (textB l)) ∧ Below w.heap.size w w' := by
  go_enter Tryz.func18, Tryz.ntmps18
  go_wp2_with fail
  go_loopw [11] (fun i wr => ∃ (k : Nat) (T : List Nat), k ≤ n ∧ i = .int .i64 (k : Nat) ∧ textB (l.take k) = some T ∧ T.length ≤ 200 * k ∧ Hid (Lib.IsBuilder 107 5 w.heap.size w.heap.size (Lib.byteCells (u8L T)) wr ∧ Below w.heap.size w wr)) (fun i wr => n - (intOf i).toNat)
  case atStart => 
    refine ⟨0, [], Nat.zero_le _, rfl, rfl, Nat.le_refl _, ⟨Lib.fresh_isBuilder 107 5 w, ka (kr _) _⟩⟩
  case round =>
    obtain ⟨wo, rfl⟩ : ∃ wo : World, wo = wr := ⟨_, rfl⟩
    obtain ⟨k, T, hk, rfl, hT, hTl, hp⟩ := hrel
    by_cases hlt : k < n
    · obtain ⟨b, o, rfl, hc⟩ := hcell k _ (List.getElem?_eq_getElem (by omega : k < l.length))
      obtain ⟨hb, hB⟩ := hp.out
      have hpo := hok _ (List.getElem_mem (by omega : k < l.length))
      generalize hpe : l[k] = p at hc hpo
      have cc : ∀ j v, p.cells[j]? = some v → wo.cell? ⟨b, o + k * 8 + j, none⟩ = some v := fun j v hv => (hB.cell (World.block_lt_of_cell? _ _ (hc j v hv))).trans (hc j v hv)
      have c0 := cc 0 _ rfl
      have c1 := cc 1 _ rfl
      have c2 := cc 2 _ rfl
      have c3 := cc 3 _ rfl
      have c4 := cc 4 _ rfl
      have c5 := cc 5 _ rfl
      have c6 := cc 6 _ rfl
      have c7 := cc 7 _ rfl
      rw [Nat.add_zero] at c0
      have HB := Lib.hid hB
      have HBK := Lib.hid hb
      clear hc cc hp hb hB hcell
      go_wp2_with fail
      obtain ⟨w1, hw1⟩ : ∃ w1 : World, wo.alloc (Obj.cells #[.int .i64 p.what, .int .i64 p.level, .int .i64 p.frm, .int .i64 p.to_, .int .u32 p.sum, .int .i64 p.orig, .int .i64 p.last, .int .i64 p.len] 33) = w1 := ⟨_, rfl⟩
      have hB1 : Below wo.heap.size wo w1 := by rw [← hw1]; exact ka (kr _) _
      rw [hw1]
      refine (h_Line p hpo w1).mono ?_
      rintro e w2 ⟨rfl, hB2⟩
      have hB3 : Below wo.heap.size wo w2 := hB1.trans (hB2.mono hB1.size)
      have hbd := isB_below HBK.out hB3
      have hb3 : Below w.heap.size w w2 := HB.out.trans (hB3.mono HB.out.size)
      clear HBK HB hB1 hB2 hB3 hw1
      have HB := Lib.hid hb3
      have HBK := Lib.hid hbd
      clear hbd hb3 c0 c1 c2 c3 c4 c5 c6 c7
      cases hL : lineB p with
      | none =>
        have hN := textB_none l (p := p) (by rw [← hpe]; exact List.getElem_mem _) hL
        rw [show ansB none = .tuple #[.string ⟨#[]⟩, .int .i64 1] from rfl]
        go_wp2_with fail
        rw [hN]
        go_ret2
        exact ⟨rfl, HB.out⟩
      | some s =>
        rw [show ansB (some s) = .tuple #[.string ⟨(u8L s).toArray⟩, .int .i64 0] from rfl]
        have sl := lineB_len hL
        have ul : (u8L s).length = s.length := by unfold u8L; rw [List.length_map]
        have hT1 : textB (l.take (k + 1)) = some (T ++ (s ++ [10])) := by
          rw [List.take_succ_eq_append_getElem (by omega), textB_snoc, hT, hpe, hL]
        go_wp2_with fail
        refine (h_WriteString _ _ _ _ _ HBK.out (by
          have e1 : (u8L T).length = T.length := by simp [u8L]
          have e2 : (⟨(u8L s).toArray⟩ ++ ⟨#[10]⟩ : ByteArray).size = (u8L s).length + 1 := by rw [ByteArray.size_append]; rfl
          rw [Lib.byteCells_length, e1, e2]
          omega) HB.out.size).mono ?_
        rintro e w3 ⟨rfl, hbd, hB3⟩
        have hn1 : Hid (Lib.IsBuilder 107 5 w.heap.size w.heap.size (Lib.byteCells (u8L (T ++ (s ++ [10])))) w3 ∧ Below w.heap.size w w3) := by
          refine ⟨.inr ?_, HB.out.trans hB3⟩
          have e : Lib.byteCells (u8L T) ++ Lib.strCells (⟨(u8L s).toArray⟩ ++ ⟨#[10]⟩) = Lib.byteCells (u8L (T ++ (s ++ [10]))) := by
            simp [Lib.byteCells, Lib.strCells, u8L]
          rw [e] at hbd
          exact hbd
        clear hbd hB3 HB HBK
        go_wp2_with fail
        exact ⟨⟨k + 1, _, by omega, by go_num, hT1, by simp; omega, hn1⟩, by simp [intOf]; omega⟩
    · obtain rfl : k = n := by omega
      obtain ⟨hb, hB⟩ := hp.out
      rw [List.take_of_length_le (by omega)] at hT
      have HB := Lib.hid hB
      have HBK := Lib.hid hb
      clear hp hb hB
      go_wp2_with fail
      refine (h_String _ _ _ _ HBK.out HB.out.size).mono ?_
      rintro e w3 ⟨rfl, hB3⟩
      have hB4 := Lib.hid (HB.out.trans hB3)
      clear HB HBK hB3
      go_wp2_with fail
      rw [hT]
      go_ret2
      exact ⟨rfl, hB4.out⟩
end Go.Proofs.YtmjolmggelkjlaaGreat
/- Layer 47: the functions that are known by what they yield. -/
namespace Go.Proofs.YtmjolmggelkjlaaGreat
set_option linter.unusedVariables false
set_option linter.unusedSimpArgs false
open Go.RowKit Ev Ip

theorem ptsOf_spec : ∀ (l : List Pt) (cs : List Value), ptsOf cs = some l → cs = l.flatMap Pt.cells ∧ ∀ p ∈ l, p.ok = true := by
  intro l
  induction l with
  | nil =>
    intro cs h
    unfold ptsOf at h
    split at h
    · exact ⟨rfl, fun p hp => by cases hp⟩
    · split at h
      · split at h <;> cases h
      · cases h
    · cases h
  | cons q l ih =>
    intro cs h
    unfold ptsOf at h
    split at h
    · cases h
    · split at h
      · rename_i l' hl
        split at h
        · rename_i ho
          cases h
          obtain ⟨e, k⟩ := ih _ hl
          refine ⟨by rw [e]; rfl, fun p hp => ?_⟩
          rcases List.mem_cons.1 hp with rfl | hp
          · exact ho
          · exact k p hp
        · cases h
      · cases h
    · cases h
theorem ptsF_len (l : List Pt) : (l.flatMap Pt.cells).length = l.length * 8 := by
  induction l with
  | nil => rfl
  | cons q l ih =>
    rw [List.flatMap_cons, List.length_append, ih]
    show 8 + l.length * 8 = (l.length + 1) * 8
    omega
theorem ptsF_at : ∀ (l : List Pt) (i j : Nat) (p : Pt) (v : Value), l[i]? = some p → p.cells[j]? = some v → (l.flatMap Pt.cells)[i * 8 + j]? = some v
  | [], _, _, _, _, h, _ => by cases h
  | q :: l, 0, j, p, v, h, hv => by
    cases h
    have hj : j < q.cells.length := (List.getElem?_eq_some_iff.1 hv).1
    rw [List.flatMap_cons, Nat.zero_mul, Nat.zero_add, List.getElem?_append_left hj]
    exact hv
  | q :: l, i + 1, j, p, v, h, hv => by
    have := ptsF_at l i j p v h hv
    have e : (i + 1) * 8 + j = q.cells.length + (i * 8 + j) := by show _ = 8 + _; omega
    rw [List.flatMap_cons, e, List.getElem?_append_right (Nat.le_add_right _ _), Nat.add_sub_cancel_left]
    exact this
theorem vr_ansB (o : Option (List Nat)) (m : Mp) : VR m (ansB o) (ansB o) := by
  cases o
  · exact .tuple (flat_vrs rfl)
  · exact .tuple (flat_vrs rfl)
theorem nat_text (a : Option Addr) (n c : Nat) (cs : List Value) (v : Value) (w : World) (hl : cs.length = n * 8) (ha : ∀ i v, cs[i]? = some v → ∃ b o, a = some ⟨b, o, none⟩ ∧ w.cell? ⟨b, o + i, none⟩ = some v) (h : textN n cs = some v) :
    (∀ m, VR m v v) ∧ Calls Tryz.prog 18 #[.slice a n c] w fun e w' => e = .returned v ∧ Below w.heap.size w w' := by
  unfold textN at h
  split at h
  · rename_i hn
    cases hp : ptsOf cs with
    | none => rw [hp] at h; cases h
    | some l =>
      rw [hp] at h
      cases h
      obtain ⟨e, ok⟩ := ptsOf_spec _ _ hp
      have h8 := ptsF_len l
      rw [← e, hl] at h8
      refine ⟨vr_ansB _, h_Text a n c l w (by omega) hn ok fun i p hi => ?_⟩
      have k0 := ptsF_at l i 0 p _ hi rfl
      rw [← e] at k0
      obtain ⟨b, o, rfl, _⟩ := ha _ _ k0
      refine ⟨b, o, rfl, fun j v hv => ?_⟩
      have kj := ptsF_at l i j p _ hi hv
      rw [← e] at kj
      obtain ⟨b', o', e2, hc⟩ := ha _ _ kj
      cases e2
      rw [Nat.add_assoc]
      exact hc
  · cases h
theorem nat_all {kn : List FuncId} (hk : ∀ f k, kn.contains f = true → natOf f = some k → (f = 68 ∧ k = 3) ∨ (f = 18 ∧ k = 4)) : Ev.NatKnown Tryz.prog kn := by
  intro f k hb hf
  rcases hk f k hb hf with ⟨rfl, rfl⟩ | ⟨rfl, rfl⟩
  · exact ⟨fun e => (by cases e), fun e => (by cases e), fun _ args v w _ h => nat_hexed args v w h, fun e => (by cases e)⟩
  · refine ⟨fun e => (by cases e), fun e => (by cases e), fun e => (by cases e), fun _ => ⟨fun v w h => nat_text none 0 0 [] v w rfl (fun i v h => by cases h) h, fun b o n c cs v w hl _ hc _ h => nat_text _ n c cs v w hl (fun i v hi => ⟨b, o, rfl, hc i v hi⟩) h⟩⟩
end Go.Proofs.YtmjolmggelkjlaaGreat
/- The closed test of layer 47, run quickly. -/
namespace Go.Proofs.YtmjolmggelkjlaaGreat
set_option linter.unusedVariables false
set_option linter.unusedSimpArgs false
open Go.RowKit Ev

theorem ev_prog0 : Ev.okProg Tryz.prog kn0 = true := by kernel_rfl
theorem ev_progK : Ev.okProg Tryz.prog Ev.KN = true := by kernel_rfl
theorem bad_known : Ev.Known Tryz.prog kn0 := by
  refine ⟨fun f hf hn hp w _ => ?_, nat_all fun f k hb hf => ?_⟩
  · have hb : f = 65 ∨ f = 68 ∨ f = 18 := by simpa [kn0] using hf
    rcases hb with rfl | rfl | rfl
    · have e : Ev.noPar Tryz.prog 65 = false := by kernel_rfl
      exact absurd (e.symm.trans hp) (by decide)
    · exact absurd hn (by decide)
    · exact absurd hn (by decide)
  · have hb : f = 65 ∨ f = 68 ∨ f = 18 := by simpa [kn0] using hb
    rcases hb with rfl | rfl | rfl
    · cases hf
    · cases hf; exact .inl ⟨rfl, rfl⟩
    · cases hf; exact .inr ⟨rfl, rfl⟩
set_option maxRecDepth 100000 in
theorem q_nothing : Ev.yieldsTrue ((inside (b_balerlaw47_nothing 300000000 (fast 300000000 1000))) .nil Tryz.prog.globals.size) = true := by kernel_rfl
theorem l_nothing (w : World) : Calls Tryz.prog 12 #[] w fun e w' => e = .returned (.bool true) ∧ Below w.heap.size w w' := by
  obtain ⟨m, x⟩ := laid_nil Tryz.prog w
  refine Ev.closedN (kn := kn0) ev_names ev_prog0 ev_mix bad_known okd x (gt := gt) (lf := 300000000) (d := 1001) ?_
  have := q_nothing
  rw [fast_eq, shN st_balerlaw47_nothing] at this
  exact this
theorem known : Ev.Known Tryz.prog Ev.KN := by
  refine ⟨fun f hf hn hp w _ => ?_, nat_all fun f k hb hf => ?_⟩
  · have hb : f = 12 ∨ f = 65 ∨ f = 68 ∨ f = 18 := by simpa [Ev.KN] using hf
    rcases hb with rfl | rfl | rfl | rfl
    · exact l_nothing w
    · have e : Ev.noPar Tryz.prog 65 = false := by kernel_rfl
      exact absurd (e.symm.trans hp) (by decide)
    · exact absurd hn (by decide)
    · exact absurd hn (by decide)
  · have hb : f = 12 ∨ f = 65 ∨ f = 68 ∨ f = 18 := by simpa [Ev.KN] using hb
    rcases hb with rfl | rfl | rfl | rfl
    · cases hf
    · cases hf
    · cases hf; exact .inl ⟨rfl, rfl⟩
    · cases hf; exact .inr ⟨rfl, rfl⟩
end Go.Proofs.YtmjolmggelkjlaaGreat
/- Layer 47: a row of parts as an argument. (theorem st_: none here) -/
namespace Go.Proofs.YtmjolmggelkjlaaGreat
set_option linter.unusedVariables false
set_option linter.unusedSimpArgs false
open Go.RowKit Ev Ip
set_option maxRecDepth 20000

def PRow (h : H) (n : Nat) (v : Value) (l : List Pt) : Prop := (∃ a, v = .slice a 0 0 ∧ (∀ b o, a ≠ some ⟨b, o, none⟩) ∧ l = []) ∨ ∃ b, v = .slice (some ⟨b, 0, none⟩) l.length (CAP + l.length) ∧ h.get b = some ⟨33, false, l.flatMap Pt.cells⟩ ∧ b < n
def ptTs : List TypeId := [3, 3, 3, 3, 31, 3, 3, 3]
theorem pt_ts : cellTs Tryz.prog 8 33 = some ptTs := by kernel_rfl
theorem wfu32 {i : Int} (h : (Lit.int .u32 i).wf = true) : 0 ≤ i ∧ i < 4294967296 := by
  have e1 : IntKind.u32.min = 0 := rfl
  have e2 : IntKind.u32.max = 4294967295 := rfl
  simp only [Lit.wf, e1, e2, Bool.and_eq_true, decide_eq_true_eq] at h
  omega
theorem rep_i64 {h : H} {n f : Nat} {v : Value} (x : RepH1 Tryz.prog h n (f + 1) 3 v) : ∃ i, v = .int .i64 i ∧ i64ok i = true := by
  obtain ⟨i, rfl, hw⟩ := rep_int (P := Tryz.prog) (f := f) Tryz.underlying3 x
  have := wf64 hw
  refine ⟨i, rfl, ?_⟩
  unfold i64ok
  rw [decide_eq_true this.1, decide_eq_true this.2]
  rfl
theorem rep_u32 {h : H} {n f : Nat} {v : Value} (x : RepH1 Tryz.prog h n (f + 1) 31 v) : ∃ i, v = .int .u32 i ∧ 0 ≤ i ∧ i < 4294967296 := by
  obtain ⟨i, rfl, hw⟩ := rep_int (P := Tryz.prog) (f := f) Tryz.underlying31 x
  exact ⟨i, rfl, wfu32 hw⟩
theorem chunk_pt {h : H} {n f : Nat} {cs : List Value} (hl : cs.length = 8) (x : All2 (RepH1 Tryz.prog h n (f + 1)) ptTs cs) : ∃ p : Pt, cs = p.cells ∧ p.ok = true := by
  match cs, hl with
  | [c0, c1, c2, c3, c4, c5, c6, c7], _ =>
    obtain ⟨x0, x1, x2, x3, x4, x5, x6, x7, _⟩ := x
    obtain ⟨i0, rfl, k0⟩ := rep_i64 x0
    obtain ⟨i1, rfl, k1⟩ := rep_i64 x1
    obtain ⟨i2, rfl, k2⟩ := rep_i64 x2
    obtain ⟨i3, rfl, k3⟩ := rep_i64 x3
    obtain ⟨i4, rfl, k4⟩ := rep_u32 x4
    obtain ⟨i5, rfl, k5⟩ := rep_i64 x5
    obtain ⟨i6, rfl, k6⟩ := rep_i64 x6
    obtain ⟨i7, rfl, k7⟩ := rep_i64 x7
    refine ⟨⟨i0, i1, i2, i3, i4, i5, i6, i7⟩, rfl, ?_⟩
    unfold Pt.ok
    simp [k0, k1, k2, k3, k4, k5, k6, k7]
theorem chunks_pts {h : H} {n f : Nat} : ∀ (m : Nat) (cs : List Value), cs.length = m * 8 → (∀ i, i < m → All2 (RepH1 Tryz.prog h n (f + 1)) ptTs ((cs.drop (i * 8)).take 8)) → ∃ l : List Pt, l.length = m ∧ cs = l.flatMap Pt.cells ∧ ∀ p ∈ l, p.ok = true
  | 0, cs, hl, _ => ⟨[], rfl, List.length_eq_zero_iff.1 (by omega), fun p hp => by cases hp⟩
  | m + 1, cs, hl, hx => by
    have x0 := hx 0 (Nat.zero_lt_succ _)
    rw [Nat.zero_mul, List.drop_zero] at x0
    obtain ⟨p, e, ho⟩ := chunk_pt (by rw [List.length_take]; omega) x0
    obtain ⟨l, h1, h2, h3⟩ := chunks_pts m (cs.drop 8) (by rw [List.length_drop]; omega) fun i hi => by
      have := hx (i + 1) (by omega)
      rw [List.drop_drop]
      rw [show 8 + i * 8 = (i + 1) * 8 by omega]
      exact this
    refine ⟨p :: l, by rw [List.length_cons, h1], ?_, fun q hq => ?_⟩
    · rw [List.flatMap_cons, ← e, ← h2, List.take_append_drop]
    · rcases List.mem_cons.1 hq with rfl | hq
      · exact ho
      · exact h3 q hq
theorem rep_pts {h : H} {n : Nat} {v : Value} (x : ArgH Tryz.prog h n 23 v) : ∃ l, PRow h n v l ∧ l.length ≤ maxLen ∧ ∀ p ∈ l, p.ok = true := by
  have ct : cellTs Tryz.prog 8 23 = some [23] := by kernel_rfl
  have na : isAggT Tryz.prog 23 = false := by kernel_rfl
  obtain ⟨ts, hts, q⟩ := x
  rw [ct] at hts
  cases hts
  rcases q with ⟨q, _⟩ | ⟨_, q⟩
  · rw [na] at q; cases q
  · have q1 := q.1
    unfold RepH1 at q1
    rw [Tryz.underlying23] at q1
    rcases q1 with ⟨a, rfl, hne⟩ | ⟨b, len, ts, cs, rfl, ht, h0, hg, hb, hl, hm, hall⟩
    · exact ⟨[], .inl ⟨a, rfl, hne, rfl⟩, Nat.zero_le _, fun p hp => by cases hp⟩
    · rw [pt_ts] at ht
      cases ht
      obtain ⟨l, rfl, rfl, h3⟩ := chunks_pts len cs hl hall
      exact ⟨l, .inr ⟨b, rfl, hg, hb⟩, hm, h3⟩
theorem PRow.keep {h h' : H} {n n' : Nat} {v : Value} {l : List Pt} (x : PRow h n v l) (hn : n ≤ n') (hk : ∀ b, b < n → h'.get b = h.get b) : PRow h' n' v l := by
  rcases x with q | ⟨b, e, g, hb⟩
  · exact .inl q
  · exact .inr ⟨b, e, (hk b hb).trans g, by omega⟩
theorem PRow.len {h : H} {n : Nat} {v : Value} {l : List Pt} (x : PRow h n v l) : ∃ a c, v = .slice a l.length c := by
  rcases x with ⟨a, rfl, _, rfl⟩ | ⟨b, rfl, _⟩
  · exact ⟨_, _, rfl⟩
  · exact ⟨_, _, rfl⟩
theorem ptsF_sub : ∀ (l : List Pt) (i : Nat) (p : Pt), l[i]? = some p → ((l.flatMap Pt.cells).drop (i * 8)).take 8 = p.cells
  | [], _, _, h => by cases h
  | q :: l, 0, p, h => by
    cases h
    rw [List.flatMap_cons, Nat.zero_mul, List.drop_zero]
    exact List.take_left' rfl
  | q :: l, i + 1, p, h => by
    have := ptsF_sub l i p h
    rw [List.flatMap_cons, show (i + 1) * 8 = 8 + i * 8 by omega, ← List.drop_drop, show List.drop 8 (q.cells ++ l.flatMap Pt.cells) = l.flatMap Pt.cells from rfl]
    exact this
section
variable {β : Type} {W : Nat → Prop} {n0 : Nat} {h : H} {n : Nat} {Q : β → H → Nat → Prop} {v : Value} {l : List Pt}
/-- a part of a row, taken into a variable of its own -/
theorem run_part (x : PRow h n v l) {i : Nat} {p : Pt} (hp : l[i]? = some p) (hn0 : n0 ≤ n) (k : Value → M β)
    (y : ∀ h', h'.get n = some ⟨33, true, p.cells⟩ → (∀ c, c < n → h'.get c = h.get c) → Run W n0 (k (.pointer (some ⟨n, 0, none⟩))) h' (n + 1) Q) :
    Run W n0 (kiy 8 v (.int .i64 (i : Int)) fun j => klg 8 j fun q => kal 33 z33 fun m => ksg 8 m q fun _ => k m) h n Q := by
  have hi : i < l.length := (List.getElem?_eq_some_iff.1 hp).1
  rcases x with ⟨a, rfl, _, rfl⟩ | ⟨b, rfl, hg, hb⟩
  · cases hp
  · rw [s_iy _ 8 b 0 l.length (CAP + l.length) .i64 (i : Int) (by omega) (by omega)]
    have e0 : 0 + (i : Int).toNat * 8 = i * 8 := by rw [Int.toNat_natCast]; omega
    rw [e0]
    have hl := ptsF_len l
    refine run_lda0 trivial trivial b (i * 8) _ hg hb (show i * 8 + 8 ≤ (l.flatMap Pt.cells).length by omega) ?_
    refine run_alloc rfl _ ?_
    have e1 : ((l.flatMap Pt.cells).drop (i * 8)).take 8 = p.cells := ptsF_sub l i p hp
    show Run W n0 (ksg 8 (.pointer (some ⟨n, 0, none⟩)) (.agg (((l.flatMap Pt.cells).drop (i * 8)).take 8).toArray) _) _ _ Q
    rw [e1]
    refine run_sta (sz := 8) (off := 0) (e := 33) (cs := z33) trivial (vs := p.cells) rfl rfl rfl (get_eq _ _ _) (by omega) (by decide) (.inl hn0) _ fun h' g' k' => ?_
    exact y h' g' fun c hc => by rw [k' c (by omega), get_ne _ _ (by omega)]
end
end Go.Proofs.YtmjolmggelkjlaaGreat
/- Layer 47: the references' digits, words, digits of a sum. -/
namespace Go.Proofs.YtmjolmggelkjlaaGreat
set_option linter.unusedVariables false
set_option linter.unusedSimpArgs false
open Go.RowKit Ev Ip

theorem ten_sx : ∀ (q : Nat), q < 10 → ∀ (k : Value → M Value), ksx (.string ⟨#[48, 49, 50, 51, 52, 53, 54, 55, 56, 57]⟩) (some (.int .i64 (q : Int))) (some (.int .i64 ((q : Int) + 1))) k = k (stB [48 + q])
  | 0, _, _ => rfl
  | 1, _, _ => rfl
  | 2, _, _ => rfl
  | 3, _, _ => rfl
  | 4, _, _ => rfl
  | 5, _, _ => rfl
  | 6, _, _ => rfl
  | 7, _, _ => rfl
  | 8, _, _ => rfl
  | 9, _, _ => rfl
  | q + 10, h, _ => by omega
theorem hex_sx : ∀ (q : Nat), q < 16 → ∀ (k : Value → M Value), ksx (.string ⟨#[48, 49, 50, 51, 52, 53, 54, 55, 56, 57, 97, 98, 99, 100, 101, 102]⟩) (some (.int .u32 (q : Int))) (some (.int .u32 ((q : Int) + 1))) k = k (stB [hexD q])
  | 0, _, _ => rfl
  | 1, _, _ => rfl
  | 2, _, _ => rfl
  | 3, _, _ => rfl
  | 4, _, _ => rfl
  | 5, _, _ => rfl
  | 6, _, _ => rfl
  | 7, _, _ => rfl
  | 8, _, _ => rfl
  | 9, _, _ => rfl
  | 10, _, _ => rfl
  | 11, _, _ => rfl
  | 12, _, _ => rfl
  | 13, _, _ => rfl
  | 14, _, _ => rfl
  | 15, _, _ => rfl
  | q + 16, h, _ => by omega
def preB (k x : Nat) : List Nat := if x < 10 then [] else dgB k (x / 10)
theorem dgB_pre (k x : Nat) : dgB (k + 1) x = preB k x ++ [48 + x % 10] := by
  unfold dgB preB digs
  by_cases h : x < 10
  · rw [if_pos h, if_pos h, Nat.mod_eq_of_lt h]; rfl
  · rw [if_neg h, if_neg h, List.map_append]; rfl
section
variable {lf d : Nat}
theorem rdig_loop {n0 : Nat} (b d1 : Value) : ∀ (k x fu n : Nat) (h : H) (out : List Nat), x < 10 ^ (k + 1) → x ≤ 9223372036854775807 → k < fu → out.length + k ≤ 100 → n0 ≤ n →
    Run (fun _ => False) n0 (lpA_balerref25_Digits lf ((evCall2 Tryz.prog gt lf d)) fu (kcA_balerref25_Digits lf ((evCall2 Tryz.prog gt lf d))) (.int .i64 (x : Int)) b (stB out) d1) h n fun v' h' n' => v' = stB (preB k x ++ out) ∧ h' = h ∧ n' = n := by
  intro k
  induction k generalizing b with
  | zero =>
    intro x fu n h out hx hx2 hf hl hn
    obtain ⟨fu, rfl⟩ : ∃ f, fu = f + 1 := ⟨fu - 1, by omega⟩
    have hx : x < 10 := by simpa using hx
    have c1 : ¬ (10 : Int) ≤ (x : Int) := by omega
    rw [lpA_balerref25_Digits]
    try simp (disch := first | omega | assumption | exact Int.natCast_nonneg _) only [RXA, RXB, Nat.reduceAdd, Nat.reduceLT, wrap_id, wrap_succ, wrap_pred, zr33, zr34, zr43, zr51, zr60, zr67, zr73, zr85, zr87, zr98, zr107, zr120, zr126, zr132, zr134, zr139, zr142, zr144, zr150, zr152, zr157, zr159, zr168, zr171, zr185, zr188, zr207, zr212, zr224, zr228, zr233, zr235, zr243, zr252, zr255, zr269, zr280, zr282, zr299, zr317, zr328, zr333, c1]
    unfold kcA_balerref25_Digits preB
    rw [if_pos hx]
    try simp (disch := first | omega | assumption | exact Int.natCast_nonneg _) only [RXA, RXB, Nat.reduceAdd, Nat.reduceLT, wrap_id, wrap_succ, wrap_pred, zr33, zr34, zr43, zr51, zr60, zr67, zr73, zr85, zr87, zr98, zr107, zr120, zr126, zr132, zr134, zr139, zr142, zr144, zr150, zr152, zr157, zr159, zr168, zr171, zr185, zr188, zr207, zr212, zr224, zr228, zr233, zr235, zr243, zr252, zr255, zr269, zr280, zr282, zr299, zr317, zr328, zr333]
    first | exact ⟨rfl, rfl, rfl⟩ | rfl
  | succ k ih =>
    intro x fu n h out hx hx2 hf hl hn
    obtain ⟨fu, rfl⟩ : ∃ f, fu = f + 1 := ⟨fu - 1, by omega⟩
    rw [lpA_balerref25_Digits]
    by_cases h10 : x < 10
    · have c1 : ¬ (10 : Int) ≤ (x : Int) := by omega
      try simp (disch := first | omega | assumption | exact Int.natCast_nonneg _) only [RXA, RXB, Nat.reduceAdd, Nat.reduceLT, wrap_id, wrap_succ, wrap_pred, zr33, zr34, zr43, zr51, zr60, zr67, zr73, zr85, zr87, zr98, zr107, zr120, zr126, zr132, zr134, zr139, zr142, zr144, zr150, zr152, zr157, zr159, zr168, zr171, zr185, zr188, zr207, zr212, zr224, zr228, zr233, zr235, zr243, zr252, zr255, zr269, zr280, zr282, zr299, zr317, zr328, zr333, c1]
      unfold kcA_balerref25_Digits preB
      rw [if_pos h10]
      try simp (disch := first | omega | assumption | exact Int.natCast_nonneg _) only [RXA, RXB, Nat.reduceAdd, Nat.reduceLT, wrap_id, wrap_succ, wrap_pred, zr33, zr34, zr43, zr51, zr60, zr67, zr73, zr85, zr87, zr98, zr107, zr120, zr126, zr132, zr134, zr139, zr142, zr144, zr150, zr152, zr157, zr159, zr168, zr171, zr185, zr188, zr207, zr212, zr224, zr228, zr233, zr235, zr243, zr252, zr255, zr269, zr280, zr282, zr299, zr317, zr328, zr333]
      first | exact ⟨rfl, rfl, rfl⟩ | rfl
    · have c1 : (10 : Int) ≤ (x : Int) := by omega
      have sx := fun (K : Value → M Value) => ten_sx (x / 10 % 10) (by omega) K
      have ad := fun (K : Value → M Value) => stB_add [48 + x / 10 % 10] out (by simp; omega) K
      try simp (disch := first | omega | assumption | exact Int.natCast_nonneg _) only [RXA, RXB, Nat.reduceAdd, Nat.reduceLT, wrap_id, wrap_succ, wrap_pred, zr33, zr34, zr43, zr51, zr60, zr67, zr73, zr85, zr87, zr98, zr107, zr120, zr126, zr132, zr134, zr139, zr142, zr144, zr150, zr152, zr157, zr159, zr168, zr171, zr185, zr188, zr207, zr212, zr224, zr228, zr233, zr235, zr243, zr252, zr255, zr269, zr280, zr282, zr299, zr317, zr328, zr333, c1, tdiv10, tmod10]
      rw [sx]
      rw [ad]
      have := ih b (x / 10) fu n h ([48 + x / 10 % 10] ++ out) (by rw [Nat.pow_succ] at hx; omega) (by omega) (by omega) (by simp; omega) hn
      have e : preB k (x / 10) ++ ([48 + x / 10 % 10] ++ out) = preB (k + 1) x ++ out := by
        rw [← List.append_assoc, ← dgB_pre]
        unfold preB
        rw [if_neg h10]
      rw [e] at this
      exact this
theorem s_RDigits (n : Nat) (h : H) {x : Nat} (hx : x ≤ 9223372036854775807) (hlf : 100 ≤ lf) : Run (fun _ => False) n (evCall2 Tryz.prog gt lf (d + 1) 52 #[.int .i64 (x : Int)]) h n fun v' h' n' => v' = stB (dgB 19 x) ∧ h' = h ∧ n' = n := by
  have c1 : ¬ (x : Int) < 0 := by omega
  have sx := fun (K : Value → M Value) => ten_sx (x % 10) (by omega) K
  rw [shOf (fun _ => st_balerref25_Digits) rfl]
  refine Run.inside_ ?_
  unfold b_balerref25_Digits
  try simp (disch := first | omega | assumption | exact Int.natCast_nonneg _) only [RXA, RXB, Nat.reduceAdd, Nat.reduceLT, wrap_id, wrap_succ, wrap_pred, zr33, zr34, zr43, zr51, zr60, zr67, zr73, zr85, zr87, zr98, zr107, zr120, zr126, zr132, zr134, zr139, zr142, zr144, zr150, zr152, zr157, zr159, zr168, zr171, zr185, zr188, zr207, zr212, zr224, zr228, zr233, zr235, zr243, zr252, zr255, zr269, zr280, zr282, zr299, zr317, zr328, zr333, c1, tmod10]
  rw [sx, dgB_pre]
  exact rdig_loop _ _ 18 x lf n h [48 + x % 10] (by omega) hx (by omega) (by simp) (Nat.le_refl _)
theorem rwords_loop (n0 : Nat) {a0 e0 : Value} : ∀ (xs : List Int) (m i fu n : Nat) (h : H) (s : List Nat) (v : Value) (ys : List Int), Row h n 3 .i64 v ys → ys.drop i = xs → xs.length = m → m < fu → (∀ x ∈ ys, 0 ≤ x ∧ x ≤ 9223372036854775807) → ys.length ≤ 10 → s.length + 30 * m ≤ 1000000 → i ≤ ys.length → n0 ≤ n → 100 ≤ lf →
    Run (fun _ => False) n0 (lpA_balerref47_words lf (evCall2 Tryz.prog gt lf (d + 1)) fu (kcA_balerref47_words lf (evCall2 Tryz.prog gt lf (d + 1))) (stB s) a0 e0 v (.int .i64 (ys.length : Int)) (.int .i64 (i : Int))) h n fun v' h' n' => v' = stB (wordsB s xs) := by
  intro xs
  induction xs with
  | nil =>
    intro m i fu n h s v ys hR hd hm hf hx hl hs hi hn0 hlf
    obtain ⟨fu, rfl⟩ : ∃ f, fu = f + 1 := ⟨fu - 1, by omega⟩
    have : i = ys.length := by
      have := congrArg List.length hd
      simp at this
      omega
    subst this
    rw [lpA_balerref47_words]
    try simp (disch := first | omega | assumption | exact Int.natCast_nonneg _) only [RXA, RXB, Nat.reduceAdd, Nat.reduceLT, wrap_id, wrap_succ, wrap_pred, zr33, zr34, zr43, zr51, zr60, zr67, zr73, zr85, zr87, zr98, zr107, zr120, zr126, zr132, zr134, zr139, zr142, zr144, zr150, zr152, zr157, zr159, zr168, zr171, zr185, zr188, zr207, zr212, zr224, zr228, zr233, zr235, zr243, zr252, zr255, zr269, zr280, zr282, zr299, zr317, zr328, zr333, Int.lt_irrefl]
    unfold kcA_balerref47_words
    try simp (disch := first | omega | assumption | exact Int.natCast_nonneg _) only [RXA, RXB, Nat.reduceAdd, Nat.reduceLT, wrap_id, wrap_succ, wrap_pred, zr33, zr34, zr43, zr51, zr60, zr67, zr73, zr85, zr87, zr98, zr107, zr120, zr126, zr132, zr134, zr139, zr142, zr144, zr150, zr152, zr157, zr159, zr168, zr171, zr185, zr188, zr207, zr212, zr224, zr228, zr233, zr235, zr243, zr252, zr255, zr269, zr280, zr282, zr299, zr317, zr328, zr333]
    rfl
  | cons x xs ih =>
    intro m i fu n h s v ys hR hd hm hf hx hl hs hi hn0 hlf
    obtain ⟨fu, rfl⟩ : ∃ f, fu = f + 1 := ⟨fu - 1, by simp at hm; omega⟩
    have hlt : i < ys.length := by
      have := congrArg List.length hd
      simp at this
      omega
    have hxi : ys[i] = x := by
      have := congrArg (·[0]?) hd
      simp at this
      rw [List.getElem?_eq_getElem hlt] at this
      simpa using this
    have hb := hx x (by rw [← hxi]; exact List.getElem_mem _)
    obtain ⟨y, rfl⟩ : ∃ y : Nat, x = y := ⟨x.toNat, by omega⟩
    obtain ⟨bb, off, cap, o, ks, rfl, hg, hbn, _, _, _, hat⟩ := hR.some (by omega)
    have a1 := hat i hlt
    have e0 : ys.getD i 0 = (y : Int) := by rw [List.getD_eq_getElem?_getD, List.getElem?_eq_getElem hlt, hxi]; rfl
    rw [e0] at a1
    have e1 : ((i : Nat) : Int) < ((ys.length : Nat) : Int) := by omega
    have l1 := dgB_len 19 y
    have w1 : ((i : Nat) : Int) + 1 = ((i + 1 : Nat) : Int) := rfl
    simp only [List.length_cons] at hm
    have ad1 := fun (K : Value → M Value) => stB_add s [32] (by simp; omega) K
    have ad2 := fun (K : Value → M Value) => stB_add (s ++ [32]) (dgB 19 y) (by simp; omega) K
    rw [lpA_balerref47_words]
    try simp (disch := first | omega | assumption | exact Int.natCast_nonneg _) only [RXA, RXB, Nat.reduceAdd, Nat.reduceLT, wrap_id, wrap_succ, wrap_pred, zr33, zr34, zr43, zr51, zr60, zr67, zr73, zr85, zr87, zr98, zr107, zr120, zr126, zr132, zr134, zr139, zr142, zr144, zr150, zr152, zr157, zr159, zr168, zr171, zr185, zr188, zr207, zr212, zr224, zr228, zr233, zr235, zr243, zr252, zr255, zr269, zr280, zr282, zr299, zr317, zr328, zr333, e1, hg, a1]
    show Run (fun _ => False) n0 (kad (stB s) (stB [32]) _) h n _
    rw [ad1]
    refine run_same (s_RDigits (lf := lf) (d := d) n h (by omega) hlf) hn0 (fun _ _ h => h.elim) ?_
    rw [ad2]
    try simp (disch := first | omega | assumption | exact Int.natCast_nonneg _) only [RXA, RXB, Nat.reduceAdd, Nat.reduceLT, wrap_id, wrap_succ, wrap_pred, zr33, zr34, zr43, zr51, zr60, zr67, zr73, zr85, zr87, zr98, zr107, zr120, zr126, zr132, zr134, zr139, zr142, zr144, zr150, zr152, zr157, zr159, zr168, zr171, zr185, zr188, zr207, zr212, zr224, zr228, zr233, zr235, zr243, zr252, zr255, zr269, zr280, zr282, zr299, zr317, zr328, zr333]
    rw [w1]
    have := ih (m - 1) (i + 1) fu n h ((s ++ [32]) ++ dgB 19 y) _ ys hR (by rw [← List.tail_drop, hd]; rfl) (by omega) (by omega) hx hl (by simp; omega) (by omega) (by omega) hlf
    have e2 : wordsB (s ++ [32] ++ dgB 19 y) xs = wordsB s ((y : Int) :: xs) := by
      show _ = wordsB (s ++ 32 :: numB (y : Int)) xs
      rw [numB_eq, List.append_assoc]
      rfl
    rw [e2] at this
    exact this
theorem s_RWords (n : Nat) (h : H) (s : List Nat) (v : Value) (ys : List Int) (hR : Row h n 3 .i64 v ys) (hx : ∀ x ∈ ys, 0 ≤ x ∧ x ≤ 9223372036854775807) (hl : ys.length ≤ 10) (hs : s.length ≤ 1000) (hlf : 100 ≤ lf) : Run (fun _ => False) n (evCall2 Tryz.prog gt lf (d + 2) 69 #[stB s, v]) h n fun v' h' n' => v' = stB (wordsB s ys) := by
  rw [shOf (fun _ => st_balerref47_words) rfl]
  refine Run.inside_ ?_
  unfold b_balerref47_words
  obtain ⟨a, c, rfl⟩ := hR.len
  try simp (disch := first | omega | assumption | exact Int.natCast_nonneg _) only [RXA, RXB, Nat.reduceAdd, Nat.reduceLT, wrap_id, wrap_succ, wrap_pred, zr33, zr34, zr43, zr51, zr60, zr67, zr73, zr85, zr87, zr98, zr107, zr120, zr126, zr132, zr134, zr139, zr142, zr144, zr150, zr152, zr157, zr159, zr168, zr171, zr185, zr188, zr207, zr212, zr224, zr228, zr233, zr235, zr243, zr252, zr255, zr269, zr280, zr282, zr299, zr317, zr328, zr333]
  exact rwords_loop n ys ys.length 0 lf n h s _ ys hR (by simp) rfl (by omega) hx hl (by omega) (by omega) (Nat.le_refl _) hlf
def hexP (x i : Nat) : List Nat := (List.range i).map fun j => hexD (x / 16 ^ (i - 1 - j) % 16)
theorem hexP_succ (x i : Nat) : hexP x (i + 1) = hexD (x / 16 ^ i % 16) :: hexP x i := by
  unfold hexP
  rw [List.range_succ_eq_map, List.map_cons, List.map_map]
  congr 1
  apply List.map_congr_left
  intro j hj
  have := List.mem_range.1 hj
  show hexD (x / 16 ^ (i + 1 - 1 - (j + 1)) % 16) = _
  rw [show i + 1 - 1 - (j + 1) = i - 1 - j by omega]
theorem udiv16 (x : Nat) : (x : Int).tdiv 16 = ((x / 16 : Nat) : Int) := rfl
theorem umod16 (x : Nat) : (x : Int).tmod 16 = ((x % 16 : Nat) : Int) := rfl
theorem rhex_loop {n0 : Nat} {b : Value} (x : Nat) (hx : x < 4294967296) : ∀ (m i fu n : Nat) (h : H), i + m = 8 → m < fu → n0 ≤ n →
    Run (fun _ => False) n0 (lpA_balerref47_hex lf ((evCall2 Tryz.prog gt lf d)) fu (kcA_balerref47_hex lf ((evCall2 Tryz.prog gt lf d))) (.int .u32 ((x / 16 ^ i : Nat) : Int)) b (stB (hexP x i)) (.int .i64 (i : Int))) h n fun v' h' n' => v' = stB (hexB x) ∧ h' = h ∧ n' = n := by
  intro m
  induction m with
  | zero =>
    intro i fu n h hi hf hn
    obtain ⟨fu, rfl⟩ : ∃ f, fu = f + 1 := ⟨fu - 1, by omega⟩
    obtain rfl : i = 8 := by omega
    rw [lpA_balerref47_hex]
    try simp (disch := first | omega | assumption | exact Int.natCast_nonneg _) only [RXA, RXB, Nat.reduceAdd, Nat.reduceLT, wrap_id, wrap_succ, wrap_pred, zr33, zr34, zr43, zr51, zr60, zr67, zr73, zr85, zr87, zr98, zr107, zr120, zr126, zr132, zr134, zr139, zr142, zr144, zr150, zr152, zr157, zr159, zr168, zr171, zr185, zr188, zr207, zr212, zr224, zr228, zr233, zr235, zr243, zr252, zr255, zr269, zr280, zr282, zr299, zr317, zr328, zr333, Int.lt_irrefl]
    unfold kcA_balerref47_hex
    try simp (disch := first | omega | assumption | exact Int.natCast_nonneg _) only [RXA, RXB, Nat.reduceAdd, Nat.reduceLT, wrap_id, wrap_succ, wrap_pred, zr33, zr34, zr43, zr51, zr60, zr67, zr73, zr85, zr87, zr98, zr107, zr120, zr126, zr132, zr134, zr139, zr142, zr144, zr150, zr152, zr157, zr159, zr168, zr171, zr185, zr188, zr207, zr212, zr224, zr228, zr233, zr235, zr243, zr252, zr255, zr269, zr280, zr282, zr299, zr317, zr328, zr333]
    first | exact ⟨rfl, rfl, rfl⟩ | rfl
  | succ m ih =>
    intro i fu n h hi hf hn
    obtain ⟨fu, rfl⟩ : ∃ f, fu = f + 1 := ⟨fu - 1, by omega⟩
    have c1 : (i : Int) < 8 := by omega
    have hl : (hexP x i).length = i := by unfold hexP; simp
    have w1 : ((i : Nat) : Int) + 1 = ((i + 1 : Nat) : Int) := rfl
    have hq : x / 16 ^ i ≤ x := Nat.div_le_self _ _
    obtain ⟨y, hy⟩ : ∃ y, x / 16 ^ i = y := ⟨_, rfl⟩
    have hy2 : x / 16 ^ (i + 1) = y / 16 := by rw [← hy, Nat.pow_succ, Nat.div_div_eq_div_mul]
    rw [hy] at hq ⊢
    have sx := fun (K : Value → M Value) => hex_sx (y % 16) (by omega) K
    have ad := fun (K : Value → M Value) => stB_add [hexD (y % 16)] (hexP x i) (by simp; omega) K
    have w2 : IntKind.u32.wrap (((y % 16 : Nat) : Int) + 1) = ((y % 16 : Nat) : Int) + 1 := IntWalk.u32_in _ (by omega)
    have := ih (i + 1) fu n h (by omega) (by omega) hn
    rw [hexP_succ, hy, hy2] at this
    rw [lpA_balerref47_hex]
    try simp (disch := first | omega | assumption | exact Int.natCast_nonneg _) only [RXA, RXB, Nat.reduceAdd, Nat.reduceLT, wrap_id, wrap_succ, wrap_pred, zr33, zr34, zr43, zr51, zr60, zr67, zr73, zr85, zr87, zr98, zr107, zr120, zr126, zr132, zr134, zr139, zr142, zr144, zr150, zr152, zr157, zr159, zr168, zr171, zr185, zr188, zr207, zr212, zr224, zr228, zr233, zr235, zr243, zr252, zr255, zr269, zr280, zr282, zr299, zr317, zr328, zr333, c1, umod16, udiv16, w2]
    rw [sx, ad]
    have w3 : IntKind.u32.wrap ((y / 16 : Nat) : Int) = ((y / 16 : Nat) : Int) := IntWalk.u32_in _ (by omega)
    try simp (disch := first | omega | assumption | exact Int.natCast_nonneg _) only [RXA, RXB, Nat.reduceAdd, Nat.reduceLT, wrap_id, wrap_succ, wrap_pred, zr33, zr34, zr43, zr51, zr60, zr67, zr73, zr85, zr87, zr98, zr107, zr120, zr126, zr132, zr134, zr139, zr142, zr144, zr150, zr152, zr157, zr159, zr168, zr171, zr185, zr188, zr207, zr212, zr224, zr228, zr233, zr235, zr243, zr252, zr255, zr269, zr280, zr282, zr299, zr317, zr328, zr333, umod16, udiv16, w3]
    exact this
theorem s_RHex (n : Nat) (h : H) {x : Nat} (hx : x < 4294967296) (hlf : 100 ≤ lf) : Run (fun _ => False) n (evCall2 Tryz.prog gt lf (d + 1) 70 #[.int .u32 (x : Int)]) h n fun v' h' n' => v' = stB (hexB x) ∧ h' = h ∧ n' = n := by
  rw [shOf (fun _ => st_balerref47_hex) rfl]
  refine Run.inside_ ?_
  unfold b_balerref47_hex
  have := rhex_loop (lf := lf) (d := d) (n0 := n) (b := stB []) x hx 8 0 lf n h rfl (by omega) (Nat.le_refl _)
  rw [Nat.pow_zero, Nat.div_one] at this
  exact this
end
end Go.Proofs.YtmjolmggelkjlaaGreat

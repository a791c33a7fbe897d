/- What a part of the second form does: rules for rewriting; appending; slices; calls. No program in sight. -/
import Derived.Test.YthhhkplbjcknkaaGreatDoorEvR
namespace Go.Proofs.YthhhkplbjcknkaaGreatDoor.Ev
set_option linter.unusedVariables false
set_option linter.unusedSimpArgs false
open Go

def optG {α : Type} (o : Option α) (p : α → Prop) : Prop := match o with
  | some a => p a
  | none => False
theorem optG_some {α : Type} (a : α) (p : α → Prop) : optG (some a) p = p a := rfl
theorem one_int (k : IntKind) (x : Int) : one (.int k x) = true := rfl
theorem one_bool (b : Bool) : one (.bool b) = true := rfl
theorem one_string (s : ByteArray) : one (.string s) = true := rfl
theorem one_slice (a : Option Addr) (n c : Nat) : one (.slice a n c) = true := rfl
theorem one_ptr (a : Option Addr) : one (.pointer a) = true := rfl
theorem cells_agg (cs : Array Value) : (Value.agg cs).cells = cs := rfl
section
variable {β : Type} {W : Nat → Prop} {n0 : Nat} {h h1 : H} {n n1 : Nat} {Q : β → H → Nat → Prop}
theorem not_run_fail : ¬ Run W n0 (M.fail : M β) h n Q := by rintro ⟨_, _, _, _, e, _⟩; cases e
theorem not_run_bind {α : Type} {m : M α} {k : α → M β} (e : m h n = none) : ¬ Run W n0 (m.bind k) h n Q := by
  rintro ⟨_, _, _, _, e1, _⟩
  unfold M.bind at e1
  rw [e] at e1
  cases e1
theorem inside_none {α : Type} {m : M α} (e : m h n = none) : Ev.inside m h n = none := by unfold Ev.inside; rw [e]
theorem ld_iff {P : Program} {t : TypeId} (ha : agg? P t = some false) (b off : Nat) (k : Value → M β) (hb : b < n) : Run W n0 ((inside (evLoad P t (.pointer (some ⟨b, off, none⟩)))).bind k) h n Q ↔ optG (h.get b) fun B => Run W n0 (optK (B.cells[off]?) k) h n Q := by
  cases hg : h.get b with
  | none =>
    refine ⟨fun x => absurd x (not_run_bind (inside_none ?_)), fun x => x.elim⟩
    unfold evLoad rd
    simp [ha, hg]
  | some B =>
    show _ ↔ Run W n0 (optK (B.cells[off]?) k) h n Q
    cases hv : B.cells[off]? with
    | none =>
      refine ⟨fun x => absurd x (not_run_bind (inside_none ?_)), fun x => absurd x not_run_fail⟩
      unfold evLoad rd
      simp [ha, hg, hv]
    | some v =>
      have e : evLoad P t (.pointer (some ⟨b, off, none⟩)) h n = some ⟨v, h, n, [⟨false, b, some off⟩]⟩ := by
        unfold evLoad
        simp only [ha]
        unfold rd
        simp only [hb, hg, hv, if_true]
      obtain ⟨L', e1, e2⟩ := inside_ro (W := W) (n0 := n0) e (by simp)
      exact Run.iff e1 e2
theorem st_iff {P : Program} {t : TypeId} (hs : size? P t = some 1) (b off : Nat) (v : Value) (k : Value → M β) (hb : b < n) (h1 : one v = true) : Run W n0 ((inside (evStore P t (.pointer (some ⟨b, off, none⟩)) v)).bind k) h n Q ↔
    optG (h.get b) fun B => B.own = true ∧ off < B.cells.length ∧ (n0 ≤ b ∨ W b) ∧ Run W n0 (k undef) (h.set b (some ⟨B.elem, B.own, B.cells.set off v⟩)) n Q := by
  have hc : v.cells = #[v] := by cases v <;> first | rfl | (simp [one] at h1)
  have hdef : evStore P t (.pointer (some ⟨b, off, none⟩)) v h n = ((wrN b off [v]).bind fun _ => M.ret undef) h n := by
    unfold evStore
    simp only [hs, hc]
    rfl
  have hN : wrN b off [v] = (wr b off v).bind fun _ => M.ret () := by
    unfold wrN
    funext h n
    rfl
  cases hg : h.get b with
  | none =>
    refine ⟨fun x => absurd x (not_run_bind (inside_none ?_)), fun x => x.elim⟩
    rw [hdef, hN]
    unfold M.bind wr
    simp [hg]
  | some B =>
    show _ ↔ (B.own = true ∧ off < B.cells.length ∧ (n0 ≤ b ∨ W b) ∧ _)
    by_cases hok : B.own = true ∧ off < B.cells.length
    · obtain ⟨ho, hl⟩ := hok
      have hwr : wr b off v h n = some ⟨(), h.set b (some ⟨B.elem, B.own, B.cells.set off v⟩), n, [⟨false, b, some off⟩, ⟨true, b, some off⟩]⟩ := by
        unfold wr
        simp [hb, hg, ho, hl, h1]
      have e : evStore P t (.pointer (some ⟨b, off, none⟩)) v h n = some ⟨undef, h.set b (some ⟨B.elem, B.own, B.cells.set off v⟩), n, [⟨false, b, some off⟩, ⟨true, b, some off⟩]⟩ := by
        rw [hdef, hN]
        have := bind_run (f := fun _ => M.ret ()) hwr (L2 := []) (b := ()) (h2 := h.set b (some ⟨B.elem, B.own, B.cells.set off v⟩)) (n2 := n) rfl
        have := bind_run (f := fun _ => M.ret undef) this (L2 := []) (b := undef) (h2 := h.set b (some ⟨B.elem, B.own, B.cells.set off v⟩)) (n2 := n) rfl
        simpa using this
      have ei := inside_run e
      constructor
      · intro x
        refine ⟨ho, hl, ?_, Run.unstep ei rfl x⟩
        obtain ⟨_, _, _, L, e1, _, e3, _⟩ := x
        obtain ⟨_, _, _, L3, L4, e5, _, rfl⟩ := bind_some e1
        rw [ei] at e5
        simp only [Option.some.injEq, Out.mk.injEq] at e5
        refine e3 ⟨true, b, some off⟩ (List.mem_append.2 (.inl ?_)) rfl
        rw [← e5.2.2.2]
        refine List.mem_filter.2 ⟨by simp, ?_⟩
        simp
        omega
      · rintro ⟨_, _, hw, x⟩
        refine Run.step ei (Nat.le_refl _) (fun x hx hx2 => ?_) x
        have hx := (List.mem_filter.1 hx).1
        simp at hx
        rcases hx with rfl | rfl <;> exact hw
    · refine ⟨fun x => absurd x (not_run_bind (inside_none ?_)), fun x => absurd ⟨x.1, x.2.1⟩ hok⟩
      rw [hdef, hN]
      unfold M.bind wr
      simp only [hb, hg, if_true, h1, Bool.and_true]
      rw [if_neg (by simpa using hok)]

theorem rdN_run {b : Nat} {B : AB} (hg : h.get b = some B) (hb : b < n) : ∀ (c k : Nat), k + c ≤ B.cells.length → ∃ L, rdN b k c h n = some ⟨(B.cells.drop k).take c, h, n, L⟩ ∧ ∀ e ∈ L, e.wr = false
  | 0, k, _ => ⟨[], by rw [List.take_zero]; rfl, by simp⟩
  | c + 1, k, hk => by
    obtain ⟨L, e, hL⟩ := rdN_run hg hb c (k + 1) (by omega)
    have hk2 : k < B.cells.length := by omega
    refine ⟨[⟨false, b, some k⟩] ++ (L ++ []), ?_, ?_⟩
    · unfold rdN
      have e0 : rd b k h n = some ⟨B.cells[k], h, n, [⟨false, b, some k⟩]⟩ := by
        unfold rd
        simp only [hb, hg, if_true, List.getElem?_eq_getElem hk2]
      refine bind_run e0 (bind_run e ?_)
      rw [List.drop_eq_getElem_cons hk2, List.take_succ_cons]
      rfl
    · intro x hx
      simp only [List.append_nil, List.mem_append, List.mem_cons, List.not_mem_nil, or_false] at hx
      rcases hx with rfl | hx
      · rfl
      · exact hL x hx
/-- what is read of a slice -/
def Src (h : H) (n : Nat) (x : Value) (news : List Value) : Prop := ∃ b off c B, x = .slice (some ⟨b, off, none⟩) news.length c ∧ h.get b = some B ∧ b < n ∧ off + news.length ≤ B.cells.length ∧ (B.cells.drop off).take news.length = news
theorem Src.run {x : Value} {news : List Value} (s : Src h n x news) : ∃ L, elemsOf 1 news.length x h n = some ⟨news, h, n, L⟩ ∧ (∀ e ∈ L, e.wr = false) ∧ lenOf? x = some news.length := by
  obtain ⟨b, off, c, B, rfl, hg, hb, hl, ht⟩ := s
  obtain ⟨L, e, hL⟩ := rdN_run hg hb news.length off hl
  refine ⟨L, ?_, hL, rfl⟩
  unfold elemsOf
  rw [Nat.mul_one]
  show rdN b off news.length h n = _
  rw [e, ht]
theorem bound_nat (k : IntKind) (x d : Nat) : boundOf (some (.int k (x : Int))) d = some x := by unfold boundOf; simp

theorem call_frame {P : Program} (hd : okDsts P = true) {gt : Nat → List Nat} {lf d : Nat} {f : FuncId} {args : Array Value} {v : Value} {L : List En} (e : evCall2 P gt lf d f args h n = some ⟨v, h1, n1, L⟩) {W' : Nat → Prop} (hw : ∀ e ∈ L, e.wr = true → n ≤ e.b ∨ W' e.b) : ∀ b, b < n → ¬ W' b → h1.get b = h.get b := by
  obtain ⟨f0, e0⟩ := call2_ok hd d f args h n v h1 n1 L e
  have A := Loc.evCall P KN f0 f args h n v h1 n1 L (e0 f0 (Nat.le_refl _))
  intro b hb hn
  refine get_of_agrS fun k => A.frame b k ?_ (by omega)
  rintro ⟨e, he, h2, h3, _⟩
  rcases hw e he h2 with q | q
  · omega
  · exact hn (h3 ▸ q)
theorem run_call {P : Program} (hd : okDsts P = true) {gt : Nat → List Nat} {lf d : Nat} {f : FuncId} {args : Array Value} {W' : Nat → Prop} {Q' : Value → H → Nat → Prop} (s : Run W' n (evCall2 P gt lf d f args) h n Q') (hn : n0 ≤ n) (hW : ∀ b, b < n → W' b → n0 ≤ b ∨ W b) {k : Value → M β}
    (x : ∀ v h1 n1, n ≤ n1 → (∀ b, b < n → ¬ W' b → h1.get b = h.get b) → Q' v h1 n1 → Run W n0 (k v) h1 n1 Q) : Run W n0 ((inside (evCall2 P gt lf d f args)).bind k) h n Q := by
  obtain ⟨v, h1, n1, L, e1, e2, e3, e4⟩ := s
  refine Run.step (inside_run e1) e2 (fun e he hwr => ?_) (x v h1 n1 e2 (call_frame hd e1 e3) e4)
  have hL := (List.mem_filter.1 he).1
  rcases e3 e hL hwr with q | q
  · exact .inl (by omega)
  · by_cases hlt : e.b < n
    · exact hW _ hlt q
    · exact .inl (by omega)
end

section
variable {β : Type} {W : Nat → Prop} {n0 : Nat} {h h1 : H} {n n1 : Nat} {Q : β → H → Nat → Prop}
theorem inside_ret (v : Value) (k : Value → M β) : (inside (M.ret v)).bind k = k v := by
  have : inside (M.ret v) = M.ret v := by funext h n; rfl
  rw [this, bind_ret]
theorem chk_true (m : M β) : chkT true m = m := rfl
end

end Go.Proofs.YthhhkplbjcknkaaGreatDoor.Ev

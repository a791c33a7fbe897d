/- The second form's regions and code yield what the first one's do. No program in sight. -/
import Derived.Test.YtmjolmggelkjlaaGreatEvM
namespace Go.Proofs.YtmjolmggelkjlaaGreat.Ev
set_option linter.unusedVariables false
set_option linter.unusedSimpArgs false
open Go

/-! what an operation of each kind touches -/
def Q0 {α : Type} (m : M α) : Prop := ∀ h n a h1 n1 L, m h n = some ⟨a, h1, n1, L⟩ → L = [] ∧ n1 = n
def Q1 {α : Type} (m : M α) : Prop := ∀ h n a h1 n1 L, m h n = some ⟨a, h1, n1, L⟩ → n1 = n ∧ ∀ e ∈ L, e.wr = false
def Q2 {α : Type} (m : M α) : Prop := ∀ h n a h1 n1 L, m h n = some ⟨a, h1, n1, L⟩ → L = []
theorem Q0.ret {α : Type} (a : α) : Q0 (M.ret a) := fun h n b h1 n1 L e => by simp only [M.ret, Option.some.injEq, Out.mk.injEq] at e; exact ⟨e.2.2.2.symm, e.2.2.1.symm⟩
theorem Q0.fail {α : Type} : Q0 (M.fail : M α) := fun h n b h1 n1 L e => by cases e
theorem Q0.lift {α : Type} (o : Option α) : Q0 (M.lift o) := by cases o with | none => exact Q0.fail | some a => exact Q0.ret a
theorem Q0.bind {α β : Type} {m : M α} {f : α → M β} (x : Q0 m) (y : ∀ a, Q0 (f a)) : Q0 (m.bind f) := fun h n b h2 n2 L e => by
  obtain ⟨a, h1, n1, L1, L2, e1, e2, rfl⟩ := bind_some e
  obtain ⟨rfl, rfl⟩ := x _ _ _ _ _ _ e1
  obtain ⟨rfl, rfl⟩ := y _ _ _ _ _ _ _ e2
  exact ⟨rfl, rfl⟩
theorem Q0.q1 {α : Type} {m : M α} (x : Q0 m) : Q1 m := fun h n a h1 n1 L e => by
  obtain ⟨rfl, rfl⟩ := x _ _ _ _ _ _ e
  exact ⟨rfl, fun e he => nomatch he⟩
theorem Q0.q2 {α : Type} {m : M α} (x : Q0 m) : Q2 m := fun h n a h1 n1 L e => (x _ _ _ _ _ _ e).1
theorem Q1.bind {α β : Type} {m : M α} {f : α → M β} (x : Q1 m) (y : ∀ a, Q1 (f a)) : Q1 (m.bind f) := fun h n b h2 n2 L e => by
  obtain ⟨a, h1, n1, L1, L2, e1, e2, rfl⟩ := bind_some e
  obtain ⟨rfl, g1⟩ := x _ _ _ _ _ _ e1
  obtain ⟨rfl, g2⟩ := y _ _ _ _ _ _ _ e2
  refine ⟨rfl, fun e he => ?_⟩
  rcases List.mem_append.1 he with q | q
  · exact g1 e q
  · exact g2 e q
theorem Q2.bind {α β : Type} {m : M α} {f : α → M β} (x : Q2 m) (y : ∀ a, Q2 (f a)) : Q2 (m.bind f) := fun h n b h2 n2 L e => by
  obtain ⟨a, h1, n1, L1, L2, e1, e2, rfl⟩ := bind_some e
  rw [x _ _ _ _ _ _ e1, y _ _ _ _ _ _ _ e2]
  rfl
theorem Q1.rd (b k : Nat) : Q1 (Ev.rd b k) := fun h n a h1 n1 L e => by
  unfold Ev.rd at e
  split at e
  · split at e
    · split at e
      · simp only [Option.some.injEq, Out.mk.injEq] at e
        obtain ⟨_, _, rfl, rfl⟩ := e
        exact ⟨rfl, fun e he => by simp at he; subst he; rfl⟩
      · cases e
    · cases e
  · cases e
theorem Q1.hdr (b : Nat) : Q1 (Ev.hdr b) := fun h n a h1 n1 L e => by
  unfold Ev.hdr at e
  split at e
  · split at e
    · simp only [Option.some.injEq, Out.mk.injEq] at e
      obtain ⟨_, _, rfl, rfl⟩ := e
      exact ⟨rfl, fun e he => by simp at he; subst he; rfl⟩
    · cases e
  · cases e
theorem Q1.rdN (b : Nat) : ∀ n k, Q1 (Ev.rdN b k n)
  | 0, _ => (Q0.ret _).q1
  | n + 1, k => Q1.bind (Q1.rd _ _) fun _ => Q1.bind (Q1.rdN b n _) fun _ => (Q0.ret _).q1
theorem Q2.newB (e : TypeId) (cs : List Value) : Q2 (Ev.newB e cs) := fun h n a h1 n1 L hr => by
  unfold Ev.newB at hr
  split at hr
  · simp only [Option.some.injEq, Out.mk.injEq] at hr
    exact hr.2.2.2.symm
  · cases hr
theorem Q0.evPlain (P : Program) (ρ : Operand → Value) (o : Oper) : Q0 (Ev.evPlain P ρ o) := by
  unfold Ev.evPlain
  split
  · refine Q0.bind (Q0.lift _) fun v => ?_
    split
    · exact Q0.ret _
    · exact Q0.fail
  · exact Q0.fail
theorem Q0.nilCheck (v : Value) : Q0 (evNilCheck v) := by
  unfold evNilCheck
  split <;> first | exact Q0.ret _ | exact Q0.fail
theorem Q0.build (P : Program) (t : TypeId) (ps : List (Nat × Value)) : Q0 (evBuild P t ps) := by
  unfold evBuild
  split
  · split
    · split
      · exact Q0.ret _
      · exact Q0.fail
    · exact Q0.fail
  · exact Q0.fail
theorem Q1.load (P : Program) (t : TypeId) (v : Value) : Q1 (evLoad P t v) := by
  unfold evLoad
  split
  · split
    · exact Q1.bind (Q1.rdN _ _ _) fun _ => (Q0.ret _).q1
    · exact Q1.rd _ _
    · exact Q0.fail.q1
  · exact Q0.fail.q1
theorem Q1.sliceM (P : Program) (t : TypeId) (v : Value) (lo hi mx : Option Value) : Q1 (evSliceM P t v lo hi mx) := by
  unfold evSliceM
  split
  · refine Q1.bind (Q1.hdr _) fun _ => ?_
    split
    · split
      · exact (Q0.lift _).q1
      · exact Q0.fail.q1
    · exact Q0.fail.q1
  · exact (Q0.lift _).q1
theorem Q2.alloc (P : Program) (e : TypeId) : Q2 (evAlloc P e) := by
  unfold evAlloc
  split
  · exact Q2.bind (Q2.newB _ _) fun _ => (Q0.ret _).q2
  · exact Q0.fail.q2
theorem Q2.box (P : Program) (e : TypeId) (v : Value) : Q2 (evBox P e v) := by
  unfold evBox
  split
  · exact Q2.bind (Q2.newB _ _) fun _ => (Q0.ret _).q2
  · exact Q0.fail.q2
theorem Q2.buildSlice (P : Program) (t : TypeId) (len : Nat) (ps : List (Nat × Value)) : Q2 (evBuildSlice P t len ps) := by
  unfold evBuildSlice
  repeat' (first | exact Q0.fail.q2 | exact Q2.bind (Q2.newB _ _) fun _ => (Q0.ret _).q2 | split)
theorem Q2.makeSlice (P : Program) (t : TypeId) (l c : Value) : Q2 (evMakeSlice P t l c) := by
  unfold evMakeSlice
  repeat' (first | exact Q0.fail.q2 | exact Q2.bind (Q2.newB _ _) fun _ => (Q0.ret _).q2 | split)
def QK (k : Nat) {α : Type} (m : M α) : Prop := (k = 0 → Q0 m) ∧ (k = 1 → Q1 m) ∧ (k = 2 → Q2 m)
theorem QK.of0 {α : Type} {m : M α} (x : Q0 m) (k : Nat) : QK k m := ⟨fun _ => x, fun _ => x.q1, fun _ => x.q2⟩
theorem QK.of1 {α : Type} {m : M α} (x : Q1 m) : QK 1 m := ⟨fun h => by omega, fun _ => x, fun h => by omega⟩
theorem QK.of2 {α : Type} {m : M α} (x : Q2 m) : QK 2 m := ⟨fun h => by omega, fun h => by omega, fun _ => x⟩
theorem QK.of3 {α : Type} {m : M α} : QK 3 m := ⟨fun h => by omega, fun h => by omega, fun h => by omega⟩
def contR (rec : FuncId → Array Value → M Value) : Nx → M Value
  | .val v => .ret v
  | .call f args => rec f args
theorem fail_bind {α β : Type} (f : α → M β) : (M.fail : M α).bind f = M.fail := rfl
theorem op_kind (P : Program) (ρ : Operand → Value) (rec : FuncId → Array Value → M Value) (o : Oper) : QK (kind o.op) ((evOp P ρ o).bind (contR rec)) := by
  have v1 : ∀ {m : M Value}, (m.bind fun v => M.ret (Nx.val v)).bind (contR rec) = m := fun {m} => by
    funext h n
    unfold M.bind
    cases m h n with
    | none => rfl
    | some o => simp [M.ret, contR]
  have v0 : ∀ (v : Value), (M.ret (Nx.val v)).bind (contR rec) = M.ret v := fun v => by rw [bind_ret]; rfl
  have vp : Q0 ((evPlain P ρ o).bind (contR rec)) := by
    unfold evPlain
    split
    · intro h n r h1 n1 L e
      obtain ⟨x, h2, n2, L1, L2, e1, e2, rfl⟩ := bind_some e
      obtain ⟨y, h3, n3, L3, L4, e3, e4, rfl⟩ := bind_some e1
      obtain ⟨rfl, rfl⟩ := Q0.lift _ _ _ _ _ _ _ e3
      split at e4
      · obtain ⟨rfl, _, _⟩ := ret_some e4
        obtain ⟨rfl, rfl⟩ := Q0.ret _ _ _ _ _ _ _ e4
        obtain ⟨rfl, rfl⟩ := Q0.ret _ _ _ _ _ _ _ e2
        exact ⟨rfl, rfl⟩
      · cases e4
    · intro h n r h1 n1 L e
      cases e
  obtain ⟨dst, op, ty, pos, after, guard⟩ := o
  cases op with
  | move x => exact QK.of0 (by unfold evOp; rw [v0]; exact Q0.ret _) _
  | assign x => exact QK.of0 (by unfold evOp; rw [v0]; exact Q0.ret _) _
  | pick c a b =>
    refine QK.of0 ?_ _
    unfold evOp
    simp only
    split
    · rw [v0]; exact Q0.ret _
    · rw [fail_bind]; exact Q0.fail
  | alloc e => exact QK.of2 (by unfold evOp; rw [v1]; exact Q2.alloc _ _)
  | box e x => exact QK.of2 (by unfold evOp; rw [v1]; exact Q2.box _ _ _)
  | build t ps => exact QK.of0 (by unfold evOp; rw [v1]; exact Q0.build _ _ _) _
  | buildSlice t len ps => exact QK.of2 (by unfold evOp; rw [v1]; exact Q2.buildSlice _ _ _ _)
  | load t a => exact QK.of1 (by unfold evOp; rw [v1]; exact Q1.load _ _ _)
  | nilCheck x => exact QK.of0 (by unfold evOp; rw [v1]; exact Q0.nilCheck _) _
  | binOp op t x y yt =>
    refine QK.of0 ?_ _
    unfold evOp
    simp only
    split
    · rw [v0]; exact Q0.ret _
    · rw [v0]; exact Q0.ret _
    · exact vp
    · intro h n a h1 n1 L e; cases e
  | unOp op t x => exact QK.of0 (vp) _
  | makeFunc fn a b => exact QK.of0 (by unfold evOp; rw [v0]; exact Q0.ret _) _
  | makeSlice t l c => exact QK.of2 (by unfold evOp; rw [v1]; exact Q2.makeSlice _ _ _ _)
  | slice t x lo hi mx =>
    refine QK.of1 ?_
    unfold evOp
    simp only
    split
    · exact (vp).q1
    · rw [v1]; exact Q1.sliceM _ _ _ _ _ _
  | fieldAddr t x f => exact QK.of0 (by unfold evOp; rw [v1]; exact Q0.lift _) _
  | field t x f => exact QK.of0 (by unfold evOp; rw [v1]; exact Q0.lift _) _
  | indexAddr t x f => exact QK.of0 (by unfold evOp; rw [v1]; exact Q0.lift _) _
  | index t x ix =>
    refine QK.of0 ?_ _
    unfold evOp
    simp only
    split
    · exact vp
    · rw [v1]; exact Q0.lift _
  | extract t i => exact QK.of0 (by unfold evOp; rw [v1]; exact Q0.lift _) _
  | call c =>
    unfold kind
    simp only
    split
    · rename_i hc
      refine QK.of0 ?_ _
      unfold evOp evCallOp
      simp only [hc]
      split
      · rw [v0]; exact Q0.ret _
      · exact vp
    · rename_i hc
      refine QK.of0 ?_ _
      unfold evOp evCallOp
      simp only [hc]
      exact vp
    · rename_i hc
      refine QK.of0 ?_ _
      unfold evOp evCallOp
      simp only [hc]
      exact vp
    · exact QK.of3
  | _ => exact QK.of3

end Go.Proofs.YtmjolmggelkjlaaGreat.Ev

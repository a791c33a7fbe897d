import Derived.Test.YtdagfcflbphoiaaGreatDoorMac
namespace Go.Proofs.YtdagfcflbphoiaaGreatDoor.Ev
set_option linter.unusedVariables false
set_option linter.unusedSimpArgs false
open Go

theorem zbve {α β : Type} {f : α → β} {l : List α} {a b : β} (h : l.map f = [a, b]) : ∃ x y, l = [x, y] ∧ f x = a ∧ f y = b := by
  match l, h with
  | [x, y], h => simp at h; exact ⟨x, y, rfl, h.1, h.2⟩
theorem zchn {α β : Type} {f : α → β} {l : List α} {a : β} (h : l.map f = [a]) : ∃ x, l = [x] ∧ f x = a := by
  match l, h with
  | [x], h => simp at h; exact ⟨x, rfl, h⟩
theorem zatx {α : Type} {a : Array α} {l : List α} (h : a.toList = l) : a = l.toArray := by
  cases a; simp at h; rw [h]
theorem zbyk {α β γ : Type} (f : α → β) (g : α → γ) (l : List α) : (l.map f).zip (l.map g) = l.map fun x => (f x, g x) := by
  induction l with
  | nil => rfl
  | cons a l ih => simp [ih]
theorem zbzt {P : Program} {t : TypeId} {x ix v : Value} (h : strIx P t x ix = some v) : isStr x = true ∧ scalar ix = true ∧ pureRun P (do pure (.value (← Instr.index t x ix))) = some v ∧ scalar v = true := by
  unfold strIx at h
  split at h
  · rename_i hs
    obtain ⟨h1, h2, h3⟩ := zanq h
    exact ⟨hs, h1, h2, h3⟩
  · cases h
theorem zbzi {P : Program} {t : TypeId} {x ix v : Value} (h : arrIx P t x ix = some v) : isStr x = false ∧ evIndex P t x ix = some v := by
  unfold arrIx at h
  split at h
  · cases h
  · rename_i hs
    exact ⟨hs, h⟩
theorem zblz {x : Value} (h : isStr x = true) : scalar x = true := by
  cases x <;> first | rfl | (simp [isStr] at h)

theorem zatu {P : Program} {t : TypeId} {d : TypeDesc} (h : P.underlying t = some d) (f : TypeDesc → Sem Next) : pureRun P (underlying t >>= f) = pureRun P (f d) := by
  unfold underlying
  show pureRun P ((match P.underlying t with
    | some d => pure d
    | none => stuck "no such type") >>= f) = _
  rw [h]
  rfl

set_option maxHeartbeats 1000000 in
theorem zcjj {P : Program} {kn : List FuncId} {rec : FuncId → Array Value → M Value} (hrec : ∀ f args h n v h1 n1 L, rec f args h n = some ⟨v, h1, n1, L⟩ → Does (fun fuel => evCall P kn fuel f args) h n v h1 n1 L)
    {β : Type} {s : Fr} {s1 : S} {o : Oper} {k : Value → M β} {h : H} {n : Nat} {r : Out β} (hs : Sub s s1) (hr : op2 P rec s o k h n = some r) : Conc (fun fuel => (evOp P (ev s1) o).bind (cont P kn fuel)) k h n r := by
  obtain ⟨dst, op, ty, pos, after, guard⟩ := o
  unfold op2 at hr
  cases op with
  | move x =>
    obtain ⟨v, hv, hr⟩ := zaau hr
    exact zaci hr fun fuel => by rw [← hs.evo hv]; exact zaex
  | assign x =>
    obtain ⟨v, hv, hr⟩ := zaau hr
    exact zaci hr fun fuel => by rw [← hs.evo hv]; exact zaex
  | pick c a b =>
    obtain ⟨vc, hc, hr⟩ := zaau hr
    obtain ⟨va, ha, hr⟩ := zaau hr
    obtain ⟨vb, hb, hr⟩ := zaau hr
    obtain ⟨v, hv, hr⟩ := zaau hr
    refine zaci hr fun fuel => ?_
    unfold evOp
    simp only [hs.evo hc, hs.evo ha, hs.evo hb]
    unfold pick2 at hv
    split at hv
    · cases hv
      exact zaex
    · cases hv
  | alloc e => exact zafw hr fun fuel => zafs
  | box e x =>
    obtain ⟨v, hv, hr⟩ := zaau hr
    exact zafw hr fun fuel => by rw [← hs.evo hv]; exact zafs
  | build t parts =>
    obtain ⟨vs, hv, hr⟩ := zamk hs hr
    refine zafw hr fun fuel => ?_
    rw [hv, List.map_map, zbyk]
    exact zafs
  | buildSlice t len parts =>
    obtain ⟨vs, hv, hr⟩ := zamk hs hr
    refine zafw hr fun fuel => ?_
    rw [hv, List.map_map, zbyk]
    exact zafs
  | load t a =>
    obtain ⟨v, hv, hr⟩ := zaau hr
    exact zafw hr fun fuel => by rw [← hs.evo hv]; exact zafs
  | store t a x =>
    obtain ⟨va, ha, hr⟩ := zaau hr
    obtain ⟨v, hv, hr⟩ := zaau hr
    exact zafw hr fun fuel => by rw [← hs.evo hv, ← hs.evo ha]; exact zafs
  | nilCheck x =>
    obtain ⟨v, hv, hr⟩ := zaau hr
    obtain ⟨u, hu, hr⟩ := zaau hr
    refine zaci hr fun fuel => ?_
    unfold evOp
    simp only [hs.evo hv]
    unfold nil2 at hu
    split at hu
    · cases hu; exact (congrArg (fun z => M.bind z (cont P kn fuel)) (zagz _ _)).trans zaex
    · cases hu; exact (congrArg (fun z => M.bind z (cont P kn fuel)) (zagz _ _)).trans zaex
    · cases hu
  | binOp op t x y yt =>
    obtain ⟨va, ha, hr⟩ := zaau hr
    obtain ⟨vb, hb, hr⟩ := zaau hr
    obtain ⟨v, hv, hr⟩ := zaau hr
    rw [← hs.evo ha, ← hs.evo hb] at hv
    exact zaci hr fun fuel => by simp only [zcgg hv]; exact zaex
  | unOp op t x =>
    obtain ⟨va, ha, hr⟩ := zaau hr
    obtain ⟨v, hv, hr⟩ := zaau hr
    rw [← hs.evo ha] at hv
    obtain ⟨h1, h2, h3⟩ := zanq hv
    refine zaci hr fun fuel => ?_
    rw [← zaex (P := P) (fuel := fuel), ← zagm (ρ := ev s1) (o := ⟨dst, .unOp op t x, ty, pos, after, guard⟩) (by simpa [Op.operands] using h1) h2 h3]
    rfl
  | convert src d x =>
    obtain ⟨va, ha, hr⟩ := zaau hr
    have hx := hs.evo ha
    unfold conv2 at hr
    cases he : toStr? (P.underlying src) (P.underlying d) with
    | some e =>
      simp only [he] at hr
      cases hu : u8? P e with
      | true =>
        simp only [hu] at hr
        refine zafw hr fun fuel => ?_
        unfold evOp
        simp only [he, hu, if_true, hx]
        exact zafs
      | false =>
        simp only [hu] at hr
        cases hr
    | none =>
      simp only [he] at hr
      cases he2 : toBy2? (P.underlying src) (P.underlying d) with
      | some e =>
        simp only [he2] at hr
        cases hu : (u8? P e && size? P e == some 1) with
        | true =>
          simp only [hu] at hr
          cases va with
          | string s0 =>
            refine zafw hr fun fuel => ?_
            unfold evOp
            simp only [he, hx]
            unfold zbti
            have : toBy? (P.underlying src) (P.underlying d) (.string s0) = some (e, s0) := by
              revert he2
              generalize P.underlying src = a
              generalize P.underlying d = b
              intro he2
              unfold toBy2? at he2
              split at he2
              · cases he2; rfl
              · cases he2
            simp only [this, hu, if_true]
            exact zafs
          | _ =>
            exfalso
            obtain ⟨c, h2, n2, L⟩ := r
            obtain ⟨v, h1, n1, L1, L2, e1, e2, e3⟩ := bind_some hr
            obtain ⟨L', e4, _⟩ := zaqm e1
            cases e4
        | false =>
          simp only [hu] at hr
          cases hr
      | none =>
        simp only [he2] at hr
        obtain ⟨v, hv, hr⟩ := zaau hr
        obtain ⟨h1, h2, h3⟩ := zanq hv
        refine zaci hr fun fuel => ?_
        unfold evOp
        simp only [he, zcdm he2]
        rw [zagm (by simpa [Op.operands, hx] using h1) (by rw [← h2]; simp only [execOp, hx]) h3]
        exact zaex
  | makeFunc fn a b =>
    obtain ⟨va, ha, hr⟩ := zamk hs hr
    obtain ⟨vb, hb, hr⟩ := zamk hs hr
    refine zaci hr fun fuel => ?_
    subst ha hb
    unfold evOp
    simp only [← Array.toList_map, Array.toArray_toList]
    exact zaex
  | makeSlice t l c =>
    obtain ⟨va, ha, hr⟩ := zaau hr
    obtain ⟨v, hv, hr⟩ := zaau hr
    exact zafw hr fun fuel => by rw [← hs.evo hv, ← hs.evo ha]; exact zafs
  | slice t x lo hi mx =>
    obtain ⟨va, ha, hr⟩ := zaau hr
    have hr := zbie hs hr
    have hr := zbie hs hr
    have hr := zbie hs hr
    have hx := hs.evo ha
    unfold zabo at hr
    cases hst : isStrT P t with
    | true =>
      simp only [hst] at hr
      obtain ⟨v, hv, hr⟩ := zaau hr
      unfold strSl at hv
      split at hv
      · rename_i hstr
        obtain ⟨h1, h2, h3⟩ := zanq hv
        refine zaci hr fun fuel => ?_
        unfold evOp
        simp only [hx, hstr, if_true]
        simp only [Bool.and_eq_true] at h1
        rw [zagm ?_ (by rw [← h2]; simp only [execOp, hx]) h3]
        · exact zaex
        · have q1 := h1.1.1
          have q2 := h1.1.2
          have q3 := h1.2
          simp only [Op.operands]
          have q0 := zblz hstr
          cases lo <;> cases hi <;> cases mx <;> simp_all [scal?]
      · cases hv
    | false =>
      simp only [hst] at hr
      refine zafw hr fun fuel => ?_
      unfold slSl
      unfold evOp
      simp only [hx]
      cases hstr : isStr va with
      | true =>
        exfalso
        obtain ⟨c, h2, n2, L⟩ := r
        obtain ⟨v, h1, n1, L1, L2, e1, e2, e3⟩ := bind_some hr
        obtain ⟨L', e4, _⟩ := zaqm e1
        unfold slSl at e4
        rw [hstr] at e4
        cases e4
      | false =>
        simp only [Bool.false_eq_true, if_false]
        exact zafs
  | fieldAddr t x f =>
    obtain ⟨va, ha, hr⟩ := zaau hr
    obtain ⟨v, hv, hr⟩ := zaau hr
    refine zaci hr fun fuel => ?_
    unfold evOp
    simp only [hs.evo ha, hv, zagx, zagz]
    rfl
  | field t x f =>
    obtain ⟨va, ha, hr⟩ := zaau hr
    obtain ⟨v, hv, hr⟩ := zaau hr
    refine zaci hr fun fuel => ?_
    unfold evOp
    simp only [hs.evo ha, hv, zagx, zagz]
    rfl
  | indexAddr t x f =>
    obtain ⟨va, ha, hr⟩ := zaau hr
    obtain ⟨vb, hb, hr⟩ := zaau hr
    obtain ⟨v, hv, hr⟩ := zaau hr
    refine zaci hr fun fuel => ?_
    unfold evOp
    simp only [hs.evo ha, hs.evo hb, hv, zagx, zagz]
    rfl
  | index t x f =>
    obtain ⟨va, ha, hr⟩ := zaau hr
    obtain ⟨vb, hb, hr⟩ := zaau hr
    obtain ⟨v, hv, hr⟩ := zaau hr
    refine zaci hr fun fuel => ?_
    unfold evOp
    unfold zaee at hv
    split at hv
    · obtain ⟨h0, h1, h2, h3⟩ := zbzt hv
      simp only [hs.evo ha, hs.evo hb, h0, if_true]
      rw [zagm (by simp [Op.operands, hs.evo ha, hs.evo hb, h1, zblz h0]) (by rw [← h2]; simp only [execOp, hs.evo ha, hs.evo hb]) h3]
      exact zaex
    · obtain ⟨h0, h1⟩ := zbzi hv
      simp only [hs.evo ha, hs.evo hb, h0, h1, zagx, zagz, Bool.false_eq_true, if_false]
      rfl
  | extract t i =>
    obtain ⟨va, ha, hr⟩ := zaau hr
    obtain ⟨v, hv, hr⟩ := zaau hr
    refine zaci hr fun fuel => ?_
    unfold evOp
    simp only [hs.evo ha, hv, zagx, zagz]
    rfl
  | call c =>
    obtain ⟨vs, hv, hr⟩ := zamk hs hr
    unfold call2 at hr
    cases hc : c.callee with
    | value f =>
      simp only [hc] at hr
      obtain ⟨fv, hfv, hr⟩ := zaau hr
      unfold callV at hr
      obtain ⟨q, hq, hr⟩ := zaau hr
      obtain ⟨g, first, captured⟩ := q
      simp only at hr
      cases hb : hasBody P g with
      | true =>
        simp only [hb] at hr
        refine zccs hrec hr fun fuel => ?_
        unfold evOp evCallOp
        simp only [hc, hs.evo hfv, hq, hb, if_true]
        rw [zcfe]
        congr 1
        subst hv
        apply zatx
        simp
      | false =>
        simp only [hb] at hr
        cases hr
    | builtin b =>
      simp only [hc] at hr
      cases b with
      | append =>
        simp only at hr
        unfold app2 at hr
        obtain ⟨q, hq, hr⟩ := zaau hr
        obtain ⟨t, x, y⟩ := q
        refine zafw hr fun fuel => ?_
        unfold evOp evCallOp
        simp only [hc, Array.toList_map, ← hv, hq]
        exact zafs
      | copy =>
        simp only at hr
        unfold copy2 at hr
        obtain ⟨q, hq, hr⟩ := zaau hr
        obtain ⟨t, x, y⟩ := q
        refine zafw hr fun fuel => ?_
        unfold evOp evCallOp
        simp only [hc, Array.toList_map, ← hv, hq]
        exact zafs
      | len =>
        simp only at hr
        obtain ⟨v, hl, hr⟩ := zaau hr
        refine zaci hr fun fuel => ?_
        unfold evOp evCallOp
        simp only [hc, Array.toList_map, ← hv]
        unfold len2 at hl
        split at hl
        · rename_i t u ht
          split at hl
          · rename_i e hue
            unfold lenS at hl
            split at hl
            · cases hl
              simp only [sliceLen?, ht, hue]
              exact zaex
            · cases hl
          · rename_i hue
            unfold lenT at hl
            split at hl
            · rename_i s0
              cases hl
              have : sliceLen? P c.argTypes [Value.string s0] = none := by simp [sliceLen?, ht]
              simp only [this]
              obtain ⟨x, hx1, hx2⟩ := zchn hv.symm
              have hx3 := zatx hx1
              rw [zagm (v := .int .i64 s0.size) ?_ ?_ rfl]
              · exact zaex
              · simp [Op.operands, Call.operands, hc, hx3, hx2, scalar]
              · simp only [execOp, resolve, hc, hx3]
                simp [hx2, invoke, builtin, Builtin.len_, ht]
                rw [zatu hue]
                rfl
            · cases hl
          · cases hl
        · cases hl
      | min =>
        simp only at hr
        obtain ⟨v, hl, hr⟩ := zaau hr
        refine zaci hr fun fuel => ?_
        unfold evOp evCallOp
        simp only [hc]
        unfold min2 at hl
        split at hl
        · rename_i kd a0 kd2 b0
          obtain ⟨x, y, hx1, hx2, hx4⟩ := zbve hv.symm
          have hx3 := zatx hx1
          rw [zagm (v := v) ?_ ?_ (by cases hl; rfl)]
          · exact zaex
          · simp [Op.operands, Call.operands, hc, hx3, hx2, hx4, scalar]
          · cases hl
            simp only [execOp, resolve, hc, hx3]
            simp [hx2, hx4]
            rfl
        · cases hl
      | max =>
        simp only at hr
        obtain ⟨v, hl, hr⟩ := zaau hr
        refine zaci hr fun fuel => ?_
        unfold evOp evCallOp
        simp only [hc]
        unfold max2 at hl
        split at hl
        · rename_i kd a0 kd2 b0
          obtain ⟨x, y, hx1, hx2, hx4⟩ := zbve hv.symm
          have hx3 := zatx hx1
          rw [zagm (v := v) ?_ ?_ (by cases hl; rfl)]
          · exact zaex
          · simp [Op.operands, Call.operands, hc, hx3, hx2, hx4, scalar]
          · cases hl
            simp only [execOp, resolve, hc, hx3]
            simp [hx2, hx4]
            rfl
        · cases hl
      | _ => cases hr
    | invoke _ _ =>
      simp only [hc] at hr
      cases hr
  | _ => cases hr

end Go.Proofs.YtdagfcflbphoiaaGreatDoor.Ev
namespace Go.Proofs.YtdagfcflbphoiaaGreatDoor.Ev
set_option linter.unusedVariables false
set_option linter.unusedSimpArgs false
open Go

def Q0 {α : Type} (m : M α) : Prop := ∀ h n a h1 n1 L, m h n = some ⟨a, h1, n1, L⟩ → L = [] ∧ n1 = n
def Q1 {α : Type} (m : M α) : Prop := ∀ h n a h1 n1 L, m h n = some ⟨a, h1, n1, L⟩ → n1 = n ∧ ∀ e ∈ L, e.wr = false
def Q2 {α : Type} (m : M α) : Prop := ∀ h n a h1 n1 L, m h n = some ⟨a, h1, n1, L⟩ → L = []
theorem Q0.ret {α : Type} (a : α) : Q0 (M.ret a) := fun h n b h1 n1 L e => by simp only [M.ret, Option.some.injEq, Out.mk.injEq] at e; exact ⟨e.2.2.2.symm, e.2.2.1.symm⟩
theorem Q0.fail {α : Type} : Q0 (M.fail : M α) := fun h n b h1 n1 L e => by cases e
theorem Q0.lift {α : Type} (o : Option α) : Q0 (M.lift o) := by cases o with | none => exact Q0.fail | some a => exact Q0.ret a
theorem Q0.bind {α β : Type} {m : M α} {f : α → M β} (x : Q0 m) (y : ∀ a, Q0 (f a)) : Q0 (m.bind f) := fun h n b h2 n2 L e => by
  obtain ⟨a, h1, n1, L1, L2, e1, e2, rfl⟩ := bind_some e
  obtain ⟨rfl, rfl⟩ := x _ _ _ _ _ _ e1
  obtain ⟨rfl, rfl⟩ := y _ _ _ _ _ _ _ e2
  exact ⟨rfl, rfl⟩
theorem Q0.q1 {α : Type} {m : M α} (x : Q0 m) : Q1 m := fun h n a h1 n1 L e => by
  obtain ⟨rfl, rfl⟩ := x _ _ _ _ _ _ e
  exact ⟨rfl, fun e he => nomatch he⟩
theorem Q0.q2 {α : Type} {m : M α} (x : Q0 m) : Q2 m := fun h n a h1 n1 L e => (x _ _ _ _ _ _ e).1
theorem Q1.bind {α β : Type} {m : M α} {f : α → M β} (x : Q1 m) (y : ∀ a, Q1 (f a)) : Q1 (m.bind f) := fun h n b h2 n2 L e => by
  obtain ⟨a, h1, n1, L1, L2, e1, e2, rfl⟩ := bind_some e
  obtain ⟨rfl, g1⟩ := x _ _ _ _ _ _ e1
  obtain ⟨rfl, g2⟩ := y _ _ _ _ _ _ _ e2
  refine ⟨rfl, fun e he => ?_⟩
  rcases List.mem_append.1 he with q | q
  · exact g1 e q
  · exact g2 e q
theorem Q2.bind {α β : Type} {m : M α} {f : α → M β} (x : Q2 m) (y : ∀ a, Q2 (f a)) : Q2 (m.bind f) := fun h n b h2 n2 L e => by
  obtain ⟨a, h1, n1, L1, L2, e1, e2, rfl⟩ := bind_some e
  rw [x _ _ _ _ _ _ e1, y _ _ _ _ _ _ _ e2]
  rfl
theorem Q1.rd (b k : Nat) : Q1 (Ev.rd b k) := fun h n a h1 n1 L e => by
  unfold Ev.rd at e
  split at e
  · split at e
    · split at e
      · simp only [Option.some.injEq, Out.mk.injEq] at e
        obtain ⟨_, _, rfl, rfl⟩ := e
        exact ⟨rfl, fun e he => by simp at he; subst he; rfl⟩
      · cases e
    · cases e
  · cases e
theorem Q1.hdr (b : Nat) : Q1 (Ev.hdr b) := fun h n a h1 n1 L e => by
  unfold Ev.hdr at e
  split at e
  · split at e
    · simp only [Option.some.injEq, Out.mk.injEq] at e
      obtain ⟨_, _, rfl, rfl⟩ := e
      exact ⟨rfl, fun e he => by simp at he; subst he; rfl⟩
    · cases e
  · cases e
theorem Q1.rdN (b : Nat) : ∀ n k, Q1 (Ev.rdN b k n)
  | 0, _ => (Q0.ret _).q1
  | n + 1, k => Q1.bind (Q1.rd _ _) fun _ => Q1.bind (Q1.rdN b n _) fun _ => (Q0.ret _).q1
theorem Q2.newB (e : TypeId) (cs : List Value) : Q2 (Ev.newB e cs) := fun h n a h1 n1 L hr => by
  unfold Ev.newB at hr
  split at hr
  · simp only [Option.some.injEq, Out.mk.injEq] at hr
    exact hr.2.2.2.symm
  · cases hr
theorem Q0.evPlain (P : Program) (ρ : Operand → Value) (o : Oper) : Q0 (Ev.evPlain P ρ o) := by
  unfold Ev.evPlain
  split
  · refine Q0.bind (Q0.lift _) fun v => ?_
    split
    · exact Q0.ret _
    · exact Q0.fail
  · exact Q0.fail
theorem Q0.nilCheck (v : Value) : Q0 (evNilCheck v) := by
  unfold evNilCheck
  split <;> first | exact Q0.ret _ | exact Q0.fail
theorem Q0.build (P : Program) (t : TypeId) (ps : List (Nat × Value)) : Q0 (evBuild P t ps) := by
  unfold evBuild
  split
  · split
    · split
      · exact Q0.ret _
      · exact Q0.fail
    · exact Q0.fail
  · exact Q0.fail
theorem Q1.load (P : Program) (t : TypeId) (v : Value) : Q1 (evLoad P t v) := by
  unfold evLoad
  split
  · split
    · exact Q1.bind (Q1.rdN _ _ _) fun _ => (Q0.ret _).q1
    · exact Q1.rd _ _
    · exact Q0.fail.q1
  · exact Q0.fail.q1
theorem Q1.sliceM (P : Program) (t : TypeId) (v : Value) (lo hi mx : Option Value) : Q1 (evSliceM P t v lo hi mx) := by
  unfold evSliceM
  split
  · refine Q1.bind (Q1.hdr _) fun _ => ?_
    split
    · split
      · exact (Q0.lift _).q1
      · exact Q0.fail.q1
    · exact Q0.fail.q1
  · exact (Q0.lift _).q1
theorem Q2.alloc (P : Program) (e : TypeId) : Q2 (evAlloc P e) := by
  unfold evAlloc
  split
  · exact Q2.bind (Q2.newB _ _) fun _ => (Q0.ret _).q2
  · exact Q0.fail.q2
theorem Q2.box (P : Program) (e : TypeId) (v : Value) : Q2 (evBox P e v) := by
  unfold evBox
  split
  · exact Q2.bind (Q2.newB _ _) fun _ => (Q0.ret _).q2
  · exact Q0.fail.q2
theorem Q2.buildSlice (P : Program) (t : TypeId) (len : Nat) (ps : List (Nat × Value)) : Q2 (evBuildSlice P t len ps) := by
  unfold evBuildSlice
  repeat' (first | exact Q0.fail.q2 | exact Q2.bind (Q2.newB _ _) fun _ => (Q0.ret _).q2 | split)
theorem Q2.makeSlice (P : Program) (t : TypeId) (l c : Value) : Q2 (evMakeSlice P t l c) := by
  unfold evMakeSlice
  repeat' (first | exact Q0.fail.q2 | exact Q2.bind (Q2.newB _ _) fun _ => (Q0.ret _).q2 | split)
def QK (k : Nat) {α : Type} (m : M α) : Prop := (k = 0 → Q0 m) ∧ (k = 1 → Q1 m) ∧ (k = 2 → Q2 m)
theorem QK.of0 {α : Type} {m : M α} (x : Q0 m) (k : Nat) : QK k m := ⟨fun _ => x, fun _ => x.q1, fun _ => x.q2⟩
theorem QK.of1 {α : Type} {m : M α} (x : Q1 m) : QK 1 m := ⟨fun h => by omega, fun _ => x, fun h => by omega⟩
theorem QK.of2 {α : Type} {m : M α} (x : Q2 m) : QK 2 m := ⟨fun h => by omega, fun h => by omega, fun _ => x⟩
theorem QK.of3 {α : Type} {m : M α} : QK 3 m := ⟨fun h => by omega, fun h => by omega, fun h => by omega⟩
def contR (rec : FuncId → Array Value → M Value) : Nx → M Value
  | .val v => .ret v
  | .call f args => rec f args
theorem zcay {α β : Type} (f : α → M β) : (M.fail : M α).bind f = M.fail := rfl
theorem zchq (P : Program) (ρ : Operand → Value) (rec : FuncId → Array Value → M Value) (o : Oper) : QK (kind o.op) ((evOp P ρ o).bind (contR rec)) := by
  have v1 : ∀ {m : M Value}, (m.bind fun v => M.ret (Nx.val v)).bind (contR rec) = m := fun {m} => by
    funext h n
    unfold M.bind
    cases m h n with
    | none => rfl
    | some o => simp [M.ret, contR]
  have v0 : ∀ (v : Value), (M.ret (Nx.val v)).bind (contR rec) = M.ret v := fun v => by rw [zagz]; rfl
  have vp : Q0 ((evPlain P ρ o).bind (contR rec)) := by
    unfold evPlain
    split
    · intro h n r h1 n1 L e
      obtain ⟨x, h2, n2, L1, L2, e1, e2, rfl⟩ := bind_some e
      obtain ⟨y, h3, n3, L3, L4, e3, e4, rfl⟩ := bind_some e1
      obtain ⟨rfl, rfl⟩ := Q0.lift _ _ _ _ _ _ _ e3
      split at e4
      · obtain ⟨rfl, _, _⟩ := zaan e4
        obtain ⟨rfl, rfl⟩ := Q0.ret _ _ _ _ _ _ _ e4
        obtain ⟨rfl, rfl⟩ := Q0.ret _ _ _ _ _ _ _ e2
        exact ⟨rfl, rfl⟩
      · cases e4
    · intro h n r h1 n1 L e
      cases e
  obtain ⟨dst, op, ty, pos, after, guard⟩ := o
  cases op with
  | move x => exact QK.of0 (by unfold evOp; rw [v0]; exact Q0.ret _) _
  | assign x => exact QK.of0 (by unfold evOp; rw [v0]; exact Q0.ret _) _
  | pick c a b =>
    refine QK.of0 ?_ _
    unfold evOp
    simp only
    split
    · rw [v0]; exact Q0.ret _
    · rw [zcay]; exact Q0.fail
  | alloc e => exact QK.of2 (by unfold evOp; rw [v1]; exact Q2.alloc _ _)
  | box e x => exact QK.of2 (by unfold evOp; rw [v1]; exact Q2.box _ _ _)
  | build t ps => exact QK.of0 (by unfold evOp; rw [v1]; exact Q0.build _ _ _) _
  | buildSlice t len ps => exact QK.of2 (by unfold evOp; rw [v1]; exact Q2.buildSlice _ _ _ _)
  | load t a => exact QK.of1 (by unfold evOp; rw [v1]; exact Q1.load _ _ _)
  | nilCheck x => exact QK.of0 (by unfold evOp; rw [v1]; exact Q0.nilCheck _) _
  | binOp op t x y yt =>
    refine QK.of0 ?_ _
    unfold evOp
    simp only
    split
    · rw [v0]; exact Q0.ret _
    · rw [v0]; exact Q0.ret _
    · exact vp
    · intro h n a h1 n1 L e; cases e
  | unOp op t x => exact QK.of0 (vp) _
  | makeFunc fn a b => exact QK.of0 (by unfold evOp; rw [v0]; exact Q0.ret _) _
  | makeSlice t l c => exact QK.of2 (by unfold evOp; rw [v1]; exact Q2.makeSlice _ _ _ _)
  | slice t x lo hi mx =>
    refine QK.of1 ?_
    unfold evOp
    simp only
    split
    · exact (vp).q1
    · rw [v1]; exact Q1.sliceM _ _ _ _ _ _
  | fieldAddr t x f => exact QK.of0 (by unfold evOp; rw [v1]; exact Q0.lift _) _
  | field t x f => exact QK.of0 (by unfold evOp; rw [v1]; exact Q0.lift _) _
  | indexAddr t x f => exact QK.of0 (by unfold evOp; rw [v1]; exact Q0.lift _) _
  | index t x ix =>
    refine QK.of0 ?_ _
    unfold evOp
    simp only
    split
    · exact vp
    · rw [v1]; exact Q0.lift _
  | extract t i => exact QK.of0 (by unfold evOp; rw [v1]; exact Q0.lift _) _
  | call c =>
    unfold kind
    simp only
    split
    · rename_i hc
      refine QK.of0 ?_ _
      unfold evOp evCallOp
      simp only [hc]
      split
      · rw [v0]; exact Q0.ret _
      · exact vp
    · rename_i hc
      refine QK.of0 ?_ _
      unfold evOp evCallOp
      simp only [hc]
      exact vp
    · rename_i hc
      refine QK.of0 ?_ _
      unfold evOp evCallOp
      simp only [hc]
      exact vp
    · exact QK.of3
  | _ => exact QK.of3

end Go.Proofs.YtdagfcflbphoiaaGreatDoor.Ev
namespace Go.Proofs.YtdagfcflbphoiaaGreatDoor.Ev
set_option linter.unusedVariables false
set_option linter.unusedSimpArgs false
open Go

structure TkOk (o : Oper) (t : Tk) : Prop where
  le : t.n ≤ t.n1
  lt : ∀ e ∈ t.log, e.b < t.n1
  k0 : kind o.op = 0 → t.log = [] ∧ t.n1 = t.n
  k1 : kind o.op = 1 → t.n1 = t.n ∧ ∀ e ∈ t.log, e.wr = false
  k2 : kind o.op = 2 → t.log = []
inductive TksOk : Nat → List Oper → List Tk → Nat → Prop
  | nil (n : Nat) : TksOk n [] [] n
  | cons {n m : Nat} {o : Oper} {t : Tk} {r : List Oper} {ts : List Tk} (h : TkOk o t) (e : t.n = n) (x : TksOk t.n1 r ts m) : TksOk n (o :: r) (t :: ts) m
theorem TksOk.le {n m : Nat} {l : List Oper} {ts : List Tk} (x : TksOk n l ts m) : n ≤ m := by
  induction x with
  | nil n => exact Nat.le_refl _
  | cons h e x ih => have := h.le; omega
theorem zagq {α : Type} {l : List α} {p : α → Bool} (h : ∀ x ∈ l, p x = false) : l.any p = false := by
  rw [List.any_eq_false]
  intro x hx
  rw [h x hx]
  exact Bool.false_ne_true
theorem zbzu {a b : Oper} {ta tb : Tk} (xa : TkOk a ta) (xb : TkOk b tb) (hle : ta.n1 ≤ tb.n) (hf : fits (kind a.op) (kind b.op) = true) : ta.clash tb = false := by
  have ale := xa.le
  have ble := xb.le
  unfold fits at hf
  simp only [Bool.or_eq_true, beq_iff_eq, Bool.and_eq_true] at hf
  unfold Tk.clash
  rcases hf with (((hf | hf) | hf) | hf) | hf
  · obtain ⟨h1, h2⟩ := xa.k0 hf
    rw [h1]
    simp only [List.any_nil, Bool.and_false, Bool.false_or, Bool.or_false, Bool.or_eq_false_iff]
    refine ⟨zagq fun x _ => rfl, zagq fun x hx => ?_⟩
    simp; omega
  · obtain ⟨h1, h2⟩ := xb.k0 hf
    rw [h1]
    simp only [List.any_nil, Bool.and_false, Bool.or_eq_false_iff, Bool.false_or, Bool.or_false]
    refine ⟨zagq fun x _ => rfl, zagq fun x hx => ?_⟩
    simp; omega
  · obtain ⟨h1, h2⟩ := xa.k1 hf.1
    obtain ⟨h3, h4⟩ := xb.k1 hf.2
    simp only [Bool.or_eq_false_iff]
    refine ⟨⟨⟨zagq fun x hx => by rw [h2 x hx]; rfl, zagq fun x hx => by rw [h4 x hx]; rfl⟩, zagq fun x hx => ?_⟩, zagq fun x hx => ?_⟩
    · simp; omega
    · simp; omega
  · rw [xa.k2 hf.1, xb.k2 hf.2]; rfl
  · obtain ⟨h1, h2⟩ := xa.k1 hf.1
    have h3 := xb.k2 hf.2
    rw [h3]
    simp only [List.any_nil, Bool.and_false, Bool.or_eq_false_iff, Bool.or_false]
    refine ⟨zagq fun x _ => rfl, zagq fun x hx => ?_⟩
    have := xa.lt x hx
    simp; omega
theorem zbhj {P : Program} {rec : FuncId → Array Value → M Value} {ops : Array Oper} {o : Oper} {s : S} (h : Region.wanted o (yields ops s) = true) : evVal P rec ops o s = (evOp P (ev s) o).bind (contR rec) := by
  unfold evVal
  rw [if_pos h]
  rfl
theorem zcew {P : Program} {rec : FuncId → Array Value → M Value} {ops : Array Oper} {o : Oper} {s : S} : QK (kind o.op) (evVal P rec ops o s) := by
  by_cases h : Region.wanted o (yields ops s) = true
  · rw [zbhj h]; exact zchq _ _ _ _
  · unfold evVal; rw [if_neg h]; exact QK.of0 (Q0.ret _) _
theorem zbmd {α : Type} {L : List α} {p : α → Bool} (h : L = []) : L.filter p = [] := by rw [h]; rfl
theorem zbij {α : Type} {m : M α} {h h1 : H} {n n1 : Nat} {x : α × Tk} {L : List En} (hr : timed m h n = some ⟨x, h1, n1, L⟩) : m h n = some ⟨x.1, h1, n1, L⟩ ∧ x.2 = ⟨n, n1, L⟩ := by
  unfold timed at hr
  split at hr
  · rename_i a h' n' L' e
    simp only [Option.some.injEq, Out.mk.injEq] at hr
    obtain ⟨rfl, rfl, rfl, rfl⟩ := hr
    exact ⟨e, rfl⟩
  · cases hr
theorem zaus {α : Type} {m : M α} {h h1 : H} {n n1 : Nat} {a : α} {L : List En} (e : m h n = some ⟨a, h1, n1, L⟩) : timed m h n = some ⟨(a, ⟨n, n1, L⟩), h1, n1, L⟩ := by
  unfold timed
  rw [e]
theorem zcck {P : Program} {rec : FuncId → Array Value → M Value} (hrl : ∀ f a, Loc (rec f a)) {nt : Nat} {ops : Array Oper} : ∀ (l : List Oper) (s : S) (h h1 : H) (n n1 : Nat) (y : S × List Tk) (L : List En), evOpers P rec nt ops l s h n = some ⟨y, h1, n1, L⟩ → TksOk n l y.2 n1 := by
  intro l
  induction l with
  | nil =>
    intro s h h1 n n1 y L hr
    obtain ⟨rfl, rfl, rfl⟩ := zaan hr
    exact .nil _
  | cons o l ih =>
    intro s h h1 n n1 y L hr
    unfold evOpers at hr
    obtain ⟨x, h2, n2, L1, L2, e1, e2, _⟩ := bind_some hr
    obtain ⟨s2, h3, n3, L3, L4, e3, e4, _⟩ := bind_some e2
    obtain ⟨z, h5, n5, L5, L6, e5, e6, _⟩ := bind_some e4
    obtain ⟨rfl, rfl, rfl⟩ := zaan e6
    obtain ⟨_, rfl, rfl⟩ := zagn e3
    obtain ⟨g1, g2⟩ := zbij e1
    obtain ⟨L', g3, rfl⟩ := zaqm g1
    have A := Loc.inside (Loc.evVal hrl ops o s) h n _ _ _ _ g1
    have K := zcew (P := P) (rec := rec) (ops := ops) (o := o) (s := s)
    refine .cons ⟨?_, ?_, fun hk => ?_, fun hk => ?_, fun hk => ?_⟩ ?_ ?_
    · rw [g2]; exact A.le
    · rw [g2]; exact A.lt
    · obtain ⟨q1, q2⟩ := K.1 hk _ _ _ _ _ _ g3
      rw [g2]
      exact ⟨zbmd q1, q2⟩
    · obtain ⟨q1, q2⟩ := K.2.1 hk _ _ _ _ _ _ g3
      rw [g2]
      exact ⟨q1, fun e he => q2 e (List.mem_filter.1 he).1⟩
    · rw [g2]
      exact zbmd (K.2.2 hk _ _ _ _ _ _ g3)
    · rw [g2]
    · rw [g2]
      exact ih _ _ _ _ _ _ _ e5
theorem zcjb {n m : Nat} {l : List Oper} {ts : List Tk} (x : TksOk n l ts m) : ∀ (i : Nat) (ti : Tk), ts[i]? = some ti → ∃ oi : Oper, l[i]? = some oi ∧ TkOk oi ti ∧ n ≤ ti.n := by
  induction x with
  | nil n => intro i ti hi; simp at hi
  | cons h e x ih =>
    intro i ti hi
    cases i with
    | zero => simp at hi; subst hi; exact ⟨_, rfl, h, by omega⟩
    | succ i =>
      obtain ⟨oi, g1, g2, g3⟩ := ih i ti (by simpa using hi)
      exact ⟨oi, by simpa using g1, g2, by have := h.le; omega⟩
theorem zbtp {ops : Array Oper} {bef : List Nat} : ∀ (l : List Oper) (ts : List Tk) (n m j : Nat), TksOk n l ts m → (∀ i o, l[i]? = some o → ops.getD (j + i) default = o) →
    (∀ p q op oq tp tq, p < q → l[p]? = some op → l[q]? = some oq → ts[p]? = some tp → ts[q]? = some tq → (bef.getD (j + q) 0).testBit (j + p) = true ∨ ((fits (kind op.op) (kind oq.op) = true ∨ tp.clash tq = false) ∧ slotClash ops op oq = false)) → pairsOk ops bef (tagged j ts) = true := by
  intro l
  induction l with
  | nil =>
    intro ts n m j x _ _
    cases x
    rfl
  | cons o l ih =>
    intro ts n m j x hg hp
    cases x with
    | @cons _ _ _ t _ ts h e x =>
      unfold tagged pairsOk
      simp only [Bool.and_eq_true, List.all_eq_true]
      refine ⟨?_, ih ts _ m (j + 1) x (fun i o' hi => by have := hg (i + 1) o' (by simpa using hi); rw [show j + 1 + i = j + (i + 1) by omega]; exact this) (fun p q op oq tp tq hpq h1 h2 h3 h4 => by
        have := hp (p + 1) (q + 1) op oq tp tq (by omega) (by simpa using h1) (by simpa using h2) (by simpa using h3) (by simpa using h4)
        rw [show j + 1 + q = j + (q + 1) by omega, show j + 1 + p = j + (p + 1) by omega]
        exact this)⟩
      intro z hz
      obtain ⟨i, hi⟩ := List.mem_iff_getElem?.1 hz
      rw [zbhl] at hi
      cases hti : ts[i]? with
      | none => rw [hti] at hi; cases hi
      | some ti =>
        rw [hti] at hi
        simp only [Option.map_some, Option.some.injEq] at hi
        subst hi
        obtain ⟨oi, g1, g2, g3⟩ := zcjb x i ti hti
        have e1 := hg 0 o rfl
        have e2 := hg (i + 1) oi (by simpa using g1)
        have hq := hp 0 (i + 1) o oi t ti (by omega) rfl (by simpa using g1) rfl (by simpa using hti)
        rw [Nat.add_zero] at e1 hq
        simp only [show j + 1 + i = j + (i + 1) by omega, e1, e2, Bool.or_eq_true, Bool.and_eq_true, Bool.not_eq_true']
        rcases hq with hq | ⟨hq, hs⟩
        · exact .inl hq
        · refine .inr ⟨?_, hs⟩
          rcases hq with hq | hq
          · exact zbzu h g2 g3 hq
          · exact hq
theorem zcaf {ops : Array Oper} {bef : List Nat} {j : Nat} {oj : Oper} : ∀ (l : List Oper) (k : Nat), safeAll ops bef j oj k l = true → ∀ i o, l[i]? = some o → (bef.getD (k + i) 0).testBit j = true ∨ (fits (kind oj.op) (kind o.op) = true ∧ slotClash ops oj o = false) := by
  intro l
  induction l with
  | nil => intro k _ i o h; simp at h
  | cons o l ih =>
    intro k h i o' hi
    unfold safeAll at h
    simp only [Bool.and_eq_true, Bool.or_eq_true, Bool.not_eq_true'] at h
    cases i with
    | zero => simp at hi; subst hi; exact h.1
    | succ i =>
      rw [show k + (i + 1) = k + 1 + i by omega]
      exact ih (k + 1) h.2 i o' (by simpa using hi)
theorem zbsz {ops : Array Oper} {bef : List Nat} : ∀ (l : List Oper) (j : Nat), safePairs ops bef j l = true → ∀ p q op oq, p < q → l[p]? = some op → l[q]? = some oq → (bef.getD (j + q) 0).testBit (j + p) = true ∨ (fits (kind op.op) (kind oq.op) = true ∧ slotClash ops op oq = false) := by
  intro l
  induction l with
  | nil => intro k _ p q op oq _ h; simp at h
  | cons o l ih =>
    intro j h p q op oq hpq h1 h2
    unfold safePairs at h
    simp only [Bool.and_eq_true] at h
    cases q with
    | zero => omega
    | succ q =>
      cases p with
      | zero =>
        simp at h1; subst h1
        have := zcaf l (j + 1) h.1 q oq (by simpa using h2)
        rw [show j + (q + 1) = j + 1 + q by omega, Nat.add_zero]
        exact this
      | succ p =>
        have := ih (j + 1) h.2 p q op oq (by omega) (by simpa using h1) (by simpa using h2)
        rw [show j + (q + 1) = j + 1 + q by omega, show j + (p + 1) = j + 1 + p by omega]
        exact this
theorem zbiu (ops : Array Oper) (i : Nat) (o : Oper) (h : ops.toList[i]? = some o) : ops.getD (0 + i) default = o := by
  rw [Nat.zero_add]
  rw [Array.getElem?_toList] at h
  simp [Array.getD_eq_getD_getElem?, h]
theorem zbry {ops : Array Oper} {ts : List Tk} {n m : Nat} (x : TksOk n ops.toList ts m) (h : staticOk ops = true) : edgesOk ops = true ∧ pairsOk ops (befores ops.toList []) (tagged 0 ts) = true := by
  unfold staticOk at h
  simp only [Bool.and_eq_true] at h
  refine ⟨h.1, zbtp ops.toList ts n m 0 x (zbiu ops) fun p q op oq tp tq hpq h1 h2 h3 h4 => ?_⟩
  rcases zbsz ops.toList 0 h.2 p q op oq hpq h1 h2 with g | g
  · exact .inl g
  · exact .inr ⟨.inl g.1, g.2⟩

end Go.Proofs.YtdagfcflbphoiaaGreatDoor.Ev
namespace Go.Proofs.YtdagfcflbphoiaaGreatDoor.Ev
set_option linter.unusedVariables false
set_option linter.unusedSimpArgs false
open Go

theorem Sub.nil (s1 : S) : Sub [] s1 := fun t v h => by cases h
theorem zbos (d : Nat) (v : Value) (s : Fr) (t : Nat) : Fr.at_ ((d, v) :: s) t = if d = t then some v else s.at_ t := by
  show (match Nat.beq d t with | true => some v | false => s.at_ t) = _
  by_cases e : d = t
  · subst e
    rw [Nat.beq_refl, if_pos rfl]
  · have : Nat.beq d t = false := Bool.eq_false_iff.2 fun q => e (Nat.eq_of_beq_eq_true q)
    rw [this, if_neg e]
theorem Sub.cons {s : Fr} {s1 : S} (hs : Sub s s1) {d : Nat} {v : Value} (h : s1.get d = v) : Sub ((d, v) :: s) s1 := fun t u hu => by
  rw [zbos] at hu
  by_cases e : d = t
  · rw [if_pos e] at hu; cases hu; rw [← e]; exact h
  · rw [if_neg e] at hu; exact hs t u hu
theorem Sub.put {s : Fr} {s1 : S} (hs : Sub s s1) {nt : Nat} {dst : Option Tmp} (hd : ∀ d, dst = some d → d < nt ∧ d < 1023) (v : Value) : ∃ s2, putS nt s1 dst v = some s2 ∧ Sub (putF s dst v) s2 := by
  cases dst with
  | none => exact ⟨s1, rfl, hs⟩
  | some d =>
    obtain ⟨h1, h2⟩ := hd d rfl
    refine ⟨s1.put d v, by unfold putS; simp [h1, h2], fun t u hu => ?_⟩
    rw [S.get_put _ _ _ _ h2]
    have hu : Fr.at_ ((d, v) :: s) t = some u := hu
    rw [zbos] at hu
    by_cases e : d = t
    · rw [if_pos e] at hu; rw [if_pos e.symm]; cases hu; rfl
    · rw [if_neg e] at hu; rw [if_neg (fun q => e q.symm)]; exact hs t u hu
theorem zbon (s : Fr) : ∀ (G : List Nat) (t : Nat) (v : Value), (s.keep G).at_ t = some v → s.at_ t = some v
  | [], t, v, h => by cases h
  | g :: G, t, v, h => by
    unfold Fr.keep at h
    split at h
    · rename_i u hu
      rw [zbos] at h
      by_cases e : g = t
      · rw [if_pos e] at h; cases h; rw [← e]; exact hu
      · rw [if_neg e] at h; exact zbon s G t v h
    · exact zbon s G t v h
theorem Sub.keep {s : Fr} {s1 : S} (hs : Sub s s1) (G : List Nat) : Sub (s.keep G) s1 := fun t v h => hs t v (zbon s G t v h)

section
variable {P : Program} {kn : List FuncId} {rec : FuncId → Array Value → M Value} (hrec : ∀ f args h n v h1 n1 L, rec f args h n = some ⟨v, h1, n1, L⟩ → Does (fun fuel => evCall P kn fuel f args) h n v h1 n1 L)
set_option linter.unusedSectionVars false
include hrec

theorem zbkp {ops : Array Oper} {o : Oper} {s : Fr} {s1 : S} {β : Type} {k : Value → M β} {h : H} {n : Nat} {r : Out β} (hw : Region.wanted o (yields ops s1) = true) (hs : Sub s s1) (hr : op2 P rec s o k h n = some r) :
    ∃ v h1 n1 L1 L2, Does (fun fuel => inside (evVal P (evCall P kn fuel) ops o s1)) h n v h1 n1 L1 ∧ k v h1 n1 = some ⟨r.val, r.h, r.n, L2⟩ ∧ r.log = L1 ++ L2 := by
  obtain ⟨v, h1, n1, L1, L2, e1, e2, e3⟩ := zcjj hrec hs hr
  refine ⟨v, h1, n1, L1, L2, e1.map fun fuel => ?_, e2, e3⟩
  rw [zbhj hw]
  rfl
theorem zbqz {ops : Array Oper} {o : Oper} {s1 : S} {h : H} {n : Nat} (hw : Region.wanted o (yields ops s1) = false) : Does (fun fuel => inside (evVal P (evCall P kn fuel) ops o s1)) h n undef h n [] := by
  refine ⟨0, fun fuel _ => ?_⟩
  show inside (evVal P (evCall P kn fuel) ops o s1) h n = _
  unfold evVal
  rw [if_neg (by rw [hw]; exact Bool.false_ne_true)]
  rfl
theorem zblu {β : Type} {v : Value} {x y : M β} {h : H} {n : Nat} {r : Out β} (hr : ifV v x y h n = some r) : (v = .bool true ∧ x h n = some r) ∨ (v = .bool false ∧ y h n = some r) := by
  unfold ifV at hr
  split at hr
  · exact .inl ⟨rfl, hr⟩
  · exact .inr ⟨rfl, hr⟩
  · cases hr
theorem zare {nt : Nat} {ops : Array Oper} {o : Oper} {l : List Oper} {s1 s2 : S} {h h1 h2 : H} {n n1 n2 : Nat} {v : Value} {L1 L2 : List En} {y : S × List Tk} (e1 : Does (fun fuel => inside (evVal P (evCall P kn fuel) ops o s1)) h n v h1 n1 L1)
    (hp : putS nt s1 o.dst v = some s2) (e2 : Does (fun fuel => evOpers P (evCall P kn fuel) nt ops l s2) h1 n1 y h2 n2 L2) : Does (fun fuel => evOpers P (evCall P kn fuel) nt ops (o :: l) s1) h n (y.1, ⟨n, n1, L1⟩ :: y.2) h2 n2 (L1 ++ L2) := by
  obtain ⟨f0, e1⟩ := e1
  obtain ⟨f1, e2⟩ := e2
  refine ⟨max f0 f1, fun fuel hf => ?_⟩
  have g1 := zaus (e1 fuel (by omega))
  have g2 := e2 fuel (by omega)
  show evOpers P (evCall P kn fuel) nt ops (o :: l) s1 h n = _
  unfold evOpers
  refine zaas g1 ?_
  simp only [hp, zagx, zagz]
  have := zaas (f := fun y : S × List Tk => M.ret (y.1, (⟨n, n1, L1⟩ : Tk) :: y.2)) g2 (h2 := h2) (n2 := n2) (L2 := []) (b := (y.1, (⟨n, n1, L1⟩ : Tk) :: y.2)) rfl
  rw [List.append_nil] at this
  exact this

theorem zbli {j : Nat} : ∀ {l : List Nat}, hasI j l = true → j ∈ l
  | [], h => by cases h
  | i :: r, h => by
    unfold hasI at h
    cases hb : Nat.beq i j with
    | true => rw [Nat.eq_of_beq_eq_true hb]; simp
    | false => rw [hb] at h; exact List.mem_cons_of_mem _ (zbli h)
def Idle (ops : Array Oper) (s1 : S) (idl : List Nat) : Prop := ∀ j ∈ idl, yields ops s1 j = none
theorem Idle.put {ops : Array Oper} {s1 s2 : S} {nt : Nat} {dst : Option Tmp} {v : Value} : ∀ {idl : List Nat}, Idle ops s1 idl → putS nt s1 dst v = some s2 → Idle ops s2 (dropI ops dst idl)
  | [], _, _ => fun j hj => by cases hj
  | i :: r, h, hp => by
    have hr : Idle ops s2 (dropI ops dst r) := Idle.put (fun j hj => h j (List.mem_cons_of_mem _ hj)) hp
    have hi := h i (by simp)
    have get : ∀ t, dst ≠ some t → s2.get t = s1.get t := by
      intro t ht
      cases dst with
      | none => simp only [putS, Option.some.injEq] at hp; rw [hp]
      | some d =>
        unfold putS at hp
        simp only at hp
        split at hp
        · rename_i hd
          simp only [Bool.and_eq_true, decide_eq_true_eq] at hd
          cases hp
          rw [S.get_put _ _ _ _ hd.2, if_neg (fun e => ht (by rw [e]))]
        · cases hp
    have keep : (∀ t, (ops[i]?).bind (·.dst) = some t → dst ≠ some t) → Idle ops s2 (i :: dropI ops dst r) := by
      intro hk j hj
      rcases List.mem_cons.1 hj with rfl | hj
      · unfold yields at hi ⊢
        cases ht : (ops[j]?).bind (·.dst) with
        | none => rfl
        | some t =>
          rw [ht] at hi
          simp only at hi ⊢
          rw [get t (hk t ht)]
          exact hi
      · exact hr j hj
    unfold dropI
    cases ht : (ops[i]?).bind (·.dst) with
    | none => exact keep fun t h => by rw [ht] at h; cases h
    | some t =>
      cases dst with
      | none => exact keep fun t h e => by cases e
      | some d =>
        simp only
        cases hb : Nat.beq t d with
        | true => exact hr
        | false =>
          refine keep fun t' h => ?_
          rw [ht] at h
          cases h
          rintro ⟨⟩
          rw [Nat.beq_refl] at hb
          cases hb
theorem Idle.add {ops : Array Oper} {s1 s2 : S} {nt : Nat} {o : Oper} {i : Nat} (hi : ops[i]? = some o) {idl : List Nat} (h : Idle ops s2 idl) (hp : putS nt s1 o.dst undef = some s2) : Idle ops s2 (i :: idl) := by
  intro j hj
  rcases List.mem_cons.1 hj with rfl | hj
  · unfold yields
    rw [hi]
    simp only [Option.bind_some]
    cases hd : o.dst with
    | none => rfl
    | some d =>
      rw [hd] at hp
      unfold putS at hp
      simp only at hp
      split at hp
      · rename_i hdd
        simp only [Bool.and_eq_true, decide_eq_true_eq] at hdd
        cases hp
        simp only
        rw [S.get_put _ _ _ _ hdd.2, if_pos rfl]
        rfl
      · cases hp
  · exact h j hj

theorem zcgv {β : Type} {nt : Nat} {ops : Array Oper} : ∀ (l : List Oper) (_ : ∀ o ∈ l, ∀ d, o.dst = some d → d < nt ∧ d < 1023) (i : Nat) (_ : ∀ q o, l[q]? = some o → ops[i + q]? = some o) (idl : List Nat) (s : Fr) (s1 : S) (_ : Idle ops s1 idl) (k : Fr → M β) (h : H) (n : Nat) (r : Out β), Sub s s1 → opsK P rec ops l i idl s k h n = some r →
    ∃ s' y h1 n1 L1 L2, Does (fun fuel => evOpers P (evCall P kn fuel) nt ops l s1) h n y h1 n1 L1 ∧ Sub s' y.1 ∧ k s' h1 n1 = some ⟨r.val, r.h, r.n, L2⟩ ∧ r.log = L1 ++ L2 := by
  intro l
  induction l with
  | nil =>
    intro _ i _ idl s s1 _ k h n r hs hr
    exact ⟨s, (s1, []), h, n, [], r.log, Does.of rfl, hs, hr, rfl⟩
  | cons o l ih =>
    intro hd i hpos idl s s1 hidl k h n r hs hr
    have hd0 := hd o (by simp)
    have hdl : ∀ o ∈ l, ∀ d, o.dst = some d → d < nt ∧ d < 1023 := fun o' ho => hd o' (by simp [ho])
    have hio : ops[i]? = some o := by have := hpos 0 o rfl; rwa [Nat.add_zero] at this
    have hpl : ∀ q o', l[q]? = some o' → ops[i + 1 + q]? = some o' := fun q o' hq => by
      have := hpos (q + 1) o' (by simpa using hq)
      rwa [show i + 1 + q = i + (q + 1) by omega]
    have go : ∀ (s : Fr), Sub s s1 → Region.wanted o (yields ops s1) = true → op2 P rec s o (fun v => opsK P rec ops l (i + 1) (dropI ops o.dst idl) (putF s o.dst v) k) h n = some r →
        ∃ s' y h1 n1 L1 L2, Does (fun fuel => evOpers P (evCall P kn fuel) nt ops (o :: l) s1) h n y h1 n1 L1 ∧ Sub s' y.1 ∧ k s' h1 n1 = some ⟨r.val, r.h, r.n, L2⟩ ∧ r.log = L1 ++ L2 := by
      intro s hs hw hr
      obtain ⟨v, h1, n1, L1, L2, e1, e2, e3⟩ := zbkp hrec hw hs hr
      obtain ⟨s2, hp, hs2⟩ := hs.put hd0 v
      obtain ⟨s', y, h3, n3, L3, L4, e4, e5, e6, e7⟩ := ih hdl _ hpl _ _ s2 (Idle.put hrec hidl hp) k h1 n1 _ hs2 e2
      exact ⟨s', _, h3, n3, _, L4, zare hrec e1 hp e4, e5, e6, by rw [e3]; simp only at e7; rw [e7, List.append_assoc]⟩
    have idle : ∀ (s : Fr), Sub s s1 → Region.wanted o (yields ops s1) = false → opsK P rec ops l (i + 1) (i :: dropI ops o.dst idl) (putF s o.dst undef) k h n = some r →
        ∃ s' y h1 n1 L1 L2, Does (fun fuel => evOpers P (evCall P kn fuel) nt ops (o :: l) s1) h n y h1 n1 L1 ∧ Sub s' y.1 ∧ k s' h1 n1 = some ⟨r.val, r.h, r.n, L2⟩ ∧ r.log = L1 ++ L2 := by
      intro s hs hw hr
      obtain ⟨s2, hp, hs2⟩ := hs.put hd0 undef
      obtain ⟨s', y, h3, n3, L3, L4, e4, e5, e6, e7⟩ := ih hdl _ hpl _ _ s2 (Idle.add hrec hio (Idle.put hrec hidl hp) hp) k h n _ hs2 hr
      exact ⟨s', _, h3, n3, _, L4, zare hrec (zbqz hrec hw) hp e4, e5, e6, e7⟩
    unfold opsK at hr
    cases hg : o.guard with
    | none =>
      rw [hg] at hr
      exact go s hs (by unfold Region.wanted; rw [hg]) hr
    | some jw =>
      obtain ⟨j, want⟩ := jw
      rw [hg] at hr
      simp only at hr
      cases hI : hasI j idl with
      | true =>
        rw [hI] at hr
        refine idle s hs ?_ hr
        unfold Region.wanted
        rw [hg]
        simp only
        rw [hidl j (zbli hrec hI)]
        rfl
      | false =>
      rw [hI] at hr
      simp only at hr
      cases ht : (ops[j]?).bind (·.dst) with
      | none => rw [ht] at hr; cases hr
      | some t =>
        rw [ht] at hr
        simp only at hr
        obtain ⟨g, hgv, hr⟩ := zaau hr
        have hget := hs t g hgv
        have hy : ∀ b, g = .bool b → yields ops s1 j = some b := fun b hb => by
          unfold yields
          rw [ht]
          simp only [hget, hb]
        rcases zblu hrec hr with ⟨hb, hr⟩ | ⟨hb, hr⟩
        · have hs' : Sub ((t, .bool true) :: s) s1 := hs.cons (by rw [hget, hb])
          cases want with
          | true => exact go _ hs' (by unfold Region.wanted; rw [hg]; simp only; rw [hy _ hb]; rfl) hr
          | false => exact idle _ hs' (by unfold Region.wanted; rw [hg]; simp only; rw [hy _ hb]; rfl) hr
        · have hs' : Sub ((t, .bool false) :: s) s1 := hs.cons (by rw [hget, hb])
          cases want with
          | true => exact idle _ hs' (by unfold Region.wanted; rw [hg]; simp only; rw [hy _ hb]; rfl) hr
          | false => exact go _ hs' (by unfold Region.wanted; rw [hg]; simp only; rw [hy _ hb]; rfl) hr
end

end Go.Proofs.YtdagfcflbphoiaaGreatDoor.Ev
namespace Go.Proofs.YtdagfcflbphoiaaGreatDoor.Ev
set_option linter.unusedVariables false
set_option linter.unusedSimpArgs false
open Go

theorem zanv {α : Type} {a c : α} {h h2 : H} {n n2 : Nat} {L : List En} (hr : (M.ret a) h n = some ⟨c, h2, n2, L⟩) : c = a ∧ h2 = h ∧ n2 = n ∧ L = [] := by
  simp only [M.ret, Option.some.injEq, Out.mk.injEq] at hr
  exact ⟨hr.1.symm, hr.2.1.symm, hr.2.2.1.symm, hr.2.2.2.symm⟩
def Match : List Oper → List Tk → List Tk → Prop
  | [], [], [] => True
  | o :: l, t' :: ts', t :: ts => (kind o.op = 0 ∨ t' = t) ∧ Match l ts' ts
  | _, _, _ => False
theorem Match.get : ∀ {l : List Oper} {ts' ts : List Tk}, Match l ts' ts → ∀ (i : Nat) (o : Oper) (t : Tk), l[i]? = some o → ts[i]? = some t → ∃ t', ts'[i]? = some t' ∧ (kind o.op = 0 ∨ t' = t)
  | [], [], [], _, i, o, t, h, _ => by simp at h
  | o :: l, t' :: ts', t :: ts, h, 0, o', u, h1, h2 => by
    simp at h1 h2; subst h1 h2
    exact ⟨t', rfl, h.1⟩
  | o :: l, t' :: ts', t :: ts, h, i + 1, o', u, h1, h2 => by
    simpa using Match.get h.2 i o' u (by simpa using h1) (by simpa using h2)
theorem zccz {ops : Array Oper} {bef : List Nat} {j : Nat} {oj : Oper} {tj : Tk} : ∀ (l : List Oper) (ts : List Tk) (k : Nat), dynAll bef ops j oj tj k l ts = true → ∀ i o t, l[i]? = some o → ts[i]? = some t → dynPair bef ops j oj tj (k + i) o t = true := by
  intro l
  induction l with
  | nil => intro ts k _ i o t h; simp at h
  | cons o l ih =>
    intro ts k h i o' t' hi ht
    cases ts with
    | nil => simp at ht
    | cons t ts =>
      unfold dynAll at h
      simp only [Bool.and_eq_true] at h
      cases i with
      | zero => simp at hi ht; subst hi ht; exact h.1
      | succ i =>
        rw [show k + (i + 1) = k + 1 + i by omega]
        exact ih ts (k + 1) h.2 i o' t' (by simpa using hi) (by simpa using ht)
theorem zbuf {ops : Array Oper} {bef : List Nat} : ∀ (l : List Oper) (ts : List Tk) (j : Nat), dynPairs bef ops j l ts = true → ∀ p q op oq tp tq, p < q → l[p]? = some op → l[q]? = some oq → ts[p]? = some tp → ts[q]? = some tq → dynPair bef ops (j + p) op tp (j + q) oq tq = true := by
  intro l
  induction l with
  | nil => intro ts j _ p q op oq tp tq _ h; simp at h
  | cons o l ih =>
    intro ts j h p q op oq tp tq hpq h1 h2 h3 h4
    cases ts with
    | nil => simp at h3
    | cons t ts =>
      unfold dynPairs at h
      simp only [Bool.and_eq_true] at h
      cases q with
      | zero => omega
      | succ q =>
        cases p with
        | zero =>
          simp at h1 h3; subst h1 h3
          have := zccz l ts (j + 1) h.1 q oq tq (by simpa using h2) (by simpa using h4)
          rw [show j + (q + 1) = j + 1 + q by omega, Nat.add_zero]
          exact this
        | succ p =>
          have := ih ts (j + 1) h.2 p q op oq tp tq (by omega) (by simpa using h1) (by simpa using h2) (by simpa using h3) (by simpa using h4)
          rw [show j + (q + 1) = j + 1 + q by omega, show j + (p + 1) = j + 1 + p by omega]
          exact this
theorem zcba {i j : Nat} (h : fits i j = false) : i ≠ 0 ∧ j ≠ 0 := by
  unfold fits at h
  simp only [Bool.or_eq_false_iff, beq_eq_false_iff_ne] at h
  exact ⟨h.1.1.1.1, h.1.1.1.2⟩
theorem zccn {ops : Array Oper} {ts' ts : List Tk} {n m : Nat} (x : TksOk n ops.toList ts m) (hm : Match ops.toList ts' ts) (h : dynPairs (befores ops.toList []) ops 0 ops.toList ts' = true) : pairsOk ops (befores ops.toList []) (tagged 0 ts) = true := by
  refine zbtp ops.toList ts n m 0 x (zbiu ops) fun p q op oq tp tq hpq h1 h2 h3 h4 => ?_
  obtain ⟨tp', g1, g2⟩ := hm.get p op tp h1 h3
  obtain ⟨tq', g3, g4⟩ := hm.get q oq tq h2 h4
  have := zbuf _ _ 0 h p q op oq tp' tq' hpq h1 h2 g1 g3
  unfold dynPair at this
  simp only [Bool.or_eq_true, Bool.and_eq_true, Bool.not_eq_true'] at this
  rcases this with g | ⟨gs, g⟩
  · exact .inl g
  · refine .inr ⟨?_, gs⟩
    cases hf : fits (kind op.op) (kind oq.op) with
    | true => exact .inl rfl
    | false =>
      rw [hf] at g
      obtain ⟨z1, z2⟩ := zcba hf
      rcases g2 with g2 | g2
      · exact absurd g2 z1
      · rcases g4 with g4 | g4
        · exact absurd g4 z2
        · subst g2 g4
          exact .inr (by simpa using g)

section
variable {P : Program} {kn : List FuncId} {rec : FuncId → Array Value → M Value} (hrec : ∀ f args h n v h1 n1 L, rec f args h n = some ⟨v, h1, n1, L⟩ → Does (fun fuel => evCall P kn fuel f args) h n v h1 n1 L)
set_option linter.unusedSectionVars false
include hrec
theorem zcgx {β : Type} {nt : Nat} {ops : Array Oper} : ∀ (l : List Oper) (_ : ∀ o ∈ l, ∀ d, o.dst = some d → d < nt ∧ d < 1023) (i : Nat) (_ : ∀ q o, l[q]? = some o → ops[i + q]? = some o) (idl : List Nat) (s : Fr) (s1 : S) (_ : Idle ops s1 idl) (acc : List Tk) (k : Fr → List Tk → M β) (h : H) (n : Nat) (r : Out β), Sub s s1 → opsT P rec ops l i idl s acc k h n = some r →
    ∃ s' y ts h1 n1 L1 L2, Does (fun fuel => evOpers P (evCall P kn fuel) nt ops l s1) h n y h1 n1 L1 ∧ Sub s' y.1 ∧ k s' (acc.reverse ++ ts) h1 n1 = some ⟨r.val, r.h, r.n, L2⟩ ∧ r.log = L1 ++ L2 ∧ Match l ts y.2 := by
  intro l
  induction l with
  | nil =>
    intro _ i _ idl s s1 _ acc k h n r hs hr
    exact ⟨s, (s1, []), [], h, n, [], r.log, Does.of rfl, hs, by rw [List.append_nil]; exact hr, rfl, trivial⟩
  | cons o l ih =>
    intro hd i hpos idl s s1 hidl acc k h n r hs hr
    have hd0 := hd o (by simp)
    have hdl : ∀ o ∈ l, ∀ d, o.dst = some d → d < nt ∧ d < 1023 := fun o' ho => hd o' (by simp [ho])
    have hio : ops[i]? = some o := by have := hpos 0 o rfl; rwa [Nat.add_zero] at this
    have hpl : ∀ q o', l[q]? = some o' → ops[i + 1 + q]? = some o' := fun q o' hq => by
      have := hpos (q + 1) o' (by simpa using hq)
      rwa [show i + 1 + q = i + (q + 1) by omega]
    have go : ∀ (s : Fr), Sub s s1 → Region.wanted o (yields ops s1) = true →
        (match kind o.op with
          | 0 => op2 P rec s o fun v => opsT P rec ops l (i + 1) (dropI ops o.dst idl) (putF s o.dst v) (⟨0, 0, []⟩ :: acc) k
          | _ => (timed (op2 P rec s o M.ret)).bind fun x => opsT P rec ops l (i + 1) (dropI ops o.dst idl) (putF s o.dst x.1) (x.2 :: acc) k) h n = some r →
        ∃ s' y ts h1 n1 L1 L2, Does (fun fuel => evOpers P (evCall P kn fuel) nt ops (o :: l) s1) h n y h1 n1 L1 ∧ Sub s' y.1 ∧ k s' (acc.reverse ++ ts) h1 n1 = some ⟨r.val, r.h, r.n, L2⟩ ∧ r.log = L1 ++ L2 ∧ Match (o :: l) ts y.2 := by
      intro s hs hw hr
      by_cases hk : kind o.op = 0
      · simp only [hk] at hr
        obtain ⟨v, h1, n1, L1, L2, e1, e2, e3⟩ := zbkp hrec hw hs hr
        obtain ⟨s2, hp, hs2⟩ := hs.put hd0 v
        obtain ⟨s', y, ts, h3, n3, L3, L4, e4, e5, e6, e7, e8⟩ := ih hdl _ hpl _ _ s2 (Idle.put hrec hidl hp) _ k h1 n1 _ hs2 e2
        refine ⟨s', _, (⟨0, 0, []⟩ : Tk) :: ts, h3, n3, _, L4, zare hrec e1 hp e4, e5, ?_, by rw [e3]; simp only at e7; rw [e7, List.append_assoc], ?_⟩
        · rw [List.reverse_cons, List.append_assoc] at e6
          exact e6
        · exact ⟨.inl hk, e8⟩
      · have hr : ((timed (op2 P rec s o M.ret)).bind fun x => opsT P rec ops l (i + 1) (dropI ops o.dst idl) (putF s o.dst x.1) (x.2 :: acc) k) h n = some r := by
          revert hr
          generalize kind o.op = kk at hk
          intro hr
          match kk, hk with
          | kk + 1, _ => exact hr
        obtain ⟨c, hc, nc, Lc⟩ := r
        obtain ⟨x, h1, n1, L1, L2, e1, e2, e3⟩ := bind_some hr
        obtain ⟨g1, g2⟩ := zbij e1
        obtain ⟨v, h1', n1', L1', L2', q1, q2, q3⟩ := zbkp hrec hw hs g1
        obtain ⟨rfl, rfl, rfl, rfl⟩ := zanv q2
        simp only [List.append_nil] at q3
        subst q3
        obtain ⟨s2, hp, hs2⟩ := hs.put hd0 x.1
        obtain ⟨s', y, ts, h3, n3, L3, L4, e4, e5, e6, e7, e8⟩ := ih hdl _ hpl _ _ s2 (Idle.put hrec hidl hp) _ k _ _ _ hs2 e2
        refine ⟨s', _, x.2 :: ts, h3, n3, _, L4, zare hrec q1 hp e4, e5, ?_, by rw [e3]; simp only at e7; rw [e7, List.append_assoc], ?_⟩
        · rw [List.reverse_cons, List.append_assoc] at e6
          exact e6
        · exact ⟨.inr g2, e8⟩
    have idle : ∀ (s : Fr), Sub s s1 → Region.wanted o (yields ops s1) = false → (passT (kind o.op) fun tk => opsT P rec ops l (i + 1) (i :: dropI ops o.dst idl) (putF s o.dst undef) (tk :: acc) k) h n = some r →
        ∃ s' y ts h1 n1 L1 L2, Does (fun fuel => evOpers P (evCall P kn fuel) nt ops (o :: l) s1) h n y h1 n1 L1 ∧ Sub s' y.1 ∧ k s' (acc.reverse ++ ts) h1 n1 = some ⟨r.val, r.h, r.n, L2⟩ ∧ r.log = L1 ++ L2 ∧ Match (o :: l) ts y.2 := by
      intro s hs hw hr
      obtain ⟨c, hc, nc, Lc⟩ := r
      have hr : ∃ tk, (kind o.op = 0 ∨ tk = ⟨n, n, []⟩) ∧ opsT P rec ops l (i + 1) (i :: dropI ops o.dst idl) (putF s o.dst undef) (tk :: acc) k h n = some ⟨c, hc, nc, Lc⟩ := by
        revert hr
        generalize kind o.op = kk
        intro hr
        match kk, hr with
        | 0, hr => exact ⟨_, .inl rfl, hr⟩
        | kk + 1, hr =>
          have hr : ((timed (M.ret undef)).bind fun x => opsT P rec ops l (i + 1) (i :: dropI ops o.dst idl) (putF s o.dst undef) (x.2 :: acc) k) h n = some ⟨c, hc, nc, Lc⟩ := hr
          obtain ⟨x, h1, n1, L1, L2, e1, e2, e3⟩ := bind_some hr
          obtain ⟨g1, g2⟩ := zbij e1
          obtain ⟨-, rfl, rfl, rfl⟩ := zanv g1
          refine ⟨x.2, .inr g2, ?_⟩
          simp only [List.nil_append] at e3
          rw [e3]
          exact e2
      obtain ⟨tk, htk, hr⟩ := hr
      obtain ⟨s2, hp, hs2⟩ := hs.put hd0 undef
      obtain ⟨s', y, ts, h3, n3, L3, L4, e4, e5, e6, e7, e8⟩ := ih hdl _ hpl _ _ s2 (Idle.add hrec hio (Idle.put hrec hidl hp) hp) _ k _ _ _ hs2 hr
      refine ⟨s', _, tk :: ts, h3, n3, _, L4, zare hrec (zbqz hrec hw) hp e4, e5, ?_, by simp only at e7; rw [e7]; simp, ?_⟩
      · rw [List.reverse_cons, List.append_assoc] at e6
        exact e6
      · exact ⟨htk, e8⟩
    unfold opsT at hr
    cases hg : o.guard with
    | none =>
      rw [hg] at hr
      exact go s hs (by unfold Region.wanted; rw [hg]) hr
    | some jw =>
      obtain ⟨j, want⟩ := jw
      rw [hg] at hr
      simp only at hr
      cases hI : hasI j idl with
      | true =>
        rw [hI] at hr
        refine idle s hs ?_ hr
        unfold Region.wanted
        rw [hg]
        simp only
        rw [hidl j (zbli hrec hI)]
        rfl
      | false =>
      rw [hI] at hr
      simp only at hr
      cases ht : (ops[j]?).bind (·.dst) with
      | none => rw [ht] at hr; cases hr
      | some t =>
        rw [ht] at hr
        simp only at hr
        obtain ⟨g, hgv, hr⟩ := zaau hr
        have hget := hs t g hgv
        have hy : ∀ b, g = .bool b → yields ops s1 j = some b := fun b hb => by
          unfold yields
          rw [ht]
          simp only [hget, hb]
        rcases zblu hrec hr with ⟨hb, hr⟩ | ⟨hb, hr⟩
        · have hs' : Sub ((t, .bool true) :: s) s1 := hs.cons (by rw [hget, hb])
          cases want with
          | true => exact go _ hs' (by unfold Region.wanted; rw [hg]; simp only; rw [hy _ hb]; rfl) hr
          | false => exact idle _ hs' (by unfold Region.wanted; rw [hg]; simp only; rw [hy _ hb]; rfl) hr
        · have hs' : Sub ((t, .bool false) :: s) s1 := hs.cons (by rw [hget, hb])
          cases want with
          | true => exact idle _ hs' (by unfold Region.wanted; rw [hg]; simp only; rw [hy _ hb]; rfl) hr
          | false => exact go _ hs' (by unfold Region.wanted; rw [hg]; simp only; rw [hy _ hb]; rfl) hr
theorem zcip {β : Type} {nt : Nat} {ops : Array Oper} {draw : Bool} (hd : ∀ o ∈ ops.toList, ∀ d, o.dst = some d → d < nt ∧ d < 1023) {s : Fr} {s1 : S} {k : Fr → M β} {h : H} {n : Nat} {r : Out β} (hs : Sub s s1) (hr : regK P rec ops draw s k h n = some r) :
    ∃ s' s2 h1 n1 L1 L2, Does (fun fuel => evRegion P (evCall P kn fuel) nt ops draw s1) h n s2 h1 n1 L1 ∧ Sub s' s2 ∧ k s' h1 n1 = some ⟨r.val, r.h, r.n, L2⟩ ∧ r.log = L1 ++ L2 := by
  have fin : ∀ {y : S × List Tk} {h1 : H} {n1 : Nat} {L1 : List En}, Does (fun fuel => evOpers P (evCall P kn fuel) nt ops ops.toList s1) h n y h1 n1 L1 → (TksOk n ops.toList y.2 n1 → (!draw || (edgesOk ops && pairsOk ops (befores ops.toList []) (tagged 0 y.2))) = true) → Does (fun fuel => evRegion P (evCall P kn fuel) nt ops draw s1) h n y.1 h1 n1 L1 := by
    intro y h1 n1 L1 e1 hc
    have hc := hc (by
      obtain ⟨f0, e⟩ := e1
      exact zcck (fun f a => Loc.evCall P kn f0 f a) _ _ _ _ _ _ _ _ (e f0 (Nat.le_refl _)))
    obtain ⟨f0, e⟩ := e1
    refine ⟨f0, fun fuel hf => ?_⟩
    show evRegion P (evCall P kn fuel) nt ops draw s1 h n = _
    unfold evRegion
    have := zaas (f := fun y : S × List Tk => if (!draw || (edgesOk ops && pairsOk ops (befores ops.toList []) (tagged 0 y.2))) = true then M.ret y.1 else .fail) (e fuel hf) (L2 := []) (b := y.1) (h2 := h1) (n2 := n1) (by rw [if_pos hc]; rfl)
    rw [List.append_nil] at this
    exact this
  unfold regK at hr
  cases hst : (!draw || staticOk ops) with
  | true =>
    simp only [hst] at hr
    obtain ⟨s', y, h1, n1, L1, L2, e1, e2, e3, e4⟩ := zcgv hrec ops.toList hd 0 (fun q o hq => by rw [Nat.zero_add, ← Array.getElem?_toList]; exact hq) [] s s1 (fun j hj => by cases hj) k h n r hs hr
    refine ⟨s', y.1, h1, n1, L1, L2, fin e1 fun x => ?_, e2, e3, e4⟩
    simp only [Bool.or_eq_true, Bool.not_eq_true'] at hst
    rcases hst with g | g
    · rw [g]; rfl
    · obtain ⟨g1, g2⟩ := zbry x g
      rw [g1, g2]; simp
  | false =>
    simp only [hst] at hr
    cases he : edgesOk ops with
    | false => simp only [he] at hr; cases hr
    | true =>
      simp only [he] at hr
      obtain ⟨s', y, ts, h1, n1, L1, L2, e1, e2, e3, e4, e5⟩ := zcgx hrec ops.toList hd 0 (fun q o hq => by rw [Nat.zero_add, ← Array.getElem?_toList]; exact hq) [] s s1 (fun j hj => by cases hj) [] _ h n r hs hr
      simp only [List.reverse_nil, List.nil_append] at e3
      cases hc : dynPairs (befores ops.toList []) ops 0 ops.toList ts with
      | false => rw [hc] at e3; cases e3
      | true =>
        rw [hc] at e3
        exact ⟨s', y.1, h1, n1, L1, L2, fin e1 fun x => by rw [he, zccn x e5 hc]; simp, e2, e3, e4⟩

def DoesC (kn : List FuncId) (P : Program) (nt : Nat) (c : Code) (s1 : S) (h : H) (n : Nat) (x : Ex × S) (h1 : H) (n1 : Nat) (L : List En) : Prop := ∃ f0, ∀ fr, f0 ≤ fr → ∀ f, f0 ≤ f → evCode P (evCall P kn fr) nt f c s1 h n = some ⟨x, h1, n1, L⟩
def Runs (kn : List FuncId) (P : Program) (nt : Nat) (c : Code) (s1 : S) {β : Type} (k : Ex → Fr → M β) (h : H) (n : Nat) (r : Out β) : Prop :=
  ∃ e s' s2 h1 n1 L1 L2, DoesC kn P nt c s1 h n (e, s2) h1 n1 L1 ∧ Sub s' s2 ∧ k e s' h1 n1 = some ⟨r.val, r.h, r.n, L2⟩ ∧ r.log = L1 ++ L2

theorem zcft {β : Type} {nt : Nat} {G : List Nat} {lf : Nat} : ∀ (c : Code) (_ : dstOk nt c = true) (s : Fr) (s1 : S) (k : Ex → Fr → M β) (h : H) (n : Nat) (r : Out β), Sub s s1 → codeK P rec G lf c s k h n = some r → Runs kn P nt c s1 k h n r := by
  intro c
  induction c with
  | skip => intro _ s s1 k h n r hs hr; exact ⟨.normal, s, s1, h, n, [], r.log, ⟨1, fun fr _ f hf => by match f, hf with | f + 1, _ => rfl⟩, hs, hr, rfl⟩
  | label l => intro _ s s1 k h n r hs hr; exact ⟨.normal, s, s1, h, n, [], r.log, ⟨1, fun fr _ f hf => by match f, hf with | f + 1, _ => rfl⟩, hs, hr, rfl⟩
  | region id ops draw =>
    intro hd s s1 k h n r hs hr
    unfold dstOk at hd
    rw [Array.all_eq_true_iff_forall_mem] at hd
    obtain ⟨s', s2, h1, n1, L1, L2, ⟨f0, e1⟩, e2, e3, e4⟩ := zcip hrec (fun o ho d hod => by
      have := hd o (by simpa using ho)
      rw [hod] at this
      simpa using this) hs hr
    refine ⟨.normal, s'.keep G, s2, h1, n1, L1, L2, ⟨f0 + 1, fun fr hfr f hf => ?_⟩, e2.keep G, e3, e4⟩
    match f, hf with
    | f + 1, _ =>
      unfold evCode
      have := zaas (f := fun s1 => M.ret (Ex.normal, s1)) (e1 fr (by omega)) (L2 := []) (h2 := h1) (n2 := n1) (b := (Ex.normal, s2)) rfl
      rw [List.append_nil] at this
      exact this
  | seq a b iha ihb =>
    intro hd s s1 k h n r hs hr
    unfold dstOk at hd
    simp only [Bool.and_eq_true] at hd
    obtain ⟨e, s', s2, h1, n1, L1, L2, ⟨f0, d1⟩, d2, d3, d4⟩ := iha hd.1 s s1 _ h n r hs hr
    cases e with
    | normal =>
      obtain ⟨e, s3, s4, h3, n3, L3, L4, ⟨f1, q1⟩, q2, q3, q4⟩ := ihb hd.2 s' s2 k h1 n1 _ d2 d3
      refine ⟨e, s3, s4, h3, n3, L1 ++ L3, L4, ⟨max f0 f1 + 1, fun fr hfr f hf => ?_⟩, q2, q3, by rw [d4]; simp only at q4; rw [q4, List.append_assoc]⟩
      match f, hf with
      | f + 1, _ =>
        unfold evCode
        exact zaas (d1 fr (by omega) f (by omega)) (q1 fr (by omega) f (by omega))
    | ret =>
      refine ⟨.ret, s', s2, h1, n1, L1, L2, ⟨f0 + 1, fun fr hfr f hf => ?_⟩, d2, d3, d4⟩
      match f, hf with
      | f + 1, _ =>
        unfold evCode
        rw [← List.append_nil L1]
        exact zaas (d1 fr (by omega) f (by omega)) rfl
    | exit i =>
      refine ⟨.exit i, s', s2, h1, n1, L1, L2, ⟨f0 + 1, fun fr hfr f hf => ?_⟩, d2, d3, d4⟩
      match f, hf with
      | f + 1, _ =>
        unfold evCode
        rw [← List.append_nil L1]
        exact zaas (d1 fr (by omega) f (by omega)) rfl
  | cond c a b iha ihb =>
    intro hd s s1 k h n r hs hr
    unfold dstOk at hd
    simp only [Bool.and_eq_true] at hd
    obtain ⟨v, hv, hr⟩ := zaau hr
    have hc := hs.evo hv
    rcases zblu hrec hr with ⟨rfl, hr⟩ | ⟨rfl, hr⟩
    · obtain ⟨e, s', s2, h1, n1, L1, L2, ⟨f0, d1⟩, d2, d3, d4⟩ := iha hd.1 s s1 k h n r hs hr
      refine ⟨e, s', s2, h1, n1, L1, L2, ⟨f0 + 1, fun fr hfr f hf => ?_⟩, d2, d3, d4⟩
      match f, hf with
      | f + 1, _ =>
        unfold evCode
        simp only [hc, if_true]
        exact d1 fr (by omega) f (by omega)
    · obtain ⟨e, s', s2, h1, n1, L1, L2, ⟨f0, d1⟩, d2, d3, d4⟩ := ihb hd.2 s s1 k h n r hs hr
      refine ⟨e, s', s2, h1, n1, L1, L2, ⟨f0 + 1, fun fr hfr f hf => ?_⟩, d2, d3, d4⟩
      match f, hf with
      | f + 1, _ =>
        unfold evCode
        simp only [hc, Bool.false_eq_true, if_false]
        exact d1 fr (by omega) f (by omega)
  | block id c ih =>
    intro hd s s1 k h n r hs hr
    unfold dstOk at hd
    obtain ⟨e, s', s2, h1, n1, L1, L2, ⟨f0, d1⟩, d2, d3, d4⟩ := ih hd s s1 _ h n r hs hr
    have fin : ∀ e' : Ex, (∀ fr, f0 ≤ fr → ∀ f, f0 ≤ f → evCode P (evCall P kn fr) nt (f + 1) (.block id c) s1 h n = some ⟨(e', s2), h1, n1, L1⟩) → k e' s' h1 n1 = some ⟨r.val, r.h, r.n, L2⟩ → Runs kn P nt (.block id c) s1 k h n r := by
      intro e' hrun hk
      refine ⟨e', s', s2, h1, n1, L1, L2, ⟨f0 + 1, fun fr hfr f hf => ?_⟩, d2, hk, d4⟩
      match f, hf with
      | f + 1, _ => exact hrun fr (by omega) f (by omega)
    cases e with
    | normal => exact fin .normal (fun fr hfr f hf => by unfold evCode; rw [← List.append_nil L1]; exact zaas (d1 fr hfr f hf) rfl) d3
    | ret => exact fin .ret (fun fr hfr f hf => by unfold evCode; rw [← List.append_nil L1]; exact zaas (d1 fr hfr f hf) rfl) d3
    | exit i =>
      cases hi : Nat.beq i id with
      | true =>
        have hii : i = id := Nat.eq_of_beq_eq_true hi
        simp only [blockK, hi] at d3
        exact fin .normal (fun fr hfr f hf => by unfold evCode; rw [← List.append_nil L1]; exact zaas (d1 fr hfr f hf) (by simp only [if_pos hii]; rfl)) d3
      | false =>
        have hii : ¬ i = id := by rintro rfl; rw [Nat.beq_refl] at hi; cases hi
        simp only [blockK, hi] at d3
        exact fin (.exit i) (fun fr hfr f hf => by unfold evCode; rw [← List.append_nil L1]; exact zaas (d1 fr hfr f hf) (by simp only [if_neg hii]; rfl)) d3
  | loop c ih =>
    intro hd s s1 k h n r hs hr
    have hd' : dstOk nt c = true := by unfold dstOk at hd; exact hd
    have key : ∀ (lf' : Nat) (keys : List Nat) (s : Fr) (s1 : S) (h : H) (n : Nat) (r : Out β), Sub s s1 → loopK (fun s1 k1 => codeK P rec G lf c s1 k1) keys lf' s k h n = some r → Runs kn P nt (.loop c) s1 k h n r := by
      intro lf'
      induction lf' with
      | zero => intro keys s s1 h n r _ hr; cases hr
      | succ lf' ihl =>
        intro keys s s1 h n r hs hr
        unfold loopK at hr
        obtain ⟨e, s', s2, h1, n1, L1, L2, ⟨f0, d1⟩, d2, d3, d4⟩ := ih hd' s s1 _ h n r hs hr
        cases e with
        | normal =>
          obtain ⟨e, s3, s4, h3, n3, L3, L4, ⟨f1, q1⟩, q2, q3, q4⟩ := ihl keys _ s2 h1 n1 _ (d2.keep keys) d3
          refine ⟨e, s3, s4, h3, n3, L1 ++ L3, L4, ⟨max f0 f1 + 1, fun fr hfr f hf => ?_⟩, q2, q3, by rw [d4]; simp only at q4; rw [q4, List.append_assoc]⟩
          match f, hf with
          | f + 1, _ =>
            unfold evCode
            exact zaas (d1 fr (by omega) f (by omega)) (q1 fr (by omega) f (by omega))
        | ret =>
          refine ⟨.ret, s', s2, h1, n1, L1, L2, ⟨f0 + 1, fun fr hfr f hf => ?_⟩, d2, d3, d4⟩
          match f, hf with
          | f + 1, _ =>
            unfold evCode
            rw [← List.append_nil L1]
            exact zaas (d1 fr (by omega) f (by omega)) rfl
        | exit i =>
          refine ⟨.exit i, s', s2, h1, n1, L1, L2, ⟨f0 + 1, fun fr hfr f hf => ?_⟩, d2, d3, d4⟩
          match f, hf with
          | f + 1, _ =>
            unfold evCode
            rw [← List.append_nil L1]
            exact zaas (d1 fr (by omega) f (by omega)) rfl
    exact key lf s.keys s s1 h n r hs hr
  | exit id => intro _ s s1 k h n r hs hr; exact ⟨.exit id, s, s1, h, n, [], r.log, ⟨1, fun fr _ f hf => by match f, hf with | f + 1, _ => rfl⟩, hs, hr, rfl⟩
  | ret => intro _ s s1 k h n r hs hr; exact ⟨.ret, s, s1, h, n, [], r.log, ⟨1, fun fr _ f hf => by match f, hf with | f + 1, _ => rfl⟩, hs, hr, rfl⟩
  | rangeFunc _ _ _ _ => intro _ s s1 k h n r hs hr; cases hr
  | scope _ => intro _ s s1 k h n r hs hr; cases hr
  | goto _ => intro _ s s1 k h n r hs hr; cases hr
  | refuse _ => intro _ s s1 k h n r hs hr; cases hr
end

theorem zciv {P : Program} {s : Fr} {s1 : S} (hs : Sub s s1) : ∀ (l : List ResultVar) (k : List Value → M Value) (h : H) (n : Nat) (r : Out Value), resK P s l k h n = some r → ∃ vs h1 n1 L1 L2, evResults P s1 l h n = some ⟨vs, h1, n1, L1⟩ ∧ k vs h1 n1 = some ⟨r.val, r.h, r.n, L2⟩ ∧ r.log = L1 ++ L2 := by
  intro l
  induction l with
  | nil => intro k h n r hr; exact ⟨[], h, n, [], r.log, rfl, hr, rfl⟩
  | cons x l ih =>
    intro k h n r hr
    cases x with
    | tmp t =>
      obtain ⟨v, hv, hr⟩ := zaau hr
      obtain ⟨vs, h1, n1, L1, L2, e1, e2, e3⟩ := ih _ h n r hr
      refine ⟨v :: vs, h1, n1, L1, L2, ?_, e2, e3⟩
      unfold evResults
      rw [hs t v hv, ← List.append_nil L1]
      exact zaas e1 rfl
    | cell a t =>
      obtain ⟨v, hv, hr⟩ := zaau hr
      obtain ⟨c, hc, nc, Lc⟩ := r
      obtain ⟨u, h1, n1, L1, L2, e1, e2, e3⟩ := bind_some hr
      obtain ⟨vs, h3, n3, L3, L4, e4, e5, e6⟩ := ih _ h1 n1 _ e2
      refine ⟨u :: vs, h3, n3, L1 ++ L3, L4, ?_, e5, by rw [e3]; simp only at e6; rw [e6, List.append_assoc]⟩
      unfold evResults
      rw [hs a v hv]
      refine zaas e1 ?_
      rw [← List.append_nil L3]
      exact zaas e4 rfl
theorem zcfa : ∀ (l : List Value) (i : Nat) (s : S), i + l.length < 1023 → Sub (argF i l) (argS i l s) := by
  intro l
  induction l with
  | nil => intro i s _; exact Sub.nil _
  | cons v l ih =>
    intro i s h
    simp only [List.length_cons] at h
    show Sub ((i, v) :: argF (i + 1) l) (argS (i + 1) l (s.put i v))
    refine (ih (i + 1) (s.put i v) (by omega)).cons ?_
    rw [zbtq _ _ _ _ (by omega), if_neg (by omega), S.get_put _ _ _ _ (by omega), if_pos rfl]
theorem zbsp {P : Program} {kn : List FuncId} (hd : okDsts P = true) {gt : Nat → List Nat} {lf : Nat} : ∀ (d : Nat) (f : FuncId) (args : Array Value) (h : H) (n : Nat) (v : Value) (h1 : H) (n1 : Nat) (L : List En), evCallN kn P gt lf d f args h n = some ⟨v, h1, n1, L⟩ → Does (fun fuel => evCall P kn fuel f args) h n v h1 n1 L := by
  intro d
  induction d with
  | zero => intro f args h n v h1 n1 L hr; cases hr
  | succ d ih =>
    intro f args h n v h1 n1 L hr
    unfold evCallN at hr
    cases hkn : kn.contains f with
    | true =>
      rw [hkn] at hr
      simp only at hr
      cases hnat : natOf f with
      | some k =>
        rw [hnat] at hr
        refine ⟨1, fun fuel hf => ?_⟩
        match fuel, hf with
        | fuel + 1, hf =>
          show evCall P kn (fuel + 1) f args h n = _
          unfold evCall
          rw [if_pos hkn, hnat]
          exact hr
      | none =>
      rw [hnat] at hr
      simp only at hr
      cases hz : (decide (args.size = 0) && noPar P f) with
      | false => rw [hz] at hr; cases hr
      | true =>
        rw [hz] at hr
        refine ⟨1, fun fuel hf => ?_⟩
        match fuel, hf with
        | fuel + 1, hf =>
          show evCall P kn (fuel + 1) f args h n = _
          unfold evCall
          rw [if_pos hkn, hnat]
          show (if (decide (args.size = 0) && noPar P f) = true then _ else _ : M Value) h n = _
          rw [if_pos hz]
          exact hr
    | false =>
    rw [hkn] at hr
    simp only at hr
    cases hfn : P.funcs[f]? with
    | none => rw [hfn] at hr; cases hr
    | some fn =>
      rw [hfn] at hr
      simp only at hr
      cases hc : fn.body with
      | none => rw [hc] at hr; cases hr
      | some c =>
        rw [hc] at hr
        simp only at hr
        cases hcond : (decide (args.size ≤ fn.ntmps) && decide (fn.ntmps < 1000)) with
        | false => rw [hcond] at hr; cases hr
        | true =>
          rw [hcond] at hr
          simp only at hr
          have hcond' := hcond
          simp only [Bool.and_eq_true, decide_eq_true_eq] at hcond
          obtain ⟨L', hr, hL⟩ := zaqm hr
          have hdc : dstOk fn.ntmps c = true := by
            unfold okDsts at hd
            rw [Array.all_eq_true_iff_forall_mem] at hd
            have := hd fn (Array.mem_of_getElem? hfn)
            rw [hc] at this
            exact this
          obtain ⟨e, s', s2, h2, n2, L1, L2, ⟨f0, d1⟩, d2, d3, d4⟩ := zcft ih c hdc _ (argS 0 args.toList .nil) _ h n _ (zcfa _ 0 _ (by simp; omega)) hr
          have fin : ∀ (hn : e = .normal ∨ e = .ret), resK P s' fn.results.toList outK h2 n2 = some ⟨v, h1, n1, L2⟩ → Does (fun fuel => evCall P kn fuel f args) h n v h1 n1 L := by
            intro hn hres
            obtain ⟨vs, h3, n3, L3, L4, r1, r2, r3⟩ := zciv d2 _ _ _ _ _ hres
            simp only at r2 r3
            unfold outK at r2
            obtain ⟨rfl, rfl, rfl, rfl⟩ := zanv r2
            rw [List.append_nil] at r3
            subst r3
            simp only at d4
            refine ⟨f0 + 1, fun fuel hf => ?_⟩
            match fuel, hf with
            | fuel + 1, hf =>
              show evCall P kn (fuel + 1) f args h n = _
              unfold evCall
              rw [if_neg (by rw [hkn]; simp)]
              simp only [hfn, hc]
              rw [if_pos hcond']
              rw [hL, d4]
              refine zabe (zaas (d1 fuel (by omega) fuel (by omega)) ?_)
              rcases hn with rfl | rfl
              · show ((evResults P s2 fn.results.toList).bind _) h2 n2 = _
                rw [← List.append_nil L2]
                exact zaas r1 rfl
              · show ((evResults P s2 fn.results.toList).bind _) h2 n2 = _
                rw [← List.append_nil L2]
                exact zaas r1 rfl
          cases e with
          | normal => exact fin (.inl rfl) d3
          | ret => exact fin (.inr rfl) d3
          | exit i => cases d3
theorem zbdc {P : Program} (hd : okDsts P = true) {gt : Nat → List Nat} {lf : Nat} (d : Nat) (f : FuncId) (args : Array Value) (h : H) (n : Nat) (v : Value) (h1 : H) (n1 : Nat) (L : List En) (e : zaac P gt lf d f args h n = some ⟨v, h1, n1, L⟩) : Does (fun fuel => evCall P KN fuel f args) h n v h1 n1 L := zbsp hd d f args h n v h1 n1 L e

end Go.Proofs.YtdagfcflbphoiaaGreatDoor.Ev
namespace Go.Proofs.YtdagfcflbphoiaaGreatDoor.Ev
set_option linter.unusedVariables false
set_option linter.unusedSimpArgs false
open Go

def Run {α : Type} (W : Nat → Prop) (n0 : Nat) (m : M α) (h : H) (n : Nat) (Q : α → H → Nat → Prop) : Prop :=
  ∃ a h1 n1 L, m h n = some ⟨a, h1, n1, L⟩ ∧ n ≤ n1 ∧ (∀ e ∈ L, e.wr = true → n0 ≤ e.b ∨ W e.b) ∧ Q a h1 n1
theorem Run.mono {α : Type} {W : Nat → Prop} {n0 : Nat} {m : M α} {h : H} {n : Nat} {Q Q' : α → H → Nat → Prop} (x : Run W n0 m h n Q) (hq : ∀ a h1 n1, n ≤ n1 → Q a h1 n1 → Q' a h1 n1) : Run W n0 m h n Q' := by
  obtain ⟨a, h1, n1, L, e1, e2, e3, e4⟩ := x
  exact ⟨a, h1, n1, L, e1, e2, e3, hq _ _ _ e2 e4⟩
section
variable {α β : Type} {W : Nat → Prop} {n0 : Nat} {m : M α} {k : α → M β} {h h1 : H} {n n1 : Nat} {a : α} {L : List En} {Q : β → H → Nat → Prop}
theorem Run.step (e : m h n = some ⟨a, h1, n1, L⟩) (hn : n ≤ n1) (hw : ∀ e ∈ L, e.wr = true → n0 ≤ e.b ∨ W e.b) (x : Run W n0 (k a) h1 n1 Q) : Run W n0 (m.bind k) h n Q := by
  obtain ⟨b, h2, n2, L2, e1, e2, e3, e4⟩ := x
  refine ⟨b, h2, n2, L ++ L2, zaas e e1, by omega, fun x hx => ?_, e4⟩
  rcases List.mem_append.1 hx with q | q
  · exact hw x q
  · exact e3 x q
theorem Run.unstep (e : m h n = some ⟨a, h1, n1, L⟩) (hn : n1 = n) (x : Run W n0 (m.bind k) h n Q) : Run W n0 (k a) h1 n1 Q := by
  obtain ⟨b, h2, n2, L2, e1, e2, e3, e4⟩ := x
  obtain ⟨a', h3, n3, L3, L4, e5, e6, rfl⟩ := bind_some e1
  rw [e] at e5
  simp only [Option.some.injEq, Out.mk.injEq] at e5
  obtain ⟨rfl, rfl, rfl, rfl⟩ := e5
  exact ⟨b, h2, n2, L4, e6, by omega, fun x hx => e3 x (List.mem_append.2 (.inr hx)), e4⟩
theorem Run.iff (e : m h n = some ⟨a, h1, n, L⟩) (hw : ∀ e ∈ L, e.wr = true → n0 ≤ e.b ∨ W e.b) : Run W n0 (m.bind k) h n Q ↔ Run W n0 (k a) h1 n Q :=
  ⟨Run.unstep e rfl, Run.step e (Nat.le_refl _) hw⟩
theorem Run.inside_ {Q' : α → H → Nat → Prop} (x : Run W n0 m h n Q') : Run W n0 (inside m) h n Q' := by
  obtain ⟨a, h1, n1, L, e1, e2, e3, e4⟩ := x
  exact ⟨a, h1, n1, _, zabe e1, e2, fun e he => e3 e (List.mem_filter.1 he).1, e4⟩
end
section
variable {β : Type} {W : Nat → Prop} {n0 : Nat} {h h1 : H} {n n1 : Nat} {Q : β → H → Nat → Prop} {QV : Value → H → Nat → Prop}
theorem zaxa (a : β) : Run W n0 (M.ret a) h n Q ↔ Q a h n := by
  constructor
  · rintro ⟨b, h2, n2, L, e1, e2, e3, e4⟩
    obtain ⟨rfl, rfl, rfl, rfl⟩ := zanv e1
    exact e4
  · intro x
    exact ⟨a, h, n, [], rfl, Nat.le_refl _, fun e he => (nomatch he), x⟩
theorem zbth : Run W n0 (outK []) h n QV ↔ QV (.tuple #[]) h n := zaxa _
theorem zben (v : Value) : Run W n0 (outK [v]) h n QV ↔ QV v h n := zaxa _
theorem zbua (v w : Value) : Run W n0 (outK [v, w]) h n QV ↔ QV (.tuple #[v, w]) h n := zaxa _
theorem zbtz (v w u : Value) : Run W n0 (outK [v, w, u]) h n QV ↔ QV (.tuple #[v, w, u]) h n := zaxa _
theorem zafh {α : Type} (a : α) (k : α → M β) : optK (some a) k = k a := rfl
theorem zcbu (b : Bool) (x y : M β) : Run W n0 (ifV (.bool b) x y) h n Q ↔ if b = true then Run W n0 x h n Q else Run W n0 y h n Q := by
  cases b
  · rw [if_neg Bool.false_ne_true]; exact Iff.rfl
  · rw [if_pos rfl]; exact Iff.rfl
theorem zbtv (x y : M β) : ifV (.bool true) x y = x := rfl
theorem zbqw (x y : M β) : ifV (.bool false) x y = y := rfl

theorem zbrx (a : Addr) : nil2 (.pointer (some a)) = some (.pointer (some a)) := rfl
theorem zabr {P : Program} {op : BinOp} {t : TypeId} {x y v : Value} (hn : isNilT P t = false) (hs : (scalar x && scalar y) = true) (hr : pureRun P (do pure (.value (← Go.binOp op t x y))) = some v) (hv : scalar v = true) : bin2 P op t x y = some v := by
  unfold bin2 binP plainS
  rw [hn, hs]
  simp only
  rw [hr]
  simp only [hv]
section
variable {P : Program} {t : TypeId} {k : IntKind} (hn : isNilT P t = false) (a b : Int)
include hn
theorem b_add : bin2 P .add t (.int k a) (.int k b) = some (.int k (k.wrap (a + b))) := zabr hn rfl (by unfold Go.binOp; simp only [ne_eq, not_true_eq_false, if_false]; rfl) rfl
theorem b_sub : bin2 P .sub t (.int k a) (.int k b) = some (.int k (k.wrap (a - b))) := zabr hn rfl (by unfold Go.binOp; simp only [ne_eq, not_true_eq_false, if_false]; rfl) rfl
theorem b_mul : bin2 P .mul t (.int k a) (.int k b) = some (.int k (k.wrap (a * b))) := zabr hn rfl (by unfold Go.binOp; simp only [ne_eq, not_true_eq_false, if_false]; rfl) rfl
theorem b_quo (h0 : b ≠ 0) : bin2 P .quo t (.int k a) (.int k b) = some (.int k (k.wrap (a.tdiv b))) := zabr hn rfl (by unfold Go.binOp Op.intDiv; simp only [ne_eq, not_true_eq_false, if_false, h0]; rfl) rfl
theorem b_rem (h0 : b ≠ 0) : bin2 P .rem t (.int k a) (.int k b) = some (.int k (a.tmod b)) := zabr hn rfl (by unfold Go.binOp Op.intDiv; simp only [ne_eq, not_true_eq_false, if_false, h0]; rfl) rfl
theorem b_eql : bin2 P .eql t (.int k a) (.int k b) = some (.bool (a == b)) := zabr hn rfl (by unfold Go.binOp; simp only [ne_eq, not_true_eq_false, if_false]; rfl) rfl
theorem b_neq : bin2 P .neq t (.int k a) (.int k b) = some (.bool (a != b)) := zabr hn rfl (by unfold Go.binOp; simp only [ne_eq, not_true_eq_false, if_false]; rfl) rfl
theorem b_lss : bin2 P .lss t (.int k a) (.int k b) = some (.bool (decide (a < b))) := zabr hn rfl (by unfold Go.binOp; simp only [ne_eq, not_true_eq_false, if_false]; rfl) rfl
theorem b_leq : bin2 P .leq t (.int k a) (.int k b) = some (.bool (decide (a ≤ b))) := zabr hn rfl (by unfold Go.binOp; simp only [ne_eq, not_true_eq_false, if_false]; rfl) rfl
theorem b_gtr : bin2 P .gtr t (.int k a) (.int k b) = some (.bool (decide (b < a))) := zabr hn rfl (by unfold Go.binOp; simp only [ne_eq, not_true_eq_false, if_false]; rfl) rfl
theorem b_geq : bin2 P .geq t (.int k a) (.int k b) = some (.bool (decide (b ≤ a))) := zabr hn rfl (by unfold Go.binOp; simp only [ne_eq, not_true_eq_false, if_false]; rfl) rfl
theorem b_shl {k' : IntKind} (h0 : 0 ≤ b) : bin2 P .shl t (.int k a) (.int k' b) = some (.int k (k.wrap (a * 2 ^ (min b.toNat k.bits)))) := zabr hn rfl (by unfold Go.binOp Op.shift; simp only [show ¬ b < 0 by omega, if_false]; rfl) rfl
theorem b_shr {k' : IntKind} (h0 : 0 ≤ b) : bin2 P .shr t (.int k a) (.int k' b) = some (.int k (a.fdiv (2 ^ (min b.toNat k.bits)))) := zabr hn rfl (by unfold Go.binOp Op.shift; simp only [show ¬ b < 0 by omega, if_false]; rfl) rfl
theorem b_and : bin2 P .and t (.int k a) (.int k b) = some (.int k (k.wrap (BitVec.ofInt k.bits a &&& BitVec.ofInt k.bits b).toNat)) := zabr hn rfl (by unfold Go.binOp; simp only [ne_eq, not_true_eq_false, if_false]; rfl) rfl
theorem b_or : bin2 P .or t (.int k a) (.int k b) = some (.int k (k.wrap (BitVec.ofInt k.bits a ||| BitVec.ofInt k.bits b).toNat)) := zabr hn rfl (by unfold Go.binOp; simp only [ne_eq, not_true_eq_false, if_false]; rfl) rfl
end
theorem u_not {P : Program} (b : Bool) : un2 P .not (.bool b) = some (.bool (!b)) := rfl
theorem u_neg {P : Program} (k : IntKind) (n : Int) : un2 P .neg (.int k n) = some (.int k (k.wrap (0 - n))) := rfl
theorem zbza (k k' : IntKind) (a b : Int) : min2 [.int k a, .int k' b] = some (.int k (if b < a then b else a)) := rfl
theorem zbvh (k k' : IntKind) (a b : Int) : max2 [.int k a, .int k' b] = some (.int k (if a < b then b else a)) := rfl
theorem zbsr (b : Bool) (x y : Value) : pick2 (.bool b) x y = some (if b = true then x else y) := by cases b <;> rfl
theorem zaav {x : Int} (h0 : -9223372036854775808 ≤ x) (h1 : x ≤ 9223372036854775807) : IntKind.i64.wrap x = x := IntWalk.i64_in x (by omega)
theorem zaul {P : Program} {t e : TypeId} (h : P.underlying t = some (.slice e)) (a : Option Addr) (n c : Nat) : len2 P #[t] [.slice a n c] = some (.int .i64 n) := by
  unfold len2
  simp [h, lenS]
theorem zchm {P : Program} {t : TypeId} (h : P.underlying t = some .string) (s : ByteArray) : len2 P #[t] [.string s] = some (.int .i64 s.size) := by
  unfold len2
  simp [h, lenT]
theorem zaos {P : Program} {t e : TypeId} {sz : Nat} (h : P.underlying t = some (.slice e)) (hs : size? P e = some sz) (b off n c : Nat) (k : IntKind) (i : Int) (h0 : 0 ≤ i) (h1 : i < n) : evIndexAddr P t (.slice (some ⟨b, off, none⟩) n c) (.int k i) = some (.pointer (some ⟨b, off + i.toNat * sz, none⟩)) := by
  unfold evIndexAddr
  simp only [h, hs, h0, h1, and_self, if_true]
theorem zbbs {P : Program} {t e : TypeId} {sz n : Nat} (h : P.underlying t = some (.array n e)) (hs : size? P e = some sz) (b off : Nat) (k : IntKind) (i : Int) (h0 : 0 ≤ i) (h1 : i < n) : evIndexAddr P t (.pointer (some ⟨b, off, none⟩)) (.int k i) = some (.pointer (some ⟨b, off + i.toNat * sz, none⟩)) := by
  unfold evIndexAddr
  simp only [h, hs, h0, h1, and_self, if_true]

theorem zaaz (h : H) (i : Nat) (x : Option AB) : (h.set i x).get i = x := by rw [H.get_set, if_pos rfl]
theorem zaar (h : H) {i j : Nat} (x : Option AB) (e : j ≠ i) : (h.set i x).get j = h.get j := by rw [H.get_set, if_neg e]
theorem zbqc {α : Type} {m : M α} {h h1 : H} {n n1 : Nat} {a : α} {L : List En} (e : m h n = some ⟨a, h1, n1, L⟩) (hw : ∀ e ∈ L, e.wr = false) : ∃ L', inside m h n = some ⟨a, h1, n1, L'⟩ ∧ ∀ e ∈ L', e.wr = true → n0 ≤ e.b ∨ W e.b :=
  ⟨_, zabe e, fun x hx hx2 => by rw [hw x (List.mem_filter.1 hx).1] at hx2; cases hx2⟩
theorem zcde {P : Program} {t : TypeId} (hs : size? P t = some 1) (b off : Nat) (v : Value) (k : Value → M β) {e : TypeId} {cs : List Value} (hg : h.get b = some ⟨e, true, cs⟩) (hb : b < n) (ho : off < cs.length) (h1 : one v = true) (hw : n0 ≤ b ∨ W b) (x : Run W n0 (k undef) (h.set b (some ⟨e, true, cs.set off v⟩)) n Q) :
    Run W n0 ((inside (evStore P t (.pointer (some ⟨b, off, none⟩)) v)).bind k) h n Q := by
  have hc : v.cells = #[v] := by cases v <;> first | rfl | (simp [one] at h1)
  have hwr : wr b off v h n = some ⟨(), h.set b (some ⟨e, true, cs.set off v⟩), n, [⟨false, b, some off⟩, ⟨true, b, some off⟩]⟩ := by
    unfold wr
    simp [hb, hg, ho, h1]
  have e : evStore P t (.pointer (some ⟨b, off, none⟩)) v h n = some ⟨undef, h.set b (some ⟨e, true, cs.set off v⟩), n, [⟨false, b, some off⟩, ⟨true, b, some off⟩]⟩ := by
    unfold evStore
    simp only [hs, hc]
    show ((wrN b off [v]).bind fun _ => M.ret undef) h n = _
    unfold wrN
    have := zaas (f := fun _ => wrN b (off + 1) []) hwr (L2 := []) (b := ()) (h2 := h.set b (some ⟨e, true, cs.set off v⟩)) (n2 := n) rfl
    have := zaas (f := fun _ => M.ret undef) this (L2 := []) (b := undef) (h2 := h.set b (some ⟨e, true, cs.set off v⟩)) (n2 := n) rfl
    simpa using this
  refine Run.step (zabe e) (Nat.le_refl _) (fun x hx hx2 => ?_) x
  have hx := (List.mem_filter.1 hx).1
  simp at hx
  rcases hx with rfl | rfl <;> exact hw
theorem zagw (e : TypeId) (cs : List Value) (h : H) (n : Nat) : newB e cs h n = some ⟨n, h.set n (some ⟨e, true, cs⟩), n + 1, []⟩ := by
  unfold newB
  rw [if_pos (Nat.lt_succ_self n)]
theorem zawz {α : Type} {m : M α} {a : α} {k : α → M β} {h1 : H} {n1 : Nat} (e : m h n = some ⟨a, h1, n1, []⟩) (hn : n ≤ n1) (x : Run W n0 (k a) h1 n1 Q) : Run W n0 ((inside m).bind k) h n Q :=
  Run.step (zabe e) hn (fun x hx => by simp at hx) x
theorem zawv {P : Program} {t : TypeId} {sz : Nat} (hs : size? P t = some sz) (v : Value) (k : Value → M β) (x : Run W n0 (k (.pointer (some ⟨n, 0, none⟩))) (h.set n (some ⟨t, true, v.cells.toList⟩)) (n + 1) Q) : Run W n0 ((inside (evBox P t v)).bind k) h n Q := by
  refine zawz (a := .pointer (some ⟨n, 0, none⟩)) ?_ (Nat.le_succ n) x
  unfold evBox
  simp only [hs]
  exact zaas (zagw _ _ _ _) rfl
theorem zagr {P : Program} {t : TypeId} {z : Value} (hz : zero? P t = some z) (k : Value → M β) (x : Run W n0 (k (.pointer (some ⟨n, 0, none⟩))) (h.set n (some ⟨t, true, z.cells.toList⟩)) (n + 1) Q) : Run W n0 ((inside (evAlloc P t)).bind k) h n Q := by
  refine zawz (a := .pointer (some ⟨n, 0, none⟩)) ?_ (Nat.le_succ n) x
  unfold evAlloc
  simp only [hz]
  exact zaas (zagw _ _ _ _) rfl
structure Cell1 (P : Program) (t e : TypeId) (z : Value) : Prop where
  und : P.underlying t = some (.slice e)
  info : ∃ i, P.info? e = some i ∧ i.size = 1 ∧ i.bytes ≤ 64
  zero : zero? P e = some z
  one : z.cells = #[z]
theorem Cell1.size {P : Program} {t e : TypeId} {z : Value} (c : Cell1 P t e z) : size? P e = some 1 := by
  obtain ⟨i, h1, h2, _⟩ := c.info
  unfold size?
  rw [h1]
  simp [h2]
theorem zazs {z : Value} (hz : z.cells = #[z]) (n : Nat) : (zeros z n).toList = List.replicate n z := by
  unfold zeros
  rw [hz]
  apply List.ext_getElem
  · simp
  · intro i h1 h2
    simp [Nat.mod_one]
theorem run_make {P : Program} {t e : TypeId} {z : Value} (c : Cell1 P t e z) (l m : Nat) (k : Value → M β) {kd kd' : IntKind} (hl : l ≤ m) (hm : m ≤ 1099511627776) (x : Run W n0 (k (.slice (some ⟨n, 0, none⟩) l m)) (h.set n (some ⟨e, true, List.replicate m z⟩)) (n + 1) Q) : Run W n0 ((inside (evMakeSlice P t (.int kd l) (.int kd' m))).bind k) h n Q := by
  obtain ⟨i, h1, h2, h3⟩ := c.info
  refine zawz (a := .slice (some ⟨n, 0, none⟩) l m) ?_ (Nat.le_succ n) x
  unfold evMakeSlice
  simp only [c.und, h1, c.zero]
  have hm' : (m : Int) ≤ 1099511627776 := by omega
  have hlm : (l : Int) ≤ (m : Int) := by omega
  rw [if_pos (by simp [h2, h3, c.one, hm', hlm])]
  simp only [Int.toNat_natCast, h2, Nat.mul_one, zazs c.one]
  exact zaas (zagw _ _ _ _) rfl
theorem zcfi {P : Program} {z v : Value} (h1 : one v = true) (h2 : z.cells = #[z]) : Instr.fill (fun i => some (i * 1, 1)) (zeros z (1 * 1)) [(0, v)] = some #[v] := by
  have hc : v.cells = #[v] := by cases v <;> first | rfl | (simp [one] at h1)
  have : zeros z (1 * 1) = #[z] := by
    apply Array.ext'
    rw [zazs h2]
    rfl
  rw [this]
  unfold Instr.fill Instr.fill
  simp [hc]
theorem zbsw {P : Program} {t e : TypeId} {z : Value} (c : Cell1 P t e z) {v : Value} (h1 : one v = true) (k : Value → M β) (x : Run W n0 (k (.slice (some ⟨n, 0, none⟩) 1 1)) (h.set n (some ⟨e, true, [v]⟩)) (n + 1) Q) : Run W n0 ((inside (evBuildSlice P t 1 [(0, v)])).bind k) h n Q := by
  refine zawz (a := .slice (some ⟨n, 0, none⟩) 1 1) ?_ (Nat.le_succ n) x
  unfold evBuildSlice
  simp only [c.und, c.size, c.zero]
  rw [if_neg (by simp), if_pos (by simp), zcfi (P := P) h1 c.one]
  exact zaas (zagw _ _ _ _) rfl
end

end Go.Proofs.YtdagfcflbphoiaaGreatDoor.Ev
namespace Go.Proofs.YtdagfcflbphoiaaGreatDoor.Ev
set_option linter.unusedVariables false
set_option linter.unusedSimpArgs false
open Go

def optG {α : Type} (o : Option α) (p : α → Prop) : Prop := match o with
  | some a => p a
  | none => False
theorem zbpx {α : Type} (a : α) (p : α → Prop) : optG (some a) p = p a := rfl
theorem zaae (k : IntKind) (x : Int) : one (.int k x) = true := rfl
theorem zaad (b : Bool) : one (.bool b) = true := rfl
theorem zaaa (s : ByteArray) : one (.string s) = true := rfl
theorem zaab (a : Option Addr) (n c : Nat) : one (.slice a n c) = true := rfl
theorem zaaf (a : Option Addr) : one (.pointer a) = true := rfl
theorem zbpv (cs : Array Value) : (Value.agg cs).cells = cs := rfl
section
variable {β : Type} {W : Nat → Prop} {n0 : Nat} {h h1 : H} {n n1 : Nat} {Q : β → H → Nat → Prop}
theorem zbrv : ¬ Run W n0 (M.fail : M β) h n Q := by rintro ⟨_, _, _, _, e, _⟩; cases e
theorem zaqs {α : Type} {m : M α} {k : α → M β} (e : m h n = none) : ¬ Run W n0 (m.bind k) h n Q := by
  rintro ⟨_, _, _, _, e1, _⟩
  unfold M.bind at e1
  rw [e] at e1
  cases e1
theorem zaty {α : Type} {m : M α} (e : m h n = none) : Ev.inside m h n = none := by unfold Ev.inside; rw [e]
theorem zafc {P : Program} {t : TypeId} (ha : agg? P t = some false) (b off : Nat) (k : Value → M β) (hb : b < n) : Run W n0 ((inside (evLoad P t (.pointer (some ⟨b, off, none⟩)))).bind k) h n Q ↔ optG (h.get b) fun B => Run W n0 (optK (B.cells[off]?) k) h n Q := by
  cases hg : h.get b with
  | none =>
    refine ⟨fun x => absurd x (zaqs (zaty ?_)), fun x => x.elim⟩
    unfold evLoad rd
    simp [ha, hg]
  | some B =>
    show _ ↔ Run W n0 (optK (B.cells[off]?) k) h n Q
    cases hv : B.cells[off]? with
    | none =>
      refine ⟨fun x => absurd x (zaqs (zaty ?_)), fun x => absurd x zbrv⟩
      unfold evLoad rd
      simp [ha, hg, hv]
    | some v =>
      have e : evLoad P t (.pointer (some ⟨b, off, none⟩)) h n = some ⟨v, h, n, [⟨false, b, some off⟩]⟩ := by
        unfold evLoad
        simp only [ha]
        unfold rd
        simp only [hb, hg, hv, if_true]
      obtain ⟨L', e1, e2⟩ := zbqc (W := W) (n0 := n0) e (by simp)
      exact Run.iff e1 e2
theorem zalz {P : Program} {t : TypeId} (hs : size? P t = some 1) (b off : Nat) (v : Value) (k : Value → M β) (hb : b < n) (h1 : one v = true) : Run W n0 ((inside (evStore P t (.pointer (some ⟨b, off, none⟩)) v)).bind k) h n Q ↔
    optG (h.get b) fun B => B.own = true ∧ off < B.cells.length ∧ (n0 ≤ b ∨ W b) ∧ Run W n0 (k undef) (h.set b (some ⟨B.elem, B.own, B.cells.set off v⟩)) n Q := by
  have hc : v.cells = #[v] := by cases v <;> first | rfl | (simp [one] at h1)
  have hdef : evStore P t (.pointer (some ⟨b, off, none⟩)) v h n = ((wrN b off [v]).bind fun _ => M.ret undef) h n := by
    unfold evStore
    simp only [hs, hc]
    rfl
  have hN : wrN b off [v] = (wr b off v).bind fun _ => M.ret () := by
    unfold wrN
    funext h n
    rfl
  cases hg : h.get b with
  | none =>
    refine ⟨fun x => absurd x (zaqs (zaty ?_)), fun x => x.elim⟩
    rw [hdef, hN]
    unfold M.bind wr
    simp [hg]
  | some B =>
    show _ ↔ (B.own = true ∧ off < B.cells.length ∧ (n0 ≤ b ∨ W b) ∧ _)
    by_cases hok : B.own = true ∧ off < B.cells.length
    · obtain ⟨ho, hl⟩ := hok
      have hwr : wr b off v h n = some ⟨(), h.set b (some ⟨B.elem, B.own, B.cells.set off v⟩), n, [⟨false, b, some off⟩, ⟨true, b, some off⟩]⟩ := by
        unfold wr
        simp [hb, hg, ho, hl, h1]
      have e : evStore P t (.pointer (some ⟨b, off, none⟩)) v h n = some ⟨undef, h.set b (some ⟨B.elem, B.own, B.cells.set off v⟩), n, [⟨false, b, some off⟩, ⟨true, b, some off⟩]⟩ := by
        rw [hdef, hN]
        have := zaas (f := fun _ => M.ret ()) hwr (L2 := []) (b := ()) (h2 := h.set b (some ⟨B.elem, B.own, B.cells.set off v⟩)) (n2 := n) rfl
        have := zaas (f := fun _ => M.ret undef) this (L2 := []) (b := undef) (h2 := h.set b (some ⟨B.elem, B.own, B.cells.set off v⟩)) (n2 := n) rfl
        simpa using this
      have ei := zabe e
      constructor
      · intro x
        refine ⟨ho, hl, ?_, Run.unstep ei rfl x⟩
        obtain ⟨_, _, _, L, e1, _, e3, _⟩ := x
        obtain ⟨_, _, _, L3, L4, e5, _, rfl⟩ := bind_some e1
        rw [ei] at e5
        simp only [Option.some.injEq, Out.mk.injEq] at e5
        refine e3 ⟨true, b, some off⟩ (List.mem_append.2 (.inl ?_)) rfl
        rw [← e5.2.2.2]
        refine List.mem_filter.2 ⟨by simp, ?_⟩
        simp
        omega
      · rintro ⟨_, _, hw, x⟩
        refine Run.step ei (Nat.le_refl _) (fun x hx hx2 => ?_) x
        have hx := (List.mem_filter.1 hx).1
        simp at hx
        rcases hx with rfl | rfl <;> exact hw
    · refine ⟨fun x => absurd x (zaqs (zaty ?_)), fun x => absurd ⟨x.1, x.2.1⟩ hok⟩
      rw [hdef, hN]
      unfold M.bind wr
      simp only [hb, hg, if_true, h1, Bool.and_true]
      rw [if_neg (by simpa using hok)]

theorem zawy {b : Nat} {B : AB} (hg : h.get b = some B) (hb : b < n) : ∀ (c k : Nat), k + c ≤ B.cells.length → ∃ L, rdN b k c h n = some ⟨(B.cells.drop k).take c, h, n, L⟩ ∧ ∀ e ∈ L, e.wr = false
  | 0, k, _ => ⟨[], by rw [List.take_zero]; rfl, by simp⟩
  | c + 1, k, hk => by
    obtain ⟨L, e, hL⟩ := zawy hg hb c (k + 1) (by omega)
    have hk2 : k < B.cells.length := by omega
    refine ⟨[⟨false, b, some k⟩] ++ (L ++ []), ?_, ?_⟩
    · unfold rdN
      have e0 : rd b k h n = some ⟨B.cells[k], h, n, [⟨false, b, some k⟩]⟩ := by
        unfold rd
        simp only [hb, hg, if_true, List.getElem?_eq_getElem hk2]
      refine zaas e0 (zaas e ?_)
      rw [List.drop_eq_getElem_cons hk2, List.take_succ_cons]
      rfl
    · intro x hx
      simp only [List.append_nil, List.mem_append, List.mem_cons, List.not_mem_nil, or_false] at hx
      rcases hx with rfl | hx
      · rfl
      · exact hL x hx
theorem zbwa {b : Nat} {B : AB} (hg : h.get b = some B) (hb : b < n) : hdr b h n = some ⟨B.elem, h, n, [⟨false, b, some 1099511627776⟩]⟩ := by
  unfold hdr
  simp only [hb, hg, if_true]
theorem zcfq {b : Nat} {B : AB} (hg : h.get b = some B) (ho : B.own = true) (hb : b < n) : kill b h n = some ⟨(), h.set b none, n, [⟨false, b, none⟩, ⟨true, b, none⟩]⟩ := by
  unfold kill
  simp only [hb, hg, ho, if_true]
def Src (h : H) (n : Nat) (x : Value) (news : List Value) : Prop := ∃ b off c B, x = .slice (some ⟨b, off, none⟩) news.length c ∧ h.get b = some B ∧ b < n ∧ off + news.length ≤ B.cells.length ∧ (B.cells.drop off).take news.length = news
theorem Src.run {x : Value} {news : List Value} (s : Src h n x news) : ∃ L, elemsOf 1 news.length x h n = some ⟨news, h, n, L⟩ ∧ (∀ e ∈ L, e.wr = false) ∧ lenOf? x = some news.length := by
  obtain ⟨b, off, c, B, rfl, hg, hb, hl, ht⟩ := s
  obtain ⟨L, e, hL⟩ := zawy hg hb news.length off hl
  refine ⟨L, ?_, hL, rfl⟩
  unfold elemsOf
  rw [Nat.mul_one]
  show rdN b off news.length h n = _
  rw [e, ht]
theorem zcer {P : Program} {t e : TypeId} {z : Value} (c : Cell1 P t e z) {x : Value} {news : List Value} (hx : lenOf? x = some 0) (a : Option Addr) (l cp : Nat) (k : Value → M β) (y : Run W n0 (k (.slice a l cp)) h n Q) : Run W n0 ((inside (evAppend P t (.slice a l cp) x)).bind k) h n Q := by
  obtain ⟨i, i1, i2, i3⟩ := c.info
  refine zawz (a := .slice a l cp) ?_ (Nat.le_refl n) y
  unfold evAppend
  simp only [c.und, i1, c.zero, hx]
  rw [if_pos (by simp [i2, i3, c.one])]
  rfl
theorem zchz {P : Program} {t e : TypeId} {z : Value} (c : Cell1 P t e z) {x : Value} {news : List Value} (s : Src h n x news) (h0 : 0 < news.length) (hm : news.length ≤ 1099511627776) (h1 : news.all one = true) (k : Value → M β)
    (y : Run W n0 (k (.slice (some ⟨n, 0, none⟩) news.length (CAP + news.length))) (h.set n (some ⟨e, true, news⟩)) (n + 1) Q) : Run W n0 ((inside (evAppend P t (.slice none 0 0) x)).bind k) h n Q := by
  obtain ⟨i, i1, i2, i3⟩ := c.info
  obtain ⟨L, e1, e2, e3⟩ := s.run
  have ea : evAppend P t (.slice none 0 0) x h n = some ⟨.slice (some ⟨n, 0, none⟩) news.length (CAP + news.length), h.set n (some ⟨e, true, news⟩), n + 1, L⟩ := by
    unfold evAppend
    simp only [c.und, i1, c.zero, e3]
    rw [if_pos (by simp [i2, i3, c.one]), if_neg (by omega), if_pos hm, i2]
    have g : (if (decide (news.length = news.length * 1) && news.all one) = true then evNew e 0 news.length [] news else M.fail) h n = some ⟨.slice (some ⟨n, 0, none⟩) news.length (CAP + news.length), h.set n (some ⟨e, true, news⟩), n + 1, []⟩ := by
      rw [if_pos (by simp; simpa using h1)]
      unfold evNew
      simp only [Nat.zero_add, List.nil_append]
      exact zaas (zagw _ _ _ _) rfl
    have := zaas (f := fun new => if (decide (new.length = news.length * 1) && new.all one) = true then evNew e 0 news.length [] new else M.fail) e1 g
    simpa using this
  refine Run.step (zabe ea) (Nat.le_succ n) (fun x hx hx2 => ?_) y
  rw [e2 x (List.mem_filter.1 hx).1] at hx2
  cases hx2
theorem zcik {P : Program} {t e : TypeId} {z : Value} (c : Cell1 P t e z) {x : Value} {news olds : List Value} (s : Src h n x news) (h0 : 0 < news.length) (h1 : news.all one = true) {b cp : Nat} {cs : List Value} (hg : h.get b = some ⟨e, true, cs⟩) (hb : b < n) (off l : Nat)
    (hl : off + l ≤ cs.length) (ho : (cs.drop off).take l = olds) (hm : l + news.length ≤ 1099511627776) (hc : CAP ≤ cp) (hw : n0 ≤ b ∨ W b) (k : Value → M β)
    (y : Run W n0 (k (.slice (some ⟨n, 0, none⟩) (l + news.length) (CAP + (l + news.length)))) ((h.set b none).set n (some ⟨e, true, olds ++ news⟩)) (n + 1) Q) : Run W n0 ((inside (evAppend P t (.slice (some ⟨b, off, none⟩) l cp) x)).bind k) h n Q := by
  obtain ⟨i, i1, i2, i3⟩ := c.info
  obtain ⟨L, e1, e2, e3⟩ := s.run
  obtain ⟨L', e4, e5⟩ := zawy (n := n) hg hb l off hl
  have ea : ∃ L1, evAppend P t (.slice (some ⟨b, off, none⟩) l cp) x h n = some ⟨.slice (some ⟨n, 0, none⟩) (l + news.length) (CAP + (l + news.length)), (h.set b none).set n (some ⟨e, true, olds ++ news⟩), n + 1, L1⟩ ∧ ∀ e ∈ L1, e.wr = true → e.b = b := by
    refine ⟨[⟨false, b, some 1099511627776⟩] ++ (L ++ (L' ++ ([⟨false, b, none⟩, ⟨true, b, none⟩] ++ []))), ?_, ?_⟩
    · unfold evAppend
      simp only [c.und, i1, c.zero, e3]
      rw [if_pos (by simp [i2, i3, c.one]), if_neg (by omega), if_pos hm]
      refine zaas (zbwa hg hb) ?_
      simp only [if_true, i2]
      refine zaas e1 ?_
      rw [if_pos (by simp; simpa using h1)]
      unfold evAppendTo
      rw [if_neg (by omega), Nat.mul_one]
      refine zaas e4 (zaas (zcfq hg rfl hb) ?_)
      rw [ho]
      unfold evNew
      exact zaas (zagw _ _ _ _) rfl
    · intro x hx hx2
      simp only [List.mem_append, List.mem_cons, List.not_mem_nil, or_false] at hx
      rcases hx with rfl | hx | hx | rfl | rfl
      · cases hx2
      · rw [e2 x hx] at hx2; cases hx2
      · rw [e5 x hx] at hx2; cases hx2
      · cases hx2
      · rfl
  obtain ⟨L1, ea, hL1⟩ := ea
  refine Run.step (zabe ea) (Nat.le_succ n) (fun x hx hx2 => ?_) y
  rw [hL1 x (List.mem_filter.1 hx).1 hx2]
  exact hw
theorem zcgh {P : Program} {t e : TypeId} {z : Value} (c : Cell1 P t e z) {x : Value} {news olds : List Value} (s : Src h n x news) (h0 : 0 < news.length) (h1 : news.all one = true) {b cp : Nat} {B : AB} (hg : h.get b = some B) (he : B.elem = e) (hb : b < n) (off l : Nat)
    (hl : off + l ≤ B.cells.length) (ho : (B.cells.drop off).take l = olds) (hm : l + news.length ≤ 1099511627776) (hc : cp < CAP) (hr : cp < l + news.length) (k : Value → M β)
    (y : Run W n0 (k (.slice (some ⟨n, 0, none⟩) (l + news.length) (CAP + (l + news.length)))) (h.set n (some ⟨e, true, olds ++ news⟩)) (n + 1) Q) : Run W n0 ((inside (evAppend P t (.slice (some ⟨b, off, none⟩) l cp) x)).bind k) h n Q := by
  obtain ⟨i, i1, i2, i3⟩ := c.info
  obtain ⟨L, e1, e2, e3⟩ := s.run
  obtain ⟨L', e4, e5⟩ := zawy (n := n) hg hb l off hl
  have ea : ∃ L1, evAppend P t (.slice (some ⟨b, off, none⟩) l cp) x h n = some ⟨.slice (some ⟨n, 0, none⟩) (l + news.length) (CAP + (l + news.length)), h.set n (some ⟨e, true, olds ++ news⟩), n + 1, L1⟩ ∧ ∀ e ∈ L1, e.wr = false := by
    refine ⟨[⟨false, b, some 1099511627776⟩] ++ (L ++ (L' ++ [])), ?_, ?_⟩
    · unfold evAppend
      simp only [c.und, i1, c.zero, e3]
      rw [if_pos (by simp [i2, i3, c.one]), if_neg (by omega), if_pos hm]
      refine zaas (zbwa hg hb) ?_
      simp only [he, if_true, i2]
      refine zaas e1 ?_
      rw [if_pos (by simp; simpa using h1)]
      unfold evAppendTo
      rw [if_pos hc, if_neg (by omega), Nat.mul_one]
      refine zaas e4 ?_
      rw [ho]
      unfold evNew
      exact zaas (zagw _ _ _ _) rfl
    · intro x hx
      simp only [List.append_nil, List.mem_append, List.mem_cons, List.not_mem_nil, or_false] at hx
      rcases hx with rfl | hx | hx
      · rfl
      · exact e2 x hx
      · exact e5 x hx
  obtain ⟨L1, ea, hL1⟩ := ea
  refine Run.step (zabe ea) (Nat.le_succ n) (fun x hx hx2 => ?_) y
  rw [hL1 x (List.mem_filter.1 hx).1] at hx2
  cases hx2

theorem zbte {P : Program} {t e : TypeId} {z : Value} (c : Cell1 P t e z) {v : Value} (hv : one v = true) {b cp l : Nat} {cs : List Value} (hg : h.get b = some ⟨e, true, cs⟩) (hb : b < n) (hl : cs.length = l) (hm : l + 1 ≤ 1099511627776) (hc : CAP ≤ cp) (hw : n0 ≤ b ∨ W b) (k : Value → M β)
    (y : Run W n0 (k (.slice (some ⟨n + 1, 0, none⟩) (l + 1) (CAP + (l + 1)))) (((h.set n (some ⟨e, true, [v]⟩)).set b none).set (n + 1) (some ⟨e, true, cs ++ [v]⟩)) (n + 2) Q) : Run W n0 ((inside (evBuildSlice P t 1 [(0, v)])).bind fun w => (inside (evAppend P t (.slice (some ⟨b, 0, none⟩) l cp) w)).bind k) h n Q := by
  refine zbsw c hv _ ?_
  have hg' : (h.set n (some ⟨e, true, [v]⟩)).get b = some ⟨e, true, cs⟩ := by rw [zaar _ _ (by omega)]; exact hg
  exact zcik c (news := [v]) (olds := cs) ⟨n, 0, 1, ⟨e, true, [v]⟩, rfl, zaaz _ _ _, Nat.lt_succ_self n, by simp, by simp⟩ (by simp) (by simp [hv]) hg' (by omega) 0 l (by omega) (by rw [List.drop_zero, ← hl, List.take_length]) hm hc hw k y
theorem zbqh {P : Program} {t e : TypeId} {z : Value} (c : Cell1 P t e z) {v : Value} (hv : one v = true) (k : Value → M β)
    (y : Run W n0 (k (.slice (some ⟨n + 1, 0, none⟩) 1 (CAP + 1))) ((h.set n (some ⟨e, true, [v]⟩)).set (n + 1) (some ⟨e, true, [v]⟩)) (n + 2) Q) : Run W n0 ((inside (evBuildSlice P t 1 [(0, v)])).bind fun w => (inside (evAppend P t (.slice none 0 0) w)).bind k) h n Q := by
  refine zbsw c hv _ ?_
  exact zchz c (news := [v]) ⟨n, 0, 1, ⟨e, true, [v]⟩, rfl, zaaz _ _ _, Nat.lt_succ_self n, by simp, by simp⟩ (by simp) (by simp) (by simp [hv]) k y

theorem zber {P : Program} (hd : okDsts P = true) {gt : Nat → List Nat} {lf d : Nat} {f : FuncId} {args : Array Value} {v : Value} {L : List En} (e : zaac P gt lf d f args h n = some ⟨v, h1, n1, L⟩) {W' : Nat → Prop} (hw : ∀ e ∈ L, e.wr = true → n ≤ e.b ∨ W' e.b) : ∀ b, b < n → ¬ W' b → h1.get b = h.get b := by
  obtain ⟨f0, e0⟩ := zbdc hd d f args h n v h1 n1 L e
  have A := Loc.evCall P KN f0 f args h n v h1 n1 L (e0 f0 (Nat.le_refl _))
  intro b hb hn
  refine zbbb fun k => A.frame b k ?_ (by omega)
  rintro ⟨e, he, h2, h3, _⟩
  rcases hw e he h2 with q | q
  · omega
  · exact hn (h3 ▸ q)
theorem zaay {P : Program} (hd : okDsts P = true) {gt : Nat → List Nat} {lf d : Nat} {f : FuncId} {args : Array Value} {W' : Nat → Prop} {Q' : Value → H → Nat → Prop} (s : Run W' n (zaac P gt lf d f args) h n Q') (hn : n0 ≤ n) (hW : ∀ b, b < n → W' b → n0 ≤ b ∨ W b) {k : Value → M β}
    (x : ∀ v h1 n1, n ≤ n1 → (∀ b, b < n → ¬ W' b → h1.get b = h.get b) → Q' v h1 n1 → Run W n0 (k v) h1 n1 Q) : Run W n0 ((inside (zaac P gt lf d f args)).bind k) h n Q := by
  obtain ⟨v, h1, n1, L, e1, e2, e3, e4⟩ := s
  refine Run.step (zabe e1) e2 (fun e he hwr => ?_) (x v h1 n1 e2 (zber hd e1 e3) e4)
  have hL := (List.mem_filter.1 he).1
  rcases e3 e hL hwr with q | q
  · exact .inl (by omega)
  · by_cases hlt : e.b < n
    · exact hW _ hlt q
    · exact .inl (by omega)
end

section
variable {β : Type} {W : Nat → Prop} {n0 : Nat} {h h1 : H} {n n1 : Nat} {Q : β → H → Nat → Prop}
theorem zbdp (v : Value) (k : Value → M β) : (inside (M.ret v)).bind k = k v := by
  have : inside (M.ret v) = M.ret v := by funext h n; rfl
  rw [this, zagz]
theorem zcgp {P : Program} {t e : TypeId} {z : Value} (c : Cell1 P t e z) (k : Value → M β) (x : Run W n0 (k (.slice (some ⟨n, 0, none⟩) 0 0)) (h.set n (some ⟨e, true, []⟩)) (n + 1) Q) : Run W n0 ((inside (evBuildSlice P t 0 [])).bind k) h n Q := by
  refine zawz (a := .slice (some ⟨n, 0, none⟩) 0 0) ?_ (Nat.le_succ n) x
  unfold evBuildSlice
  simp only [c.und, c.size, c.zero]
  rw [if_pos (by simp)]
  exact zaas (zagw _ _ _ _) rfl
theorem zaew (m : M β) : chkT true m = m := rfl
theorem zajo {m : M Value} {v : Value} {L : List En} {k : Value × Tk → M β} (e : m h n = some ⟨v, h1, n1, L⟩) (hn : n ≤ n1) (hw : ∀ e ∈ L, e.wr = true → n0 ≤ e.b ∨ W e.b) (x : Run W n0 (k (v, ⟨n, n1, L⟩)) h1 n1 Q) : Run W n0 ((timed m).bind k) h n Q :=
  Run.step (zaus e) hn hw x
theorem zajl {m : M Value} {v : Value} {L : List En} (e : m h n = some ⟨v, h1, n1, L⟩) : (m.bind fun v => M.ret v) h n = some ⟨v, h1, n1, L⟩ := by
  have := zaas (f := fun v => M.ret v) e (L2 := []) (b := v) (h2 := h1) (n2 := n1) rfl
  rwa [List.append_nil] at this
theorem zbkt {P : Program} {t : TypeId} (ha : agg? P t = some false) (b off : Nat) (k : Value × Tk → M β) {B : AB} (hg : h.get b = some B) (hb : b < n) {v : Value} (hv : B.cells[off]? = some v) (x : Run W n0 (k (v, ⟨n, n, [⟨false, b, some off⟩]⟩)) h n Q) : Run W n0 ((timed ((inside (evLoad P t (.pointer (some ⟨b, off, none⟩)))).bind fun v => M.ret v)).bind k) h n Q := by
  have e : evLoad P t (.pointer (some ⟨b, off, none⟩)) h n = some ⟨v, h, n, [⟨false, b, some off⟩]⟩ := by
    unfold evLoad
    simp only [ha]
    unfold rd
    simp only [hb, hg, hv, if_true]
  have e2 := zabe e
  have hf : [(⟨false, b, some off⟩ : En)].filter (fun e => !(decide (n ≤ e.b) && decide (e.b < n))) = [⟨false, b, some off⟩] := by
    simp; omega
  rw [hf] at e2
  exact zajo (zajl e2) (Nat.le_refl _) (by simp) x
theorem zcdj {P : Program} {t : TypeId} {sz : Nat} (hs : size? P t = some sz) (v : Value) (k : Value × Tk → M β) (x : Run W n0 (k (.pointer (some ⟨n, 0, none⟩), ⟨n, n + 1, []⟩)) (h.set n (some ⟨t, true, v.cells.toList⟩)) (n + 1) Q) : Run W n0 ((timed ((inside (evBox P t v)).bind fun v => M.ret v)).bind k) h n Q := by
  have e : evBox P t v h n = some ⟨.pointer (some ⟨n, 0, none⟩), h.set n (some ⟨t, true, v.cells.toList⟩), n + 1, []⟩ := by
    unfold evBox
    simp only [hs]
    exact zaas (zagw _ _ _ _) rfl
  exact zajo (zajl (zabe e)) (Nat.le_succ n) (by simp) x
theorem zbmp {P : Program} (hd : okDsts P = true) {gt : Nat → List Nat} {lf d : Nat} {f : FuncId} {args : Array Value} {W' : Nat → Prop} {Q' : Value → H → Nat → Prop} (s : Run W' n (zaac P gt lf d f args) h n Q') (hn : n0 ≤ n) (hW : ∀ b, b < n → W' b → n0 ≤ b ∨ W b) {k : Value × Tk → M β}
    (x : ∀ v h1 n1 L, n ≤ n1 → (∀ b, b < n → ¬ W' b → h1.get b = h.get b) → Q' v h1 n1 → (∀ e ∈ L, e.b < n) → (∀ e ∈ L, e.wr = true → W' e.b) → Run W n0 (k (v, ⟨n, n1, L⟩)) h1 n1 Q) : Run W n0 ((timed ((inside (zaac P gt lf d f args)).bind fun v => M.ret v)).bind k) h n Q := by
  obtain ⟨v, h1, n1, L, e1, e2, e3, e4⟩ := s
  obtain ⟨f0, e0⟩ := zbdc hd d f args h n v h1 n1 L e1
  have A := Loc.evCall P KN f0 f args h n v h1 n1 L (e0 f0 (Nat.le_refl _))
  have hlt : ∀ e ∈ L.filter (fun e => !(decide (n ≤ e.b) && decide (e.b < n1))), e.b < n := fun e he => by
    obtain ⟨h1, h2⟩ := List.mem_filter.1 he
    have := A.lt e h1
    simp at h2
    omega
  have hwr : ∀ e ∈ L.filter (fun e => !(decide (n ≤ e.b) && decide (e.b < n1))), e.wr = true → W' e.b := fun e he hw => by
    rcases e3 e (List.mem_filter.1 he).1 hw with q | q
    · have := hlt e he; omega
    · exact q
  exact zajo (zajl (zabe e1)) e2 (fun e he hw => hW _ (hlt e he) (hwr e he hw)) (x v h1 n1 _ e2 (zber hd e1 e3) e4 hlt hwr)
end

end Go.Proofs.YtdagfcflbphoiaaGreatDoor.Ev

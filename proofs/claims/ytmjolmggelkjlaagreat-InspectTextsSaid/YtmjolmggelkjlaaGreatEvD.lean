/- Operations in any order: what the evaluator finds in one order holds in each. No program in sight. -/
import Derived.Test.YtmjolmggelkjlaaGreatEvC
import Derived.Orders
namespace Go.Proofs.YtmjolmggelkjlaaGreat.Ev
set_option linter.unusedVariables false
set_option linter.unusedSimpArgs false
open Go Go.RowKit

def Gl (P : Program) (m : Mp) : Prop := ∀ g, g < P.globals.size → ∃ d, m g = some d ∧ d.blk = g ∧ d.sh = 0
theorem Gl.mono {P : Program} {m m' : Mp} (g : Gl P m) (h : Le m m') : Gl P m' := fun i hi => let ⟨d, h1, h2⟩ := g i hi; ⟨d, h _ _ h1, h2⟩
structure SR (m : Mp) (nt : Nat) (s : S) (a : Act) : Prop where
  df : a.defers = []
  sz : a.tmps.size = nt
  at_ : ∀ t, VR m (s.get t) (a.tmps.getD t undef)
theorem SR.mono {m m' : Mp} {nt : Nat} {s : S} {a : Act} (x : SR m nt s a) (h : Le m m') : SR m' nt s a := ⟨x.df, x.sz, fun t => (x.at_ t).mono h⟩

theorem VR.clean1 {m : Mp} {v : Value} (h : Ev.clean1 v = true) : VR m v v := by
  unfold Ev.clean1 at h
  split at h
  · exact .bool _
  · exact .int _ _
  · exact .float _ _
  · exact .string _
  · exact .pnil
  · exact .nilFunc
  · exact .snil _ _ (by simpa using h)
  · cases h
theorem VRs.clean {m : Mp} : ∀ {l : List Value}, (∀ v ∈ l, Ev.clean1 v = true) → VRs m l l
  | [], _ => .nil
  | v :: l, h => .cons (VR.clean1 (h v (by simp))) (VRs.clean fun u hu => h u (by simp [hu]))
theorem VR.clean {m : Mp} {v : Value} (h : Ev.clean v = true) : VR m v v := by
  unfold Ev.clean at h
  split at h
  · exact .agg (VRs.clean fun u hu => by rw [Array.all_eq_true_iff_forall_mem] at h; exact h u (Array.mem_toList_iff.1 hu))
  · exact .tuple (VRs.clean fun u hu => by rw [Array.all_eq_true_iff_forall_mem] at h; exact h u (Array.mem_toList_iff.1 hu))
  · exact VR.clean1 h
theorem ev_at {P : Program} {m : Mp} {nt : Nat} {s : S} {a : Act} (g : Gl P m) (x : SR m nt s a) {y : Operand} (h : okOperand P y = true) : VR m (ev s y) (a.eval y) := by
  cases y with
  | tmp t => exact x.at_ t
  | const v => exact VR.clean h
  | global i =>
    obtain ⟨d, h1, h2, h3⟩ := g i (by simpa [okOperand] using h)
    have := VR.ptr (m := m) (off := 0) h1
    rw [h2, h3] at this
    exact this
  | func f => exact .func _ .nil .nil

theorem yields_eq {m : Mp} {nt : Nat} {s : S} {a : Act} (x : SR m nt s a) (ops : Array Oper) (j : Nat) : yields ops s j = yielded ops a.tmps j := by
  unfold yields yielded
  cases ho : (ops[j]?).bind (·.dst) with
  | none => rfl
  | some t =>
    have hr := x.at_ t
    simp only [Option.bind_some]
    rw [Array.getD_eq_getD_getElem?] at hr
    cases hg : a.tmps[t]? with
    | none =>
      rw [hg] at hr
      generalize s.get t = v at hr
      cases hr; rfl
    | some u =>
      rw [hg] at hr
      simp only [Option.getD_some] at hr
      generalize s.get t = v at hr
      cases hr <;> rfl
theorem S.get_put (s : S) (d : Nat) (v : Value) (t : Nat) (hd : d < 1023) : (s.put d v).get t = if t = d then v else s.get t := by
  unfold S.get S.put
  rw [Tr.get_set 10 s d (some v) t (by omega)]
  split <;> rfl
theorem putS_at {m : Mp} {nt : Nat} {s s1 : S} {a : Act} {dst : Option Tmp} {v v' : Value} (x : SR m nt s a) (hv : VR m v v') (h : putS nt s dst v = some s1) : SR m nt s1 (a.put dst v') := by
  unfold putS at h
  cases dst with
  | none => cases h; exact x
  | some d =>
    simp only at h
    split at h
    · rename_i hc
      simp only [Bool.and_eq_true, decide_eq_true_eq] at hc
      cases h
      refine ⟨x.df, by simp [Act.put, x.sz], fun t => ?_⟩
      rw [S.get_put _ _ _ _ hc.2]
      simp only [Act.put]
      by_cases e : t = d
      · subst e
        rw [if_pos rfl]
        have : t < a.tmps.size := by rw [x.sz]; exact hc.1
        simpa [this] using hv
      · rw [if_neg e]
        have := x.at_ t
        simpa [Array.getElem?_setIfInBounds_ne (Ne.symm e), Array.getD_eq_getD_getElem?] using this
    · cases h

inductive NR (m : Mp) : Nx → Next → Prop
  | val {v v' : Value} (h : VR m v v') : NR m (.val v) (.value v')
  | skip : NR m (.val undef) .skip
  | call {f : FuncId} {args args' : Array Value} (h : VRs m args.toList args'.toList) : NR m (.call f args) (.enter f args')
def OpSim (P : Program) (base : Nat) : Prop := ∀ (ρ ρ' : Operand → Value) (o : Oper) (h : H) (n : Nat) (r : Nx) (h1 : H) (n1 : Nat) (L : List En) (m : Mp) (w : World),
  evOp P ρ o h n = some ⟨r, h1, n1, L⟩ → (∀ y ∈ o.op.operands, VR m (ρ y) (ρ' y)) → WR P m base h w.heap → base ≤ w.heap.size → Fresh m n n1 →
  ∃ m' w' R, (execOp ρ' o).run P w = .ok R w' ∧ Post P m base n n1 w h1 m' w' ∧ NR m' r R
def CallSim (P : Program) (base : Nat) (rec : FuncId → Array Value → M Value) : Prop := ∀ (f : FuncId) (args : Array Value) (h : H) (n : Nat) (v : Value) (h1 : H) (n1 : Nat) (L : List En) (m : Mp) (w : World) (args' : Array Value),
  rec f args h n = some ⟨v, h1, n1, L⟩ → WR P m base h w.heap → base ≤ w.heap.size → VRs m args.toList args'.toList → Fresh m n n1 → Gl P m →
  Calls P f args' w fun e w' => ∃ m' v', e = .returned v' ∧ Post P m base n n1 w h1 m' w' ∧ VR m' v v'

section
variable {P : Program} {base : Nat} {rec : FuncId → Array Value → M Value} {nt : Nat} {ops : Array Oper} {Q : Exit → Act → World → Prop}
theorem Below.le {B : Nat} {w w' : World} (b : Below B w w') (h : B ≤ w.heap.size) : B ≤ w'.heap.size := Nat.le_trans h b.size
theorem evVal_sim (hop : OpSim P base) (hrec : CallSim P base rec) (hrl : ∀ f a, Loc (rec f a)) {i : Nat} {o : Oper} (hi : ops[i]? = some o) (hok : okOper P o = true) {m : Mp} {s : S} {a : Act} {w : World} {h h1 : H} {n n1 : Nat} {L : List En} {v : Value}
    (x : WR P m base h w.heap) (hb : base ≤ w.heap.size) (g : Gl P m) (hs : SR m nt s a) (hr : evVal P rec ops o s h n = some ⟨v, h1, n1, L⟩) (hf : Fresh m n n1) {K : Act → World → Prop}
    (hK : ∀ m' w' v', Post P m base n n1 w h1 m' w' → VR m' v v' → K (a.put o.dst v') w') : wpOp P ops Q i K a w := by
  have hw : Region.wanted o (yields ops s) = Region.wanted o (yielded ops a.tmps) := by
    congr 1; funext j; exact yields_eq hs ops j
  unfold wpOp
  simp only [hi]
  unfold evVal at hr
  rw [hw] at hr
  by_cases hwt : Region.wanted o (yielded ops a.tmps) = true
  · rw [if_pos hwt] at hr ⊢
    obtain ⟨r, h2, n2, L1, L2, e1, e2, rfl⟩ := bind_some hr
    have A := Loc.evOp P (ev s) o h n r h2 n2 L1 e1
    have hn2 : n2 ≤ n1 := by
      cases r with
      | val u => obtain ⟨_, _, e⟩ := ret_some e2; omega
      | call f args => exact (hrl f args _ _ _ _ _ _ e2).le
    obtain ⟨m', w', R, hrun, hpost, hnr⟩ := hop (ev s) a.eval o h n r h2 n2 L1 m w e1 (fun y hy => ev_at g hs (by
      unfold okOper at hok
      rw [Array.all_eq_true_iff_forall_mem] at hok
      exact hok y hy)) x hb (hf.first hn2)
    left
    unfold Oper.wp
    rw [hrun]
    cases hnr with
    | val hv =>
      obtain ⟨rfl, rfl, rfl⟩ := ret_some e2
      exact hK m' w' _ hpost hv
    | skip =>
      obtain ⟨rfl, rfl, rfl⟩ := ret_some e2
      exact hK m' w' _ hpost VR.undef
    | call hargs =>
      rename_i f args args'
      refine (hrec f args h2 n2 v h1 n1 L2 m' w' args' e2 hpost.wr (Below.le hpost.below hb) hargs (hf.after A.le hpost) (g.mono hpost.le)).mono ?_
      rintro e w'' ⟨m'', v', rfl, hp2, hv⟩
      exact hK m'' w'' v' (hpost.trans A.le hn2 hp2) hv
  · have hwf : Region.wanted o (yielded ops a.tmps) = false := by simpa using hwt
    rw [if_neg hwt] at hr ⊢
    obtain ⟨rfl, rfl, rfl⟩ := ret_some hr
    exact hK m w undef (Post.refl x) VR.undef

theorem all_congr {α : Type} {l : Array α} {f g : α → Bool} (h : ∀ x ∈ l, f x = g x) : l.all f = l.all g := by
  rw [Bool.eq_iff_iff, Array.all_eq_true_iff_forall_mem, Array.all_eq_true_iff_forall_mem]
  exact ⟨fun a x hx => by rw [← h x hx]; exact a x hx, fun a x hx => by rw [h x hx]; exact a x hx⟩
theorem evOp_congr {ρ ρ' : Operand → Value} (o : Oper) (h : ∀ x ∈ o.op.operands, ρ x = ρ' x) : evOp P ρ o = evOp P ρ' o := by
  by_cases hs : ∃ cs b, o.op = .select cs b
  · obtain ⟨cs, b, hs⟩ := hs
    unfold evOp
    rw [hs]
  have hex : execOp ρ o = execOp ρ' o := execOp_congr o (fun cs b hh => hs ⟨cs, b, hh⟩) h
  have hpl : evPlain P ρ o = evPlain P ρ' o := by
    unfold evPlain
    rw [hex, all_congr fun x hx => by rw [h x hx]]
  have pairs : ∀ ps : Array (Nat × Operand), (∀ x ∈ (ps.toList.map (·.2)).toArray, ρ x = ρ' x) → (ps.toList.map fun (i, x) => (i, ρ x)) = (ps.toList.map fun (i, x) => (i, ρ' x)) := fun ps hp =>
    List.map_congr_left fun p hm => by
      obtain ⟨i, x⟩ := p
      simp only [hp x (by simpa using ⟨i, by simpa using hm⟩)]
  unfold evOp
  cases hop : o.op <;> rw [hop] at h <;> simp only [Op.operands] at h <;> simp only
  case build t ps => rw [pairs ps h]
  case buildSlice t n ps => rw [pairs ps h]
  case makeFunc fn first captured =>
    rw [Array.map_congr_left (xs := first) fun x hx => h x (by simp [hx]), Array.map_congr_left (xs := captured) fun x hx => h x (by simp [hx])]
  case call c =>
    have hargs : c.args.map ρ = c.args.map ρ' := Array.map_congr_left fun x hx => h x (by simp [Call.operands, hx])
    rw [hargs]
    unfold evCallOp
    cases hc : c.callee with
    | value f => have hf : ρ f = ρ' f := h f (by simp [Call.operands, hc]); simp only [hf]
    | invoke r m => rfl
    | builtin b => cases b <;> simp only [hpl]
  case slice t x lo hi mx =>
    rw [hpl, h x (by simp)]
    cases lo <;> cases hi <;> cases mx <;> simp_all
  all_goals (first | rfl | (simp_all; done) | (rw [hpl]; simp_all; done))
theorem ev_congr {s s' : S} {y : Operand} (h : ∀ t, y = .tmp t → s.get t = s'.get t) : ev s y = ev s' y := by
  cases y with
  | tmp t => exact h t rfl
  | _ => rfl
theorem evVal_congr {o : Oper} {s s' : S} (h : ∀ t ∈ o.looksAt ops, s.get t = s'.get t) : evVal P rec ops o s = evVal P rec ops o s' := by
  have h1 : evOp P (ev s) o = evOp P (ev s') o := evOp_congr o fun x hx => ev_congr fun t ht => h t (by
    unfold Oper.looksAt
    exact List.mem_append_left _ (List.mem_filterMap.2 ⟨x, by simpa using hx, by rw [ht]⟩))
  have h2 : Region.wanted o (yields ops s) = Region.wanted o (yields ops s') := by
    unfold Region.wanted
    cases hg : o.guard with
    | none => rfl
    | some gw =>
      obtain ⟨g, want⟩ := gw
      have : yields ops s g = yields ops s' g := by
        unfold yields
        cases ht : (ops[g]?).bind (·.dst) with
        | none => rfl
        | some t => simp only [h t (by unfold Oper.looksAt; exact List.mem_append_right _ (by simp [hg, ht]))]
      simp only [this]
  unfold evVal
  rw [h1, h2]
end

/-! ### the run in one order, laid out -/
structure Chain (P : Program) (rec : FuncId → Array Value → M Value) (nt : Nat) (ops : Array Oper) (l : List Oper) (s : Nat → S) (h : Nat → H) (n : Nat → Nat) (v : Nat → Value) (L : Nat → List En) : Prop where
  step : ∀ i o, l[i]? = some o → inside (evVal P rec ops o (s i)) (h i) (n i) = some ⟨v i, h (i + 1), n (i + 1), L i⟩
  put : ∀ i o, l[i]? = some o → putS nt (s i) o.dst (v i) = some (s (i + 1))
theorem evOpers_chain {P : Program} {rec : FuncId → Array Value → M Value} {nt : Nat} {ops : Array Oper} : ∀ (l : List Oper) (s0 : S) (h0 : H) (n0 : Nat) (y : S × List Tk) (h1 : H) (n1 : Nat) (L0 : List En),
    evOpers P rec nt ops l s0 h0 n0 = some ⟨y, h1, n1, L0⟩ → ∃ s h n v L, Chain P rec nt ops l s h n v L ∧ s 0 = s0 ∧ h 0 = h0 ∧ n 0 = n0 ∧ s l.length = y.1 ∧ h l.length = h1 ∧ n l.length = n1 ∧ y.2.length = l.length ∧ ∀ i, i < l.length → y.2[i]? = some ⟨n i, n (i + 1), L i⟩ := by
  intro l
  induction l with
  | nil =>
    intro s0 h0 n0 y h1 n1 L0 hr
    obtain ⟨rfl, rfl, rfl⟩ := ret_some hr
    exact ⟨fun _ => s0, fun _ => h1, fun _ => n1, fun _ => undef, fun _ => [], ⟨fun i o h => by simp at h, fun i o h => by simp at h⟩, rfl, rfl, rfl, rfl, rfl, rfl, rfl, fun i hi => by simp at hi⟩
  | cons o r ih =>
    intro s0 h0 n0 y h1 n1 L0 hr
    obtain ⟨x, h2, n2, L1, L2, e1, e2, _⟩ := bind_some (m := timed (inside (evVal P rec ops o s0))) hr
    unfold timed at e1
    split at e1
    · rename_i v0 h2' n2' Li ei
      simp only [Option.some.injEq, Out.mk.injEq] at e1
      obtain ⟨rfl, rfl, rfl, rfl⟩ := e1
      obtain ⟨s1, h3, n3, L3, L4, e3, e4, _⟩ := bind_some (m := M.lift _) e2
      obtain ⟨hput, rfl, rfl⟩ := lift_some e3
      obtain ⟨y2, h4, n4, L5, L6, e5, e6, _⟩ := bind_some (m := evOpers P rec nt ops r s1) e4
      obtain ⟨rfl, rfl, rfl⟩ := ret_some e6
      obtain ⟨s, h, n, v, L, C, a1, a2, a3, a4, a5, a6, a7, a8⟩ := ih _ _ _ _ _ _ _ e5
      refine ⟨fun i => if i = 0 then s0 else s (i - 1), fun i => if i = 0 then h0 else h (i - 1), fun i => if i = 0 then n0 else n (i - 1), fun i => if i = 0 then v0 else v (i - 1), fun i => if i = 0 then Li else L (i - 1), ⟨fun i o' ho => ?_, fun i o' ho => ?_⟩, rfl, rfl, rfl, by simpa using a4, by simpa using a5, by simpa using a6, by simp [a7], fun i hi => ?_⟩
      · cases i with
        | zero => simp at ho; subst ho; simpa [a2, a3] using ei
        | succ i => simpa using C.step i o' (by simpa using ho)
      · cases i with
        | zero => simp at ho; subst ho; simpa [a1] using hput
        | succ i => simpa using C.put i o' (by simpa using ho)
      · cases i with
        | zero => simp [a3]
        | succ i => simpa using a8 i (by simpa using hi)
    · cases e1
theorem inside_some {α : Type} {m : M α} {h h1 : H} {n n1 : Nat} {a : α} {L : List En} (hr : inside m h n = some ⟨a, h1, n1, L⟩) : ∃ L', m h n = some ⟨a, h1, n1, L'⟩ := by
  unfold inside at hr
  split at hr
  · rename_i a' h1' n1' L' e
    simp only [Option.some.injEq, Out.mk.injEq] at hr
    obtain ⟨rfl, rfl, rfl, _⟩ := hr
    exact ⟨L', e⟩
  · cases hr

section
variable {P : Program} {base : Nat} {rec : FuncId → Array Value → M Value} {nt : Nat} {ops : Array Oper} {Q : Exit → Act → World → Prop}
/-- in the text's order -/
theorem chain_sim (hop : OpSim P base) (hrec : CallSim P base rec) (hrl : ∀ f a, Loc (rec f a)) (hok : ∀ o ∈ ops, okOper P o = true) {s : Nat → S} {h : Nat → H} {n : Nat → Nat} {v : Nat → Value} {L : Nat → List En}
    (C : Chain P rec nt ops ops.toList s h n v L) {m0 : Mp} {w0 : World} (hf : Fresh m0 (n 0) (n ops.size)) (hmono : ∀ i, i < ops.size → n i ≤ n (i + 1)) (hb : base ≤ w0.heap.size) (g : Gl P m0) (R : Act → World → Prop)
    (hR : ∀ m' a' w', Post P m0 base (n 0) (n ops.size) w0 (h ops.size) m' w' → SR m' nt (s ops.size) a' → Q .normal a' w') :
    ∀ (k i : Nat), i + k = ops.size → ∀ (m : Mp) (a : Act) (w : World), Post P m0 base (n 0) (n i) w0 (h i) m w → SR m nt (s i) a → wpOps P ops Q (List.range' i k) a w := by
  have hm2 : ∀ i j, i ≤ j → j ≤ ops.size → n i ≤ n j := by
    intro i j hij
    induction hij with
    | refl => intro _; exact Nat.le_refl _
    | step hij ih => intro hj; exact Nat.le_trans (ih (by omega)) (hmono _ (by omega))
  intro k
  induction k with
  | zero =>
    intro i hik m a w hp hs
    have : i = ops.size := by omega
    subst this
    exact hR m a w hp hs
  | succ k ih =>
    intro i hik m a w hp hs
    have hi : i < ops.size := by omega
    rw [List.range'_succ, wpOps_cons]
    have hoi : ops[i]? = some ops[i] := by simp [hi]
    obtain ⟨L', hv⟩ := inside_some (C.step i ops[i] (by simp [hi]))
    have hput := C.put i ops[i] (by simp [hi])
    refine evVal_sim (nt := nt) hop hrec hrl hoi (hok _ (by simp)) hp.wr (Below.le hp.below hb) (g.mono hp.le) hs hv (fun b h1 h2 => ?_) fun m' w' v' hp2 hv' => ?_
    · have q1 := hm2 0 i (by omega) (by omega)
      have q2 := hm2 (i + 1) ops.size (by omega) (by omega)
      rw [hp.out b (by omega)]
      exact hf b (by omega) (by omega)
    · exact ih (i + 1) (by omega) m' _ w' (hp.trans (hm2 0 i (by omega) (by omega)) (hmono i hi) hp2) (putS_at (hs.mono hp2.le) hv' hput)
end

end Go.Proofs.YtmjolmggelkjlaaGreat.Ev

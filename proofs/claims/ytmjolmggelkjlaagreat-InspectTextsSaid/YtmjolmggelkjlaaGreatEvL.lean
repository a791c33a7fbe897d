/- The second form's operations yield what the first one's do. No program in sight. -/
import Derived.Test.YtmjolmggelkjlaaGreatEvK
namespace Go.Proofs.YtmjolmggelkjlaaGreat.Ev
set_option linter.unusedVariables false
set_option linter.unusedSimpArgs false
open Go

def Does {α : Type} (m : Nat → M α) (h : H) (n : Nat) (a : α) (h1 : H) (n1 : Nat) (L : List En) : Prop := ∃ f0, ∀ fuel, f0 ≤ fuel → m fuel h n = some ⟨a, h1, n1, L⟩
theorem Does.of {α : Type} {m : M α} {h h1 : H} {n n1 : Nat} {a : α} {L : List En} (e : m h n = some ⟨a, h1, n1, L⟩) : Does (fun _ => m) h n a h1 n1 L := ⟨0, fun _ _ => e⟩
theorem bind_run {α β : Type} {m : M α} {f : α → M β} {h h1 h2 : H} {n n1 n2 : Nat} {a : α} {b : β} {L1 L2 : List En} (e1 : m h n = some ⟨a, h1, n1, L1⟩) (e2 : f a h1 n1 = some ⟨b, h2, n2, L2⟩) : (m.bind f) h n = some ⟨b, h2, n2, L1 ++ L2⟩ := by
  unfold M.bind
  rw [e1]
  simp only
  rw [e2]
theorem Does.bind {α β : Type} {m : Nat → M α} {f : Nat → α → M β} {h h1 h2 : H} {n n1 n2 : Nat} {a : α} {b : β} {L1 L2 : List En} (x : Does m h n a h1 n1 L1) (y : Does (fun fuel => f fuel a) h1 n1 b h2 n2 L2) :
    Does (fun fuel => (m fuel).bind (f fuel)) h n b h2 n2 (L1 ++ L2) := by
  obtain ⟨f0, x⟩ := x
  obtain ⟨f1, y⟩ := y
  exact ⟨max f0 f1, fun fuel hf => bind_run (x fuel (by omega)) (y fuel (by omega))⟩
theorem Does.map {α : Type} {m m' : Nat → M α} {h h1 : H} {n n1 : Nat} {a : α} {L : List En} (x : Does m h n a h1 n1 L) (e : ∀ fuel, m' fuel = m fuel) : Does m' h n a h1 n1 L := by
  obtain ⟨f0, x⟩ := x
  exact ⟨f0, fun fuel hf => by rw [e]; exact x fuel hf⟩
theorem inside_run {α : Type} {m : M α} {h h1 : H} {n n1 : Nat} {a : α} {L : List En} (e : m h n = some ⟨a, h1, n1, L⟩) : inside m h n = some ⟨a, h1, n1, L.filter fun e => !(n ≤ e.b && e.b < n1)⟩ := by
  unfold inside
  rw [e]
theorem Does.inside {α : Type} {m : Nat → M α} {h h1 : H} {n n1 : Nat} {a : α} {L : List En} (x : Does m h n a h1 n1 L) : Does (fun fuel => Ev.inside (m fuel)) h n a h1 n1 (L.filter fun e => !(n ≤ e.b && e.b < n1)) := by
  obtain ⟨f0, x⟩ := x
  exact ⟨f0, fun fuel hf => inside_run (x fuel hf)⟩
theorem inside_inv {α : Type} {m : M α} {h h1 : H} {n n1 : Nat} {a : α} {L : List En} (hr : Ev.inside m h n = some ⟨a, h1, n1, L⟩) : ∃ L', m h n = some ⟨a, h1, n1, L'⟩ ∧ L = L'.filter fun e => !(n ≤ e.b && e.b < n1) := by
  unfold Ev.inside at hr
  split at hr
  · rename_i a' h' n' L' e
    simp only [Option.some.injEq, Out.mk.injEq] at hr
    obtain ⟨rfl, rfl, rfl, rfl⟩ := hr
    exact ⟨L', e, rfl⟩
  · cases hr

def Sub (s : Fr) (s1 : S) : Prop := ∀ t v, s.at_ t = some v → s1.get t = v
theorem Sub.evo {s : Fr} {s1 : S} (hs : Sub s s1) {x : Operand} {v : Value} (h : Ev.evo s x = some v) : ev s1 x = v := by
  cases x with
  | tmp t => exact hs t v h
  | const u => cases h; rfl
  | global g => cases h; rfl
  | func f => cases h; rfl
theorem optK_some {α β : Type} {o : Option α} {k : α → M β} {h : H} {n : Nat} {r : Out β} (hr : optK o k h n = some r) : ∃ v, o = some v ∧ k v h n = some r := by
  cases o with
  | none => cases hr
  | some v => exact ⟨v, rfl, hr⟩
theorem evosK_some {β : Type} {s : Fr} {s1 : S} (hs : Sub s s1) : ∀ {l : List Operand} {k : List Value → M β} {h : H} {n : Nat} {r : Out β}, evosK s l k h n = some r → ∃ vs, vs = l.map (ev s1) ∧ k vs h n = some r
  | [], k, h, n, r, hr => ⟨[], rfl, hr⟩
  | x :: l, k, h, n, r, hr => by
    unfold evosK at hr
    obtain ⟨v, hv, hr⟩ := optK_some hr
    obtain ⟨vs, e, hr⟩ := evosK_some hs hr
    exact ⟨v :: vs, by rw [List.map_cons, hs.evo hv, e], hr⟩
theorem evoK_some {β : Type} {s : Fr} {s1 : S} (hs : Sub s s1) {x : Option Operand} {k : Option Value → M β} {h : H} {n : Nat} {r : Out β} (hr : evoK s x k h n = some r) : k (x.map (ev s1)) h n = some r := by
  cases x with
  | none => exact hr
  | some x =>
    obtain ⟨v, hv, hr⟩ := optK_some hr
    simp only [Option.map_some, hs.evo hv]
    exact hr

def cont (P : Program) (kn : List FuncId) (fuel : Nat) : Nx → M Value
  | .val v => .ret v
  | .call f args => evCall P kn fuel f args
theorem bindV_eq {m : M Value} {P : Program} {kn : List FuncId} {fuel : Nat} : (m.bind fun v => .ret (.val v)).bind (cont P kn fuel) = m := by
  funext h n
  unfold M.bind
  cases m h n with
  | none => rfl
  | some o => simp [M.ret, cont]
theorem ret_val {v : Value} {P : Program} {kn : List FuncId} {fuel : Nat} : (M.ret (Nx.val v)).bind (cont P kn fuel) = M.ret v := by
  funext h n
  simp [M.bind, M.ret, cont]
theorem ret_call {f : FuncId} {args : Array Value} {P : Program} {kn : List FuncId} {fuel : Nat} : (M.ret (Nx.call f args)).bind (cont P kn fuel) = evCall P kn fuel f args := by
  funext h n
  simp only [M.bind, M.ret, cont]
  cases evCall P kn fuel f args h n with
  | none => rfl
  | some o => simp
theorem lift_some_eq {α : Type} (a : α) : M.lift (some a) = M.ret a := rfl
theorem bind_ret {α β : Type} (a : α) (f : α → M β) : (M.ret a).bind f = f a := by
  funext h n
  simp only [M.bind, M.ret]
  cases f a h n with
  | none => rfl
  | some o => simp

def Conc (E : Nat → M Value) {β : Type} (k : Value → M β) (h : H) (n : Nat) (r : Out β) : Prop :=
  ∃ v h1 n1 L1 L2, Does (fun fuel => inside (E fuel)) h n v h1 n1 L1 ∧ k v h1 n1 = some ⟨r.val, r.h, r.n, L2⟩ ∧ r.log = L1 ++ L2
section
variable {β : Type} {E : Nat → M Value} {k : Value → M β} {h : H} {n : Nat} {r : Out β}
theorem mem_case {m : M Value} (hr : ((inside m).bind k) h n = some r) (hm : ∀ fuel, E fuel = m) : Conc E k h n r := by
  obtain ⟨c, h2, n2, L⟩ := r
  obtain ⟨v, h1, n1, L1, L2, e1, e2, e3⟩ := bind_some hr
  exact ⟨v, h1, n1, L1, L2, ⟨0, fun fuel _ => by show Ev.inside (E fuel) h n = _; rw [hm]; exact e1⟩, e2, e3⟩
theorem pure_case {v : Value} (hr : k v h n = some r) (hm : ∀ fuel, E fuel = M.ret v) : Conc E k h n r := by
  obtain ⟨c, h2, n2, L⟩ := r
  exact ⟨v, h, n, [], L, ⟨0, fun fuel _ => by show Ev.inside (E fuel) h n = _; rw [hm]; rfl⟩, hr, rfl⟩
theorem call_case {P : Program} {kn : List FuncId} {rec : FuncId → Array Value → M Value} (hrec : ∀ f args h n v h1 n1 L, rec f args h n = some ⟨v, h1, n1, L⟩ → Does (fun fuel => evCall P kn fuel f args) h n v h1 n1 L) {g : FuncId} {args : Array Value}
    (hr : ((inside (rec g args)).bind k) h n = some r) (hm : ∀ fuel, E fuel = evCall P kn fuel g args) : Conc E k h n r := by
  obtain ⟨c, h2, n2, L⟩ := r
  obtain ⟨v, h1, n1, L1, L2, e1, e2, e3⟩ := bind_some hr
  obtain ⟨L', e4, rfl⟩ := inside_inv e1
  exact ⟨v, h1, n1, _, L2, ((hrec _ _ _ _ _ _ _ _ e4).map hm).inside, e2, e3⟩
end

theorem plainS_some {P : Program} {ok : Bool} {s : Sem Value} {v : Value} (h : plainS P ok s = some v) : ok = true ∧ pureRun P (do pure (.value (← s))) = some v ∧ scalar v = true := by
  unfold plainS at h
  cases ok with
  | false => cases h
  | true =>
    simp only at h
    split at h
    · rename_i u hu
      split at h
      · rename_i hs
        cases h
        exact ⟨rfl, hu, hs⟩
      · cases h
    · cases h
theorem evPlain_run {P : Program} {ρ : Operand → Value} {o : Oper} {v : Value} (h1 : (o.op.operands.all fun x => scalar (ρ x)) = true) (h2 : pureRun P (execOp ρ o) = some v) (h3 : scalar v = true) : evPlain P ρ o = M.ret (.val v) := by
  unfold evPlain
  rw [if_pos h1, h2, lift_some_eq, bind_ret, if_pos h3]
theorem nilEq_none {P : Program} {t : TypeId} (h : isNilT P t = false) (x y : Value) : anyEq P t x y = none := by
  unfold isNilT at h
  unfold anyEq stKinds
  generalize P.underlying t = d at h
  cases d with
  | none => rfl
  | some d => cases d <;> first | (cases h; done) | rfl | (unfold nilEq; rfl)
theorem guard_pure {op : BinOp} {t : TypeId} {x y : Operand} {a b : Value} (ha : scalar a = true) (hb : scalar b = true) : eqGuard op t x y a b = pure () := by
  cases a <;> first | (simp [scalar] at ha; done) | skip
  all_goals cases b <;> first | (simp [scalar] at hb; done) | skip
  all_goals cases op <;> rfl
theorem bin_case {P : Program} {s1 : S} {op : BinOp} {t yt : TypeId} {x y : Operand} {v : Value} {dst : Option Tmp} {ty : TypeId} {pos : String} {after : Array Edge} {guard : Option (Nat × Bool)}
    (h : bin2 P op t (ev s1 x) (ev s1 y) = some v) : evOp P (ev s1) ⟨dst, .binOp op t x y yt, ty, pos, after, guard⟩ = M.ret (.val v) := by
  unfold bin2 at h
  split at h
  · unfold binN at h
    unfold evOp
    simp only
    split at h
    · rename_i q
      cases h
      rw [q]
    · rename_i q
      cases h
      rw [q]
    · cases h
  · rename_i hn
    unfold binP at h
    obtain ⟨h1, h2, h3⟩ := plainS_some h
    unfold evOp
    simp only [nilEq_none hn]
    simp only [Bool.and_eq_true] at h1
    refine evPlain_run (by simp [Op.operands, h1.1, h1.2]) ?_ h3
    rw [← h2]
    simp only [execOp, guard_pure h1.1 h1.2]
    rfl
theorem toBy_none {a b : Option TypeDesc} {v : Value} (h : toBy2? a b = none) : toBy? a b v = none := by
  unfold toBy2? at h
  unfold toBy?
  split at h
  · cases h
  · rename_i hn
    split
    · rename_i e s
      exact (hn _ rfl rfl).elim
    · rfl

end Go.Proofs.YtmjolmggelkjlaaGreat.Ev

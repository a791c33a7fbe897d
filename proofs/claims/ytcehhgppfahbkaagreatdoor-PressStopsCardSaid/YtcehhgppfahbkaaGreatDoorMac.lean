import Derived.Test.YtcehhgppfahbkaaGreatDoorMab
import Derived.ProofKit
import Derived.OpenShut
import Derived.Lib.Strings
import Derived.WideShapes
import Derived.WalkLawsBesides
namespace Go.Proofs.YtcehhgppfahbkaaGreatDoor.Ev
set_option linter.unusedVariables false
set_option linter.unusedSimpArgs false
open Go

theorem Sub.nil (s1 : S) : Sub [] s1 := fun t v h => by cases h
theorem at_cons (d : Nat) (v : Value) (s : Fr) (t : Nat) : Fr.at_ ((d, v) :: s) t = if d = t then some v else s.at_ t := by
  show (match Nat.beq d t with | true => some v | false => s.at_ t) = _
  by_cases e : d = t
  · subst e
    rw [Nat.beq_refl, if_pos rfl]
  · have : Nat.beq d t = false := Bool.eq_false_iff.2 fun q => e (Nat.eq_of_beq_eq_true q)
    rw [this, if_neg e]
theorem Sub.cons {s : Fr} {s1 : S} (hs : Sub s s1) {d : Nat} {v : Value} (h : s1.get d = v) : Sub ((d, v) :: s) s1 := fun t u hu => by
  rw [at_cons] at hu
  by_cases e : d = t
  · rw [if_pos e] at hu; cases hu; rw [← e]; exact h
  · rw [if_neg e] at hu; exact hs t u hu
theorem Sub.put {s : Fr} {s1 : S} (hs : Sub s s1) {nt : Nat} {dst : Option Tmp} (hd : ∀ d, dst = some d → d < nt ∧ d < 1023) (v : Value) : ∃ s2, putS nt s1 dst v = some s2 ∧ Sub (putF s dst v) s2 := by
  cases dst with
  | none => exact ⟨s1, rfl, hs⟩
  | some d =>
    obtain ⟨h1, h2⟩ := hd d rfl
    refine ⟨s1.put d v, by unfold putS; simp [h1, h2], fun t u hu => ?_⟩
    rw [S.get_put _ _ _ _ h2]
    have hu : Fr.at_ ((d, v) :: s) t = some u := hu
    rw [at_cons] at hu
    by_cases e : d = t
    · rw [if_pos e] at hu; rw [if_pos e.symm]; cases hu; rfl
    · rw [if_neg e] at hu; rw [if_neg (fun q => e q.symm)]; exact hs t u hu
theorem keep_at (s : Fr) : ∀ (G : List Nat) (t : Nat) (v : Value), (s.keep G).at_ t = some v → s.at_ t = some v
  | [], t, v, h => by cases h
  | g :: G, t, v, h => by
    unfold Fr.keep at h
    split at h
    · rename_i u hu
      rw [at_cons] at h
      by_cases e : g = t
      · rw [if_pos e] at h; cases h; rw [← e]; exact hu
      · rw [if_neg e] at h; exact keep_at s G t v h
    · exact keep_at s G t v h
theorem Sub.keep {s : Fr} {s1 : S} (hs : Sub s s1) (G : List Nat) : Sub (s.keep G) s1 := fun t v h => hs t v (keep_at s G t v h)
theorem Sub.out {s : Fr} {s1 : S} (hs : Sub s s1) (G : Hint) (id : Nat) : Sub (G.out id s) s1 := by
  unfold Hint.out
  split
  · exact hs.keep _
  · exact hs

section
variable {P : Program} {kn : List FuncId} {rec : FuncId → Array Value → M Value} (hrec : ∀ f args h n v h1 n1 L, rec f args h n = some ⟨v, h1, n1, L⟩ → Does (fun fuel => evCall P kn fuel f args) h n v h1 n1 L)
set_option linter.unusedSectionVars false
include hrec

theorem val_step {ops : Array Oper} {o : Oper} {s : Fr} {s1 : S} {β : Type} {k : Value → M β} {h : H} {n : Nat} {r : Out β} (hw : Region.wanted o (yields ops s1) = true) (hs : Sub s s1) (hr : opQ P rec s o k h n = some r) :
    ∃ v h1 n1 L1 L2, Does (fun fuel => inside (evVal P (evCall P kn fuel) ops o s1)) h n v h1 n1 L1 ∧ k v h1 n1 = some ⟨r.val, r.h, r.n, L2⟩ ∧ r.log = L1 ++ L2 := by
  obtain ⟨v, h1, n1, L1, L2, e1, e2, e3⟩ := op2_ok hrec hs (opQ_sub hr)
  refine ⟨v, h1, n1, L1, L2, e1.map fun fuel => ?_, e2, e3⟩
  rw [evVal_wanted hw]
  rfl
theorem idle_step {ops : Array Oper} {o : Oper} {s1 : S} {h : H} {n : Nat} (hw : Region.wanted o (yields ops s1) = false) : Does (fun fuel => inside (evVal P (evCall P kn fuel) ops o s1)) h n undef h n [] := by
  refine ⟨0, fun fuel _ => ?_⟩
  show inside (evVal P (evCall P kn fuel) ops o s1) h n = _
  unfold evVal
  rw [if_neg (by rw [hw]; exact Bool.false_ne_true)]
  rfl
theorem ifV_some {β : Type} {v : Value} {x y : M β} {h : H} {n : Nat} {r : Out β} (hr : ifV v x y h n = some r) : (v = .bool true ∧ x h n = some r) ∨ (v = .bool false ∧ y h n = some r) := by
  unfold ifV at hr
  split at hr
  · exact .inl ⟨rfl, hr⟩
  · exact .inr ⟨rfl, hr⟩
  · cases hr
theorem opers_step {nt : Nat} {ops : Array Oper} {o : Oper} {l : List Oper} {s1 s2 : S} {h h1 h2 : H} {n n1 n2 : Nat} {v : Value} {L1 L2 : List En} {y : S × List Tk} (e1 : Does (fun fuel => inside (evVal P (evCall P kn fuel) ops o s1)) h n v h1 n1 L1)
    (hp : putS nt s1 o.dst v = some s2) (e2 : Does (fun fuel => evOpers P (evCall P kn fuel) nt ops l s2) h1 n1 y h2 n2 L2) : Does (fun fuel => evOpers P (evCall P kn fuel) nt ops (o :: l) s1) h n (y.1, ⟨n, n1, L1⟩ :: y.2) h2 n2 (L1 ++ L2) := by
  obtain ⟨f0, e1⟩ := e1
  obtain ⟨f1, e2⟩ := e2
  refine ⟨max f0 f1, fun fuel hf => ?_⟩
  have g1 := timed_run (e1 fuel (by omega))
  have g2 := e2 fuel (by omega)
  show evOpers P (evCall P kn fuel) nt ops (o :: l) s1 h n = _
  unfold evOpers
  refine bind_run g1 ?_
  simp only [hp, lift_some_eq, bind_ret]
  have := bind_run (f := fun y : S × List Tk => M.ret (y.1, (⟨n, n1, L1⟩ : Tk) :: y.2)) g2 (h2 := h2) (n2 := n2) (L2 := []) (b := (y.1, (⟨n, n1, L1⟩ : Tk) :: y.2)) rfl
  rw [List.append_nil] at this
  exact this

theorem hasI_mem {j : Nat} : ∀ {l : List Nat}, hasI j l = true → j ∈ l
  | [], h => by cases h
  | i :: r, h => by
    unfold hasI at h
    cases hb : Nat.beq i j with
    | true => rw [Nat.eq_of_beq_eq_true hb]; simp
    | false => rw [hb] at h; exact List.mem_cons_of_mem _ (hasI_mem h)
def Idle (ops : Array Oper) (s1 : S) (idl : List Nat) : Prop := ∀ j ∈ idl, yields ops s1 j = none
theorem Idle.put {ops : Array Oper} {s1 s2 : S} {nt : Nat} {dst : Option Tmp} {v : Value} : ∀ {idl : List Nat}, Idle ops s1 idl → putS nt s1 dst v = some s2 → Idle ops s2 (dropI ops dst idl)
  | [], _, _ => fun j hj => by cases hj
  | i :: r, h, hp => by
    have hr : Idle ops s2 (dropI ops dst r) := Idle.put (fun j hj => h j (List.mem_cons_of_mem _ hj)) hp
    have hi := h i (by simp)
    have get : ∀ t, dst ≠ some t → s2.get t = s1.get t := by
      intro t ht
      cases dst with
      | none => simp only [putS, Option.some.injEq] at hp; rw [hp]
      | some d =>
        unfold putS at hp
        simp only at hp
        split at hp
        · rename_i hd
          simp only [Bool.and_eq_true, decide_eq_true_eq] at hd
          cases hp
          rw [S.get_put _ _ _ _ hd.2, if_neg (fun e => ht (by rw [e]))]
        · cases hp
    have keep : (∀ t, (ops[i]?).bind (·.dst) = some t → dst ≠ some t) → Idle ops s2 (i :: dropI ops dst r) := by
      intro hk j hj
      rcases List.mem_cons.1 hj with rfl | hj
      · unfold yields at hi ⊢
        cases ht : (ops[j]?).bind (·.dst) with
        | none => rfl
        | some t =>
          rw [ht] at hi
          simp only at hi ⊢
          rw [get t (hk t ht)]
          exact hi
      · exact hr j hj
    unfold dropI
    cases ht : (ops[i]?).bind (·.dst) with
    | none => exact keep fun t h => by rw [ht] at h; cases h
    | some t =>
      cases dst with
      | none => exact keep fun t h e => by cases e
      | some d =>
        simp only
        cases hb : Nat.beq t d with
        | true => exact hr
        | false =>
          refine keep fun t' h => ?_
          rw [ht] at h
          cases h
          rintro ⟨⟩
          rw [Nat.beq_refl] at hb
          cases hb
theorem Idle.add {ops : Array Oper} {s1 s2 : S} {nt : Nat} {o : Oper} {i : Nat} (hi : ops[i]? = some o) {idl : List Nat} (h : Idle ops s2 idl) (hp : putS nt s1 o.dst undef = some s2) : Idle ops s2 (i :: idl) := by
  intro j hj
  rcases List.mem_cons.1 hj with rfl | hj
  · unfold yields
    rw [hi]
    simp only [Option.bind_some]
    cases hd : o.dst with
    | none => rfl
    | some d =>
      rw [hd] at hp
      unfold putS at hp
      simp only at hp
      split at hp
      · rename_i hdd
        simp only [Bool.and_eq_true, decide_eq_true_eq] at hdd
        cases hp
        simp only
        rw [S.get_put _ _ _ _ hdd.2, if_pos rfl]
        rfl
      · cases hp
  · exact h j hj

theorem opsK_ok {β : Type} {nt : Nat} {ops : Array Oper} : ∀ (l : List Oper) (_ : ∀ o ∈ l, ∀ d, o.dst = some d → d < nt ∧ d < 1023) (i : Nat) (_ : ∀ q o, l[q]? = some o → ops[i + q]? = some o) (idl : List Nat) (s : Fr) (s1 : S) (_ : Idle ops s1 idl) (k : Fr → M β) (h : H) (n : Nat) (r : Out β), Sub s s1 → opsK P rec ops l i idl s k h n = some r →
    ∃ s' y h1 n1 L1 L2, Does (fun fuel => evOpers P (evCall P kn fuel) nt ops l s1) h n y h1 n1 L1 ∧ Sub s' y.1 ∧ k s' h1 n1 = some ⟨r.val, r.h, r.n, L2⟩ ∧ r.log = L1 ++ L2 := by
  intro l
  induction l with
  | nil =>
    intro _ i _ idl s s1 _ k h n r hs hr
    exact ⟨s, (s1, []), h, n, [], r.log, Does.of rfl, hs, hr, rfl⟩
  | cons o l ih =>
    intro hd i hpos idl s s1 hidl k h n r hs hr
    have hd0 := hd o (by simp)
    have hdl : ∀ o ∈ l, ∀ d, o.dst = some d → d < nt ∧ d < 1023 := fun o' ho => hd o' (by simp [ho])
    have hio : ops[i]? = some o := by have := hpos 0 o rfl; rwa [Nat.add_zero] at this
    have hpl : ∀ q o', l[q]? = some o' → ops[i + 1 + q]? = some o' := fun q o' hq => by
      have := hpos (q + 1) o' (by simpa using hq)
      rwa [show i + 1 + q = i + (q + 1) by omega]
    have go : ∀ (s : Fr), Sub s s1 → Region.wanted o (yields ops s1) = true → opQ P rec s o (fun v => opsK P rec ops l (i + 1) (dropI ops o.dst idl) (putF s o.dst v) k) h n = some r →
        ∃ s' y h1 n1 L1 L2, Does (fun fuel => evOpers P (evCall P kn fuel) nt ops (o :: l) s1) h n y h1 n1 L1 ∧ Sub s' y.1 ∧ k s' h1 n1 = some ⟨r.val, r.h, r.n, L2⟩ ∧ r.log = L1 ++ L2 := by
      intro s hs hw hr
      obtain ⟨v, h1, n1, L1, L2, e1, e2, e3⟩ := val_step hrec hw hs hr
      obtain ⟨s2, hp, hs2⟩ := hs.put hd0 v
      obtain ⟨s', y, h3, n3, L3, L4, e4, e5, e6, e7⟩ := ih hdl _ hpl _ _ s2 (Idle.put hrec hidl hp) k h1 n1 _ hs2 e2
      exact ⟨s', _, h3, n3, _, L4, opers_step hrec e1 hp e4, e5, e6, by rw [e3]; simp only at e7; rw [e7, List.append_assoc]⟩
    have idle : ∀ (s : Fr), Sub s s1 → Region.wanted o (yields ops s1) = false → opsK P rec ops l (i + 1) (i :: dropI ops o.dst idl) (putF s o.dst undef) k h n = some r →
        ∃ s' y h1 n1 L1 L2, Does (fun fuel => evOpers P (evCall P kn fuel) nt ops (o :: l) s1) h n y h1 n1 L1 ∧ Sub s' y.1 ∧ k s' h1 n1 = some ⟨r.val, r.h, r.n, L2⟩ ∧ r.log = L1 ++ L2 := by
      intro s hs hw hr
      obtain ⟨s2, hp, hs2⟩ := hs.put hd0 undef
      obtain ⟨s', y, h3, n3, L3, L4, e4, e5, e6, e7⟩ := ih hdl _ hpl _ _ s2 (Idle.add hrec hio (Idle.put hrec hidl hp) hp) k h n _ hs2 hr
      exact ⟨s', _, h3, n3, _, L4, opers_step hrec (idle_step hrec hw) hp e4, e5, e6, e7⟩
    unfold opsK at hr
    cases hg : o.guard with
    | none =>
      rw [hg] at hr
      exact go s hs (by unfold Region.wanted; rw [hg]) hr
    | some jw =>
      obtain ⟨j, want⟩ := jw
      rw [hg] at hr
      simp only at hr
      cases hI : hasI j idl with
      | true =>
        rw [hI] at hr
        refine idle s hs ?_ hr
        unfold Region.wanted
        rw [hg]
        simp only
        rw [hidl j (hasI_mem hrec hI)]
        rfl
      | false =>
      rw [hI] at hr
      simp only at hr
      cases ht : (ops[j]?).bind (·.dst) with
      | none => rw [ht] at hr; cases hr
      | some t =>
        rw [ht] at hr
        simp only at hr
        obtain ⟨g, hgv, hr⟩ := optK_some hr
        have hget := hs t g hgv
        have hy : ∀ b, g = .bool b → yields ops s1 j = some b := fun b hb => by
          unfold yields
          rw [ht]
          simp only [hget, hb]
        rcases ifV_some hrec hr with ⟨hb, hr⟩ | ⟨hb, hr⟩
        · have hs' : Sub ((t, .bool true) :: s) s1 := hs.cons (by rw [hget, hb])
          cases want with
          | true => exact go _ hs' (by unfold Region.wanted; rw [hg]; simp only; rw [hy _ hb]; rfl) hr
          | false => exact idle _ hs' (by unfold Region.wanted; rw [hg]; simp only; rw [hy _ hb]; rfl) hr
        · have hs' : Sub ((t, .bool false) :: s) s1 := hs.cons (by rw [hget, hb])
          cases want with
          | true => exact idle _ hs' (by unfold Region.wanted; rw [hg]; simp only; rw [hy _ hb]; rfl) hr
          | false => exact go _ hs' (by unfold Region.wanted; rw [hg]; simp only; rw [hy _ hb]; rfl) hr
end

end Go.Proofs.YtcehhgppfahbkaaGreatDoor.Ev
namespace Go.Proofs.YtcehhgppfahbkaaGreatDoor.Ev
set_option linter.unusedVariables false
set_option linter.unusedSimpArgs false
open Go

theorem ret_run_inv {α : Type} {a c : α} {h h2 : H} {n n2 : Nat} {L : List En} (hr : (M.ret a) h n = some ⟨c, h2, n2, L⟩) : c = a ∧ h2 = h ∧ n2 = n ∧ L = [] := by
  simp only [M.ret, Option.some.injEq, Out.mk.injEq] at hr
  exact ⟨hr.1.symm, hr.2.1.symm, hr.2.2.1.symm, hr.2.2.2.symm⟩
def Match : List Oper → List Tk → List Tk → Prop
  | [], [], [] => True
  | o :: l, t' :: ts', t :: ts => (kind o.op = 0 ∨ t' = t) ∧ Match l ts' ts
  | _, _, _ => False
theorem Match.get : ∀ {l : List Oper} {ts' ts : List Tk}, Match l ts' ts → ∀ (i : Nat) (o : Oper) (t : Tk), l[i]? = some o → ts[i]? = some t → ∃ t', ts'[i]? = some t' ∧ (kind o.op = 0 ∨ t' = t)
  | [], [], [], _, i, o, t, h, _ => by simp at h
  | o :: l, t' :: ts', t :: ts, h, 0, o', u, h1, h2 => by
    simp at h1 h2; subst h1 h2
    exact ⟨t', rfl, h.1⟩
  | o :: l, t' :: ts', t :: ts, h, i + 1, o', u, h1, h2 => by
    simpa using Match.get h.2 i o' u (by simpa using h1) (by simpa using h2)
theorem dynAll_at {ops : Array Oper} {bef : List Nat} {j : Nat} {oj : Oper} {tj : Tk} : ∀ (l : List Oper) (ts : List Tk) (k : Nat), dynAll bef ops j oj tj k l ts = true → ∀ i o t, l[i]? = some o → ts[i]? = some t → dynPair bef ops j oj tj (k + i) o t = true := by
  intro l
  induction l with
  | nil => intro ts k _ i o t h; simp at h
  | cons o l ih =>
    intro ts k h i o' t' hi ht
    cases ts with
    | nil => simp at ht
    | cons t ts =>
      unfold dynAll at h
      simp only [Bool.and_eq_true] at h
      cases i with
      | zero => simp at hi ht; subst hi ht; exact h.1
      | succ i =>
        rw [show k + (i + 1) = k + 1 + i by omega]
        exact ih ts (k + 1) h.2 i o' t' (by simpa using hi) (by simpa using ht)
theorem dynPairs_at {ops : Array Oper} {bef : List Nat} : ∀ (l : List Oper) (ts : List Tk) (j : Nat), dynPairs bef ops j l ts = true → ∀ p q op oq tp tq, p < q → l[p]? = some op → l[q]? = some oq → ts[p]? = some tp → ts[q]? = some tq → dynPair bef ops (j + p) op tp (j + q) oq tq = true := by
  intro l
  induction l with
  | nil => intro ts j _ p q op oq tp tq _ h; simp at h
  | cons o l ih =>
    intro ts j h p q op oq tp tq hpq h1 h2 h3 h4
    cases ts with
    | nil => simp at h3
    | cons t ts =>
      unfold dynPairs at h
      simp only [Bool.and_eq_true] at h
      cases q with
      | zero => omega
      | succ q =>
        cases p with
        | zero =>
          simp at h1 h3; subst h1 h3
          have := dynAll_at l ts (j + 1) h.1 q oq tq (by simpa using h2) (by simpa using h4)
          rw [show j + (q + 1) = j + 1 + q by omega, Nat.add_zero]
          exact this
        | succ p =>
          have := ih ts (j + 1) h.2 p q op oq tp tq (by omega) (by simpa using h1) (by simpa using h2) (by simpa using h3) (by simpa using h4)
          rw [show j + (q + 1) = j + 1 + q by omega, show j + (p + 1) = j + 1 + p by omega]
          exact this
theorem fits_zero {i j : Nat} (h : fits i j = false) : i ≠ 0 ∧ j ≠ 0 := by
  unfold fits at h
  simp only [Bool.or_eq_false_iff, beq_eq_false_iff_ne] at h
  exact ⟨h.1.1.1.1, h.1.1.1.2⟩
theorem dyn_pairs {ops : Array Oper} {ts' ts : List Tk} {n m : Nat} (x : TksOk n ops.toList ts m) (hm : Match ops.toList ts' ts) (h : dynPairs (befores ops.toList []) ops 0 ops.toList ts' = true) : pairsOk ops (befores ops.toList []) (tagged 0 ts) = true := by
  refine pairs_of ops.toList ts n m 0 x (getD_of_list ops) fun p q op oq tp tq hpq h1 h2 h3 h4 => ?_
  obtain ⟨tp', g1, g2⟩ := hm.get p op tp h1 h3
  obtain ⟨tq', g3, g4⟩ := hm.get q oq tq h2 h4
  have := dynPairs_at _ _ 0 h p q op oq tp' tq' hpq h1 h2 g1 g3
  unfold dynPair at this
  simp only [Bool.or_eq_true, Bool.and_eq_true, Bool.not_eq_true'] at this
  rcases this with g | ⟨gs, g⟩
  · exact .inl g
  · refine .inr ⟨?_, gs⟩
    cases hf : fits (kind op.op) (kind oq.op) with
    | true => exact .inl rfl
    | false =>
      rw [hf] at g
      obtain ⟨z1, z2⟩ := fits_zero hf
      rcases g2 with g2 | g2
      · exact absurd g2 z1
      · rcases g4 with g4 | g4
        · exact absurd g4 z2
        · subst g2 g4
          exact .inr (by rw [← clash3_eq]; simpa using g)

section
variable {P : Program} {kn : List FuncId} {rec : FuncId → Array Value → M Value} (hrec : ∀ f args h n v h1 n1 L, rec f args h n = some ⟨v, h1, n1, L⟩ → Does (fun fuel => evCall P kn fuel f args) h n v h1 n1 L)
set_option linter.unusedSectionVars false
include hrec
theorem opsT_ok {β : Type} {nt : Nat} {ops : Array Oper} : ∀ (l : List Oper) (_ : ∀ o ∈ l, ∀ d, o.dst = some d → d < nt ∧ d < 1023) (i : Nat) (_ : ∀ q o, l[q]? = some o → ops[i + q]? = some o) (idl : List Nat) (s : Fr) (s1 : S) (_ : Idle ops s1 idl) (acc : List Tk) (k : Fr → List Tk → M β) (h : H) (n : Nat) (r : Out β), Sub s s1 → opsT P rec ops l i idl s acc k h n = some r →
    ∃ s' y ts h1 n1 L1 L2, Does (fun fuel => evOpers P (evCall P kn fuel) nt ops l s1) h n y h1 n1 L1 ∧ Sub s' y.1 ∧ k s' (acc.reverse ++ ts) h1 n1 = some ⟨r.val, r.h, r.n, L2⟩ ∧ r.log = L1 ++ L2 ∧ Match l ts y.2 := by
  intro l
  induction l with
  | nil =>
    intro _ i _ idl s s1 _ acc k h n r hs hr
    exact ⟨s, (s1, []), [], h, n, [], r.log, Does.of rfl, hs, by rw [List.append_nil]; exact hr, rfl, trivial⟩
  | cons o l ih =>
    intro hd i hpos idl s s1 hidl acc k h n r hs hr
    have hd0 := hd o (by simp)
    have hdl : ∀ o ∈ l, ∀ d, o.dst = some d → d < nt ∧ d < 1023 := fun o' ho => hd o' (by simp [ho])
    have hio : ops[i]? = some o := by have := hpos 0 o rfl; rwa [Nat.add_zero] at this
    have hpl : ∀ q o', l[q]? = some o' → ops[i + 1 + q]? = some o' := fun q o' hq => by
      have := hpos (q + 1) o' (by simpa using hq)
      rwa [show i + 1 + q = i + (q + 1) by omega]
    have go : ∀ (s : Fr), Sub s s1 → Region.wanted o (yields ops s1) = true →
        (match kind o.op with
          | 0 => opQ P rec s o fun v => opsT P rec ops l (i + 1) (dropI ops o.dst idl) (putF s o.dst v) (⟨0, 0, []⟩ :: acc) k
          | _ => (timed (opQ P rec s o M.ret)).bind fun x => opsT P rec ops l (i + 1) (dropI ops o.dst idl) (putF s o.dst x.1) (x.2 :: acc) k) h n = some r →
        ∃ s' y ts h1 n1 L1 L2, Does (fun fuel => evOpers P (evCall P kn fuel) nt ops (o :: l) s1) h n y h1 n1 L1 ∧ Sub s' y.1 ∧ k s' (acc.reverse ++ ts) h1 n1 = some ⟨r.val, r.h, r.n, L2⟩ ∧ r.log = L1 ++ L2 ∧ Match (o :: l) ts y.2 := by
      intro s hs hw hr
      by_cases hk : kind o.op = 0
      · simp only [hk] at hr
        obtain ⟨v, h1, n1, L1, L2, e1, e2, e3⟩ := val_step hrec hw hs hr
        obtain ⟨s2, hp, hs2⟩ := hs.put hd0 v
        obtain ⟨s', y, ts, h3, n3, L3, L4, e4, e5, e6, e7, e8⟩ := ih hdl _ hpl _ _ s2 (Idle.put hrec hidl hp) _ k h1 n1 _ hs2 e2
        refine ⟨s', _, (⟨0, 0, []⟩ : Tk) :: ts, h3, n3, _, L4, opers_step hrec e1 hp e4, e5, ?_, by rw [e3]; simp only at e7; rw [e7, List.append_assoc], ?_⟩
        · rw [List.reverse_cons, List.append_assoc] at e6
          exact e6
        · exact ⟨.inl hk, e8⟩
      · have hr : ((timed (opQ P rec s o M.ret)).bind fun x => opsT P rec ops l (i + 1) (dropI ops o.dst idl) (putF s o.dst x.1) (x.2 :: acc) k) h n = some r := by
          revert hr
          generalize kind o.op = kk at hk
          intro hr
          match kk, hk with
          | kk + 1, _ => exact hr
        obtain ⟨c, hc, nc, Lc⟩ := r
        obtain ⟨x, h1, n1, L1, L2, e1, e2, e3⟩ := bind_some hr
        obtain ⟨g1, g2⟩ := timed_inv e1
        obtain ⟨v, h1', n1', L1', L2', q1, q2, q3⟩ := val_step hrec hw hs g1
        obtain ⟨rfl, rfl, rfl, rfl⟩ := ret_run_inv q2
        simp only [List.append_nil] at q3
        subst q3
        obtain ⟨s2, hp, hs2⟩ := hs.put hd0 x.1
        obtain ⟨s', y, ts, h3, n3, L3, L4, e4, e5, e6, e7, e8⟩ := ih hdl _ hpl _ _ s2 (Idle.put hrec hidl hp) _ k _ _ _ hs2 e2
        refine ⟨s', _, x.2 :: ts, h3, n3, _, L4, opers_step hrec q1 hp e4, e5, ?_, by rw [e3]; simp only at e7; rw [e7, List.append_assoc], ?_⟩
        · rw [List.reverse_cons, List.append_assoc] at e6
          exact e6
        · exact ⟨.inr g2, e8⟩
    have idle : ∀ (s : Fr), Sub s s1 → Region.wanted o (yields ops s1) = false → (passT (kind o.op) fun tk => opsT P rec ops l (i + 1) (i :: dropI ops o.dst idl) (putF s o.dst undef) (tk :: acc) k) h n = some r →
        ∃ s' y ts h1 n1 L1 L2, Does (fun fuel => evOpers P (evCall P kn fuel) nt ops (o :: l) s1) h n y h1 n1 L1 ∧ Sub s' y.1 ∧ k s' (acc.reverse ++ ts) h1 n1 = some ⟨r.val, r.h, r.n, L2⟩ ∧ r.log = L1 ++ L2 ∧ Match (o :: l) ts y.2 := by
      intro s hs hw hr
      obtain ⟨c, hc, nc, Lc⟩ := r
      have hr : ∃ tk, (kind o.op = 0 ∨ tk = ⟨n, n, []⟩) ∧ opsT P rec ops l (i + 1) (i :: dropI ops o.dst idl) (putF s o.dst undef) (tk :: acc) k h n = some ⟨c, hc, nc, Lc⟩ := by
        revert hr
        generalize kind o.op = kk
        intro hr
        match kk, hr with
        | 0, hr => exact ⟨_, .inl rfl, hr⟩
        | kk + 1, hr =>
          have hr : ((timed (M.ret undef)).bind fun x => opsT P rec ops l (i + 1) (i :: dropI ops o.dst idl) (putF s o.dst undef) (x.2 :: acc) k) h n = some ⟨c, hc, nc, Lc⟩ := hr
          obtain ⟨x, h1, n1, L1, L2, e1, e2, e3⟩ := bind_some hr
          obtain ⟨g1, g2⟩ := timed_inv e1
          obtain ⟨-, rfl, rfl, rfl⟩ := ret_run_inv g1
          refine ⟨x.2, .inr g2, ?_⟩
          simp only [List.nil_append] at e3
          rw [e3]
          exact e2
      obtain ⟨tk, htk, hr⟩ := hr
      obtain ⟨s2, hp, hs2⟩ := hs.put hd0 undef
      obtain ⟨s', y, ts, h3, n3, L3, L4, e4, e5, e6, e7, e8⟩ := ih hdl _ hpl _ _ s2 (Idle.add hrec hio (Idle.put hrec hidl hp) hp) _ k _ _ _ hs2 hr
      refine ⟨s', _, tk :: ts, h3, n3, _, L4, opers_step hrec (idle_step hrec hw) hp e4, e5, ?_, by simp only at e7; rw [e7]; simp, ?_⟩
      · rw [List.reverse_cons, List.append_assoc] at e6
        exact e6
      · exact ⟨htk, e8⟩
    unfold opsT at hr
    cases hg : o.guard with
    | none =>
      rw [hg] at hr
      exact go s hs (by unfold Region.wanted; rw [hg]) hr
    | some jw =>
      obtain ⟨j, want⟩ := jw
      rw [hg] at hr
      simp only at hr
      cases hI : hasI j idl with
      | true =>
        rw [hI] at hr
        refine idle s hs ?_ hr
        unfold Region.wanted
        rw [hg]
        simp only
        rw [hidl j (hasI_mem hrec hI)]
        rfl
      | false =>
      rw [hI] at hr
      simp only at hr
      cases ht : (ops[j]?).bind (·.dst) with
      | none => rw [ht] at hr; cases hr
      | some t =>
        rw [ht] at hr
        simp only at hr
        obtain ⟨g, hgv, hr⟩ := optK_some hr
        have hget := hs t g hgv
        have hy : ∀ b, g = .bool b → yields ops s1 j = some b := fun b hb => by
          unfold yields
          rw [ht]
          simp only [hget, hb]
        rcases ifV_some hrec hr with ⟨hb, hr⟩ | ⟨hb, hr⟩
        · have hs' : Sub ((t, .bool true) :: s) s1 := hs.cons (by rw [hget, hb])
          cases want with
          | true => exact go _ hs' (by unfold Region.wanted; rw [hg]; simp only; rw [hy _ hb]; rfl) hr
          | false => exact idle _ hs' (by unfold Region.wanted; rw [hg]; simp only; rw [hy _ hb]; rfl) hr
        · have hs' : Sub ((t, .bool false) :: s) s1 := hs.cons (by rw [hget, hb])
          cases want with
          | true => exact idle _ hs' (by unfold Region.wanted; rw [hg]; simp only; rw [hy _ hb]; rfl) hr
          | false => exact go _ hs' (by unfold Region.wanted; rw [hg]; simp only; rw [hy _ hb]; rfl) hr
theorem regK_ok {β : Type} {nt : Nat} {ops : Array Oper} {draw : Bool} (hd : ∀ o ∈ ops.toList, ∀ d, o.dst = some d → d < nt ∧ d < 1023) {s : Fr} {s1 : S} {k : Fr → M β} {h : H} {n : Nat} {r : Out β} (hs : Sub s s1) (hr : regK P rec ops draw s k h n = some r) :
    ∃ s' s2 h1 n1 L1 L2, Does (fun fuel => evRegion P (evCall P kn fuel) nt ops draw s1) h n s2 h1 n1 L1 ∧ Sub s' s2 ∧ k s' h1 n1 = some ⟨r.val, r.h, r.n, L2⟩ ∧ r.log = L1 ++ L2 := by
  have fin : ∀ {y : S × List Tk} {h1 : H} {n1 : Nat} {L1 : List En}, Does (fun fuel => evOpers P (evCall P kn fuel) nt ops ops.toList s1) h n y h1 n1 L1 → (TksOk n ops.toList y.2 n1 → (!draw || (edgesOk ops && pairsOk ops (befores ops.toList []) (tagged 0 y.2))) = true) → Does (fun fuel => evRegion P (evCall P kn fuel) nt ops draw s1) h n y.1 h1 n1 L1 := by
    intro y h1 n1 L1 e1 hc
    have hc := hc (by
      obtain ⟨f0, e⟩ := e1
      exact opers_tks (fun f a => Loc.evCall P kn f0 f a) _ _ _ _ _ _ _ _ (e f0 (Nat.le_refl _)))
    obtain ⟨f0, e⟩ := e1
    refine ⟨f0, fun fuel hf => ?_⟩
    show evRegion P (evCall P kn fuel) nt ops draw s1 h n = _
    unfold evRegion
    have := bind_run (f := fun y : S × List Tk => if (!draw || (edgesOk ops && pairsOk ops (befores ops.toList []) (tagged 0 y.2))) = true then M.ret y.1 else .fail) (e fuel hf) (L2 := []) (b := y.1) (h2 := h1) (n2 := n1) (by rw [if_pos hc]; rfl)
    rw [List.append_nil] at this
    exact this
  unfold regK at hr
  cases hst : (!draw || staticOk ops) with
  | true =>
    simp only [hst] at hr
    obtain ⟨s', y, h1, n1, L1, L2, e1, e2, e3, e4⟩ := opsK_ok hrec ops.toList hd 0 (fun q o hq => by rw [Nat.zero_add, ← Array.getElem?_toList]; exact hq) [] s s1 (fun j hj => by cases hj) k h n r hs hr
    refine ⟨s', y.1, h1, n1, L1, L2, fin e1 fun x => ?_, e2, e3, e4⟩
    simp only [Bool.or_eq_true, Bool.not_eq_true'] at hst
    rcases hst with g | g
    · rw [g]; rfl
    · obtain ⟨g1, g2⟩ := static_pairs x g
      rw [g1, g2]; simp
  | false =>
    simp only [hst] at hr
    cases he : edgesOk ops with
    | false => simp only [he] at hr; cases hr
    | true =>
      simp only [he] at hr
      obtain ⟨s', y, ts, h1, n1, L1, L2, e1, e2, e3, e4, e5⟩ := opsT_ok hrec ops.toList hd 0 (fun q o hq => by rw [Nat.zero_add, ← Array.getElem?_toList]; exact hq) [] s s1 (fun j hj => by cases hj) [] _ h n r hs hr
      simp only [List.reverse_nil, List.nil_append] at e3
      cases hc : dynPairs (befores ops.toList []) ops 0 ops.toList ts with
      | false => rw [hc] at e3; cases e3
      | true =>
        rw [hc] at e3
        exact ⟨s', y.1, h1, n1, L1, L2, fin e1 fun x => by rw [he, dyn_pairs x e5 hc]; simp, e2, e3, e4⟩

def DoesC (kn : List FuncId) (P : Program) (nt : Nat) (c : Code) (s1 : S) (h : H) (n : Nat) (x : Ex × S) (h1 : H) (n1 : Nat) (L : List En) : Prop := ∃ f0, ∀ fr, f0 ≤ fr → ∀ f, f0 ≤ f → evCode P (evCall P kn fr) nt f c s1 h n = some ⟨x, h1, n1, L⟩
def Runs (kn : List FuncId) (P : Program) (nt : Nat) (c : Code) (s1 : S) {β : Type} (k : Ex → Fr → M β) (h : H) (n : Nat) (r : Out β) : Prop :=
  ∃ e s' s2 h1 n1 L1 L2, DoesC kn P nt c s1 h n (e, s2) h1 n1 L1 ∧ Sub s' s2 ∧ k e s' h1 n1 = some ⟨r.val, r.h, r.n, L2⟩ ∧ r.log = L1 ++ L2

theorem codeK_ok {β : Type} {nt : Nat} {G : Hint} {lf : Nat} : ∀ (c : Code) (_ : dstOk nt c = true) (s : Fr) (s1 : S) (k : Ex → Fr → M β) (h : H) (n : Nat) (r : Out β), Sub s s1 → codeK P rec G lf c s k h n = some r → Runs kn P nt c s1 k h n r := by
  intro c
  induction c with
  | skip => intro _ s s1 k h n r hs hr; exact ⟨.normal, s, s1, h, n, [], r.log, ⟨1, fun fr _ f hf => by match f, hf with | f + 1, _ => rfl⟩, hs, hr, rfl⟩
  | label l => intro _ s s1 k h n r hs hr; exact ⟨.normal, s, s1, h, n, [], r.log, ⟨1, fun fr _ f hf => by match f, hf with | f + 1, _ => rfl⟩, hs, hr, rfl⟩
  | region id ops draw =>
    intro hd s s1 k h n r hs hr
    unfold dstOk at hd
    rw [Array.all_eq_true_iff_forall_mem] at hd
    obtain ⟨s', s2, h1, n1, L1, L2, ⟨f0, e1⟩, e2, e3, e4⟩ := regK_ok hrec (fun o ho d hod => by
      have := hd o (by simpa using ho)
      rw [hod] at this
      simpa using this) hs hr
    refine ⟨.normal, s'.keep G.1, s2, h1, n1, L1, L2, ⟨f0 + 1, fun fr hfr f hf => ?_⟩, e2.keep G.1, e3, e4⟩
    match f, hf with
    | f + 1, _ =>
      unfold evCode
      have := bind_run (f := fun s1 => M.ret (Ex.normal, s1)) (e1 fr (by omega)) (L2 := []) (h2 := h1) (n2 := n1) (b := (Ex.normal, s2)) rfl
      rw [List.append_nil] at this
      exact this
  | seq a b iha ihb =>
    intro hd s s1 k h n r hs hr
    unfold dstOk at hd
    simp only [Bool.and_eq_true] at hd
    obtain ⟨e, s', s2, h1, n1, L1, L2, ⟨f0, d1⟩, d2, d3, d4⟩ := iha hd.1 s s1 _ h n r hs hr
    cases e with
    | normal =>
      obtain ⟨e, s3, s4, h3, n3, L3, L4, ⟨f1, q1⟩, q2, q3, q4⟩ := ihb hd.2 s' s2 k h1 n1 _ d2 d3
      refine ⟨e, s3, s4, h3, n3, L1 ++ L3, L4, ⟨max f0 f1 + 1, fun fr hfr f hf => ?_⟩, q2, q3, by rw [d4]; simp only at q4; rw [q4, List.append_assoc]⟩
      match f, hf with
      | f + 1, _ =>
        unfold evCode
        exact bind_run (d1 fr (by omega) f (by omega)) (q1 fr (by omega) f (by omega))
    | ret =>
      refine ⟨.ret, s', s2, h1, n1, L1, L2, ⟨f0 + 1, fun fr hfr f hf => ?_⟩, d2, d3, d4⟩
      match f, hf with
      | f + 1, _ =>
        unfold evCode
        rw [← List.append_nil L1]
        exact bind_run (d1 fr (by omega) f (by omega)) rfl
    | exit i =>
      refine ⟨.exit i, s', s2, h1, n1, L1, L2, ⟨f0 + 1, fun fr hfr f hf => ?_⟩, d2, d3, d4⟩
      match f, hf with
      | f + 1, _ =>
        unfold evCode
        rw [← List.append_nil L1]
        exact bind_run (d1 fr (by omega) f (by omega)) rfl
  | cond c a b iha ihb =>
    intro hd s s1 k h n r hs hr
    unfold dstOk at hd
    simp only [Bool.and_eq_true] at hd
    obtain ⟨v, hv, hr⟩ := optK_some hr
    have hc := hs.evo hv
    rcases ifV_some hrec hr with ⟨rfl, hr⟩ | ⟨rfl, hr⟩
    · obtain ⟨e, s', s2, h1, n1, L1, L2, ⟨f0, d1⟩, d2, d3, d4⟩ := iha hd.1 s s1 k h n r hs hr
      refine ⟨e, s', s2, h1, n1, L1, L2, ⟨f0 + 1, fun fr hfr f hf => ?_⟩, d2, d3, d4⟩
      match f, hf with
      | f + 1, _ =>
        unfold evCode
        simp only [hc, if_true]
        exact d1 fr (by omega) f (by omega)
    · obtain ⟨e, s', s2, h1, n1, L1, L2, ⟨f0, d1⟩, d2, d3, d4⟩ := ihb hd.2 s s1 k h n r hs hr
      refine ⟨e, s', s2, h1, n1, L1, L2, ⟨f0 + 1, fun fr hfr f hf => ?_⟩, d2, d3, d4⟩
      match f, hf with
      | f + 1, _ =>
        unfold evCode
        simp only [hc, Bool.false_eq_true, if_false]
        exact d1 fr (by omega) f (by omega)
  | block id c ih =>
    intro hd s s1 k h n r hs hr
    unfold dstOk at hd
    obtain ⟨e, s', s2, h1, n1, L1, L2, ⟨f0, d1⟩, d2, d3, d4⟩ := ih hd s s1 _ h n r hs hr
    have fin : ∀ e' : Ex, (∀ fr, f0 ≤ fr → ∀ f, f0 ≤ f → evCode P (evCall P kn fr) nt (f + 1) (.block id c) s1 h n = some ⟨(e', s2), h1, n1, L1⟩) → k e' s' h1 n1 = some ⟨r.val, r.h, r.n, L2⟩ → Runs kn P nt (.block id c) s1 k h n r := by
      intro e' hrun hk
      refine ⟨e', s', s2, h1, n1, L1, L2, ⟨f0 + 1, fun fr hfr f hf => ?_⟩, d2, hk, d4⟩
      match f, hf with
      | f + 1, _ => exact hrun fr (by omega) f (by omega)
    cases e with
    | normal => exact fin .normal (fun fr hfr f hf => by unfold evCode; rw [← List.append_nil L1]; exact bind_run (d1 fr hfr f hf) rfl) d3
    | ret => exact fin .ret (fun fr hfr f hf => by unfold evCode; rw [← List.append_nil L1]; exact bind_run (d1 fr hfr f hf) rfl) d3
    | exit i =>
      cases hi : Nat.beq i id with
      | true =>
        have hii : i = id := Nat.eq_of_beq_eq_true hi
        simp only [blockK, hi] at d3
        exact fin .normal (fun fr hfr f hf => by unfold evCode; rw [← List.append_nil L1]; exact bind_run (d1 fr hfr f hf) (by simp only [if_pos hii]; rfl)) d3
      | false =>
        have hii : ¬ i = id := by rintro rfl; rw [Nat.beq_refl] at hi; cases hi
        simp only [blockK, hi] at d3
        exact fin (.exit i) (fun fr hfr f hf => by unfold evCode; rw [← List.append_nil L1]; exact bind_run (d1 fr hfr f hf) (by simp only [if_neg hii]; rfl)) d3
  | loop c ih =>
    intro hd s s1 k h n r hs hr
    have hd' : dstOk nt c = true := by unfold dstOk at hd; exact hd
    have key : ∀ (lf' : Nat) (keys : List Nat) (s : Fr) (s1 : S) (h : H) (n : Nat) (r : Out β), Sub s s1 → loopK (fun s1 k1 => codeK P rec G lf c s1 k1) keys lf' s k h n = some r → Runs kn P nt (.loop c) s1 k h n r := by
      intro lf'
      induction lf' with
      | zero => intro keys s s1 h n r _ hr; cases hr
      | succ lf' ihl =>
        intro keys s s1 h n r hs hr
        unfold loopK at hr
        obtain ⟨e, s', s2, h1, n1, L1, L2, ⟨f0, d1⟩, d2, d3, d4⟩ := ih hd' s s1 _ h n r hs hr
        cases e with
        | normal =>
          obtain ⟨e, s3, s4, h3, n3, L3, L4, ⟨f1, q1⟩, q2, q3, q4⟩ := ihl keys _ s2 h1 n1 _ (d2.keep keys) d3
          refine ⟨e, s3, s4, h3, n3, L1 ++ L3, L4, ⟨max f0 f1 + 1, fun fr hfr f hf => ?_⟩, q2, q3, by rw [d4]; simp only at q4; rw [q4, List.append_assoc]⟩
          match f, hf with
          | f + 1, _ =>
            unfold evCode
            exact bind_run (d1 fr (by omega) f (by omega)) (q1 fr (by omega) f (by omega))
        | ret =>
          refine ⟨.ret, s', s2, h1, n1, L1, L2, ⟨f0 + 1, fun fr hfr f hf => ?_⟩, d2, d3, d4⟩
          match f, hf with
          | f + 1, _ =>
            unfold evCode
            rw [← List.append_nil L1]
            exact bind_run (d1 fr (by omega) f (by omega)) rfl
        | exit i =>
          refine ⟨.exit i, s', s2, h1, n1, L1, L2, ⟨f0 + 1, fun fr hfr f hf => ?_⟩, d2, d3, d4⟩
          match f, hf with
          | f + 1, _ =>
            unfold evCode
            rw [← List.append_nil L1]
            exact bind_run (d1 fr (by omega) f (by omega)) rfl
    exact key lf s.keys s s1 h n r hs hr
  | exit id => intro _ s s1 k h n r hs hr; exact ⟨.exit id, _, s1, h, n, [], r.log, ⟨1, fun fr _ f hf => by match f, hf with | f + 1, _ => rfl⟩, hs.out G id, hr, rfl⟩
  | ret => intro _ s s1 k h n r hs hr; exact ⟨.ret, _, s1, h, n, [], r.log, ⟨1, fun fr _ f hf => by match f, hf with | f + 1, _ => rfl⟩, hs.keep _, hr, rfl⟩
  | rangeFunc _ _ _ _ => intro _ s s1 k h n r hs hr; cases hr
  | scope _ => intro _ s s1 k h n r hs hr; cases hr
  | goto _ => intro _ s s1 k h n r hs hr; cases hr
  | refuse _ => intro _ s s1 k h n r hs hr; cases hr
end

theorem resK_ok {P : Program} {s : Fr} {s1 : S} (hs : Sub s s1) : ∀ (l : List ResultVar) (k : List Value → M Value) (h : H) (n : Nat) (r : Out Value), resK P s l k h n = some r → ∃ vs h1 n1 L1 L2, evResults P s1 l h n = some ⟨vs, h1, n1, L1⟩ ∧ k vs h1 n1 = some ⟨r.val, r.h, r.n, L2⟩ ∧ r.log = L1 ++ L2 := by
  intro l
  induction l with
  | nil => intro k h n r hr; exact ⟨[], h, n, [], r.log, rfl, hr, rfl⟩
  | cons x l ih =>
    intro k h n r hr
    cases x with
    | tmp t =>
      obtain ⟨v, hv, hr⟩ := optK_some hr
      obtain ⟨vs, h1, n1, L1, L2, e1, e2, e3⟩ := ih _ h n r hr
      refine ⟨v :: vs, h1, n1, L1, L2, ?_, e2, e3⟩
      unfold evResults
      rw [hs t v hv, ← List.append_nil L1]
      exact bind_run e1 rfl
    | cell a t =>
      obtain ⟨v, hv, hr⟩ := optK_some hr
      obtain ⟨c, hc, nc, Lc⟩ := r
      obtain ⟨u, h1, n1, L1, L2, e1, e2, e3⟩ := bind_some (loadQ_sub hr)
      obtain ⟨L', e7, e8⟩ := inside_inv e1
      obtain ⟨rfl, _⟩ := Q1.load P t v _ _ _ _ _ _ e7
      rw [List.filter_eq_self.2 (fun x _ => by simp; omega)] at e8
      subst e8
      have e1 := e7
      obtain ⟨vs, h3, n3, L3, L4, e4, e5, e6⟩ := ih _ h1 n1 _ e2
      refine ⟨u :: vs, h3, n3, L1 ++ L3, L4, ?_, e5, by rw [e3]; simp only at e6; rw [e6, List.append_assoc]⟩
      unfold evResults
      rw [hs a v hv]
      refine bind_run e1 ?_
      rw [← List.append_nil L3]
      exact bind_run e4 rfl
theorem argF_sub : ∀ (l : List Value) (i : Nat) (s : S), i + l.length < 1023 → Sub (argF i l) (argS i l s) := by
  intro l
  induction l with
  | nil => intro i s _; exact Sub.nil _
  | cons v l ih =>
    intro i s h
    simp only [List.length_cons] at h
    show Sub ((i, v) :: argF (i + 1) l) (argS (i + 1) l (s.put i v))
    refine (ih (i + 1) (s.put i v) (by omega)).cons ?_
    rw [argS_get _ _ _ _ (by omega), if_neg (by omega), S.get_put _ _ _ _ (by omega), if_pos rfl]
theorem callN_ok {P : Program} {kn : List FuncId} (hd : okDsts P = true) {gt : Nat → Hint} {lf : Nat} : ∀ (d : Nat) (f : FuncId) (args : Array Value) (h : H) (n : Nat) (v : Value) (h1 : H) (n1 : Nat) (L : List En), evCallN kn P gt lf d f args h n = some ⟨v, h1, n1, L⟩ → Does (fun fuel => evCall P kn fuel f args) h n v h1 n1 L := by
  intro d
  induction d with
  | zero => intro f args h n v h1 n1 L hr; cases hr
  | succ d ih =>
    intro f args h n v h1 n1 L hr
    unfold evCallN at hr
    cases hkn : kn.contains f with
    | true =>
      rw [hkn] at hr
      simp only at hr
      cases hnat : natOf f with
      | some k =>
        rw [hnat] at hr
        refine ⟨1, fun fuel hf => ?_⟩
        match fuel, hf with
        | fuel + 1, hf =>
          show evCall P kn (fuel + 1) f args h n = _
          unfold evCall
          rw [if_pos hkn, hnat]
          exact hr
      | none =>
      rw [hnat] at hr
      simp only at hr
      cases hz : (decide (args.size = 0) && noPar P f) with
      | false => rw [hz] at hr; cases hr
      | true =>
        rw [hz] at hr
        refine ⟨1, fun fuel hf => ?_⟩
        match fuel, hf with
        | fuel + 1, hf =>
          show evCall P kn (fuel + 1) f args h n = _
          unfold evCall
          rw [if_pos hkn, hnat]
          show (if (decide (args.size = 0) && noPar P f) = true then _ else _ : M Value) h n = _
          rw [if_pos hz]
          exact hr
    | false =>
    rw [hkn] at hr
    simp only at hr
    unfold evStep at hr
    cases hfn : P.funcs[f]? with
    | none => rw [hfn] at hr; cases hr
    | some fn =>
      rw [hfn] at hr
      simp only at hr
      cases hc : fn.body with
      | none => rw [hc] at hr; cases hr
      | some c =>
        rw [hc] at hr
        simp only at hr
        cases hcond : (decide (args.size ≤ fn.ntmps) && decide (fn.ntmps < 1000)) with
        | false => rw [hcond] at hr; cases hr
        | true =>
          rw [hcond] at hr
          simp only at hr
          have hcond' := hcond
          simp only [Bool.and_eq_true, decide_eq_true_eq] at hcond
          obtain ⟨L', hr, hL⟩ := inside_inv hr
          have hdc : dstOk fn.ntmps c = true := by
            unfold okDsts at hd
            rw [Array.all_eq_true_iff_forall_mem] at hd
            have := hd fn (Array.mem_of_getElem? hfn)
            rw [hc] at this
            exact this
          obtain ⟨e, s', s2, h2, n2, L1, L2, ⟨f0, d1⟩, d2, d3, d4⟩ := codeK_ok ih c hdc _ (argS 0 args.toList .nil) _ h n _ (argF_sub _ 0 _ (by simp; omega)) hr
          have fin : ∀ (hn : e = .normal ∨ e = .ret), resK P s' fn.results.toList outK h2 n2 = some ⟨v, h1, n1, L2⟩ → Does (fun fuel => evCall P kn fuel f args) h n v h1 n1 L := by
            intro hn hres
            obtain ⟨vs, h3, n3, L3, L4, r1, r2, r3⟩ := resK_ok d2 _ _ _ _ _ hres
            simp only at r2 r3
            unfold outK at r2
            obtain ⟨rfl, rfl, rfl, rfl⟩ := ret_run_inv r2
            rw [List.append_nil] at r3
            subst r3
            simp only at d4
            refine ⟨f0 + 1, fun fuel hf => ?_⟩
            match fuel, hf with
            | fuel + 1, hf =>
              show evCall P kn (fuel + 1) f args h n = _
              unfold evCall
              rw [if_neg (by rw [hkn]; simp)]
              simp only [hfn, hc]
              rw [if_pos hcond']
              rw [hL, d4]
              refine inside_run (bind_run (d1 fuel (by omega) fuel (by omega)) ?_)
              rcases hn with rfl | rfl
              · show ((evResults P s2 fn.results.toList).bind _) h2 n2 = _
                rw [← List.append_nil L2]
                exact bind_run r1 rfl
              · show ((evResults P s2 fn.results.toList).bind _) h2 n2 = _
                rw [← List.append_nil L2]
                exact bind_run r1 rfl
          cases e with
          | normal => exact fin (.inl rfl) d3
          | ret => exact fin (.inr rfl) d3
          | exit i => cases d3
theorem call2_ok {P : Program} (hd : okDsts P = true) {gt : Nat → Hint} {lf : Nat} (d : Nat) (f : FuncId) (args : Array Value) (h : H) (n : Nat) (v : Value) (h1 : H) (n1 : Nat) (L : List En) (e : evCall2 P gt lf d f args h n = some ⟨v, h1, n1, L⟩) : Does (fun fuel => evCall P KN fuel f args) h n v h1 n1 L := callN_ok hd d f args h n v h1 n1 L e

end Go.Proofs.YtcehhgppfahbkaaGreatDoor.Ev
namespace Go.Proofs.YtcehhgppfahbkaaGreatDoor.Ev
set_option linter.unusedVariables false
set_option linter.unusedSimpArgs false
open Go

def Run {α : Type} (W : Nat → Prop) (n0 : Nat) (m : M α) (h : H) (n : Nat) (Q : α → H → Nat → Prop) : Prop :=
  ∃ a h1 n1 L, m h n = some ⟨a, h1, n1, L⟩ ∧ n ≤ n1 ∧ (∀ e ∈ L, e.wr = true → n0 ≤ e.b ∨ W e.b) ∧ Q a h1 n1
theorem Run.mono {α : Type} {W : Nat → Prop} {n0 : Nat} {m : M α} {h : H} {n : Nat} {Q Q' : α → H → Nat → Prop} (x : Run W n0 m h n Q) (hq : ∀ a h1 n1, n ≤ n1 → Q a h1 n1 → Q' a h1 n1) : Run W n0 m h n Q' := by
  obtain ⟨a, h1, n1, L, e1, e2, e3, e4⟩ := x
  exact ⟨a, h1, n1, L, e1, e2, e3, hq _ _ _ e2 e4⟩
section
variable {α β : Type} {W : Nat → Prop} {n0 : Nat} {m : M α} {k : α → M β} {h h1 : H} {n n1 : Nat} {a : α} {L : List En} {Q : β → H → Nat → Prop}
theorem Run.step (e : m h n = some ⟨a, h1, n1, L⟩) (hn : n ≤ n1) (hw : ∀ e ∈ L, e.wr = true → n0 ≤ e.b ∨ W e.b) (x : Run W n0 (k a) h1 n1 Q) : Run W n0 (m.bind k) h n Q := by
  obtain ⟨b, h2, n2, L2, e1, e2, e3, e4⟩ := x
  refine ⟨b, h2, n2, L ++ L2, bind_run e e1, by omega, fun x hx => ?_, e4⟩
  rcases List.mem_append.1 hx with q | q
  · exact hw x q
  · exact e3 x q
theorem Run.unstep (e : m h n = some ⟨a, h1, n1, L⟩) (hn : n1 = n) (x : Run W n0 (m.bind k) h n Q) : Run W n0 (k a) h1 n1 Q := by
  obtain ⟨b, h2, n2, L2, e1, e2, e3, e4⟩ := x
  obtain ⟨a', h3, n3, L3, L4, e5, e6, rfl⟩ := bind_some e1
  rw [e] at e5
  simp only [Option.some.injEq, Out.mk.injEq] at e5
  obtain ⟨rfl, rfl, rfl, rfl⟩ := e5
  exact ⟨b, h2, n2, L4, e6, by omega, fun x hx => e3 x (List.mem_append.2 (.inr hx)), e4⟩
theorem Run.iff (e : m h n = some ⟨a, h1, n, L⟩) (hw : ∀ e ∈ L, e.wr = true → n0 ≤ e.b ∨ W e.b) : Run W n0 (m.bind k) h n Q ↔ Run W n0 (k a) h1 n Q :=
  ⟨Run.unstep e rfl, Run.step e (Nat.le_refl _) hw⟩
theorem Run.inside_ {Q' : α → H → Nat → Prop} (x : Run W n0 m h n Q') : Run W n0 (inside m) h n Q' := by
  obtain ⟨a, h1, n1, L, e1, e2, e3, e4⟩ := x
  exact ⟨a, h1, n1, _, inside_run e1, e2, fun e he => e3 e (List.mem_filter.1 he).1, e4⟩
end
section
variable {β : Type} {W : Nat → Prop} {n0 : Nat} {h h1 : H} {n n1 : Nat} {Q : β → H → Nat → Prop} {QV : Value → H → Nat → Prop}
theorem run_ret (a : β) : Run W n0 (M.ret a) h n Q ↔ Q a h n := by
  constructor
  · rintro ⟨b, h2, n2, L, e1, e2, e3, e4⟩
    obtain ⟨rfl, rfl, rfl, rfl⟩ := ret_run_inv e1
    exact e4
  · intro x
    exact ⟨a, h, n, [], rfl, Nat.le_refl _, fun e he => (nomatch he), x⟩
theorem run_out0 : Run W n0 (outK []) h n QV ↔ QV (.tuple #[]) h n := run_ret _
theorem run_out1 (v : Value) : Run W n0 (outK [v]) h n QV ↔ QV v h n := run_ret _
theorem run_out2 (v w : Value) : Run W n0 (outK [v, w]) h n QV ↔ QV (.tuple #[v, w]) h n := run_ret _
theorem run_out3 (v w u : Value) : Run W n0 (outK [v, w, u]) h n QV ↔ QV (.tuple #[v, w, u]) h n := run_ret _
theorem optK_some_eq {α : Type} (a : α) (k : α → M β) : optK (some a) k = k a := rfl
theorem run_if (b : Bool) (x y : M β) : Run W n0 (ifV (.bool b) x y) h n Q ↔ if b = true then Run W n0 x h n Q else Run W n0 y h n Q := by
  cases b
  · rw [if_neg Bool.false_ne_true]; exact Iff.rfl
  · rw [if_pos rfl]; exact Iff.rfl
theorem ifV_true (x y : M β) : ifV (.bool true) x y = x := rfl
theorem ifV_false (x y : M β) : ifV (.bool false) x y = y := rfl

section
variable {β : Type} (k : Value → M β)
theorem knn_ptr (a : Addr) : knn (.pointer (some a)) k = k (.pointer (some a)) := rfl
theorem knn_fun (f : FuncId) (a b : Array Value) : knn (.func (.func f) a b) k = k (.func (.func f) a b) := rfl
theorem num2_eq (f : IntKind → Int → Int → Value) (j : IntKind) (a b : Int) : num2 f (.int j a) (.int j b) k = k (f j a b) := by
  unfold num2
  simp only [sameK_refl]
theorem s_add (j : IntKind) (a b : Int) : kad (.int j a) (.int j b) k = k (.int j (j.wrap (a + b))) := by
  show num2 (fun k a b => .int k (fwrap k (iadd a b))) (.int j a) (.int j b) k = _
  rw [num2_eq, fwrap_eq, iadd_eq]
theorem s_sub (j : IntKind) (a b : Int) : ksb (.int j a) (.int j b) k = k (.int j (j.wrap (a - b))) := by
  unfold ksb
  rw [num2_eq, fwrap_eq, isub_eq]
theorem s_mul (j : IntKind) (a b : Int) : kml (.int j a) (.int j b) k = k (.int j (j.wrap (a * b))) := by
  unfold kml
  rw [num2_eq, fwrap_eq, imul_eq]
theorem s_eq (j : IntKind) (a b : Int) : keq (.int j a) (.int j b) k = k (.bool (a == b)) := by
  show num2 (fun _ a b => .bool (ieq a b)) (.int j a) (.int j b) k = _
  rw [num2_eq, ieq_eq]
theorem s_ne (j : IntKind) (a b : Int) : kne (.int j a) (.int j b) k = k (.bool (a != b)) := by
  show num2 (fun _ a b => .bool (!ieq a b)) (.int j a) (.int j b) k = _
  rw [num2_eq, ieq_eq]; rfl
theorem s_lt (j : IntKind) (a b : Int) : kls (.int j a) (.int j b) k = k (.bool (decide (a < b))) := by
  show num2 (fun _ a b => .bool (ilt a b)) (.int j a) (.int j b) k = _
  rw [num2_eq, ilt_eq]
theorem s_le (j : IntKind) (a b : Int) : klq (.int j a) (.int j b) k = k (.bool (decide (a ≤ b))) := by
  unfold klq
  rw [num2_eq, ile_eq]
theorem s_gt (j : IntKind) (a b : Int) : kgr (.int j a) (.int j b) k = k (.bool (decide (b < a))) := by
  unfold kgr
  rw [num2_eq, ilt_eq]
theorem s_ge (j : IntKind) (a b : Int) : kgq (.int j a) (.int j b) k = k (.bool (decide (b ≤ a))) := by
  unfold kgq
  rw [num2_eq, ile_eq]
theorem s_quo (j : IntKind) (a b : Int) (h0 : b ≠ 0) : kqu (.int j a) (.int j b) k = k (.int j (j.wrap (a.tdiv b))) := by
  unfold kqu
  simp only [sameK_refl, ieq_eq, beq_eq_false_iff_ne.2 h0, fwrap_eq]
theorem s_rem (j : IntKind) (a b : Int) (h0 : b ≠ 0) : krm (.int j a) (.int j b) k = k (.int j (a.tmod b)) := by
  unfold krm
  simp only [sameK_refl, ieq_eq, beq_eq_false_iff_ne.2 h0]
theorem bit2_eq {f : Nat → Nat → Nat} {g : (w : Nat) → BitVec w → BitVec w → BitVec w} (hg : ∀ w x y, (g w x y).toNat = f x.toNat y.toNat) (j : IntKind) (a b : Int) (ha : 0 ≤ a) (hb : 0 ≤ b) : bit2 f (.int j a) (.int j b) k = k (.int j (j.wrap (g j.bits (BitVec.ofInt j.bits a) (BitVec.ofInt j.bits b)).toNat)) := by
  obtain ⟨p, rfl⟩ : ∃ p : Nat, a = Int.ofNat p := ⟨a.toNat, (Int.toNat_of_nonneg ha).symm⟩
  obtain ⟨q, rfl⟩ : ∃ q : Nat, b = Int.ofNat q := ⟨b.toNat, (Int.toNat_of_nonneg hb).symm⟩
  unfold bit2
  simp only [sameK_refl, fwrap_eq, hg, (arQ_bits p q).1, (arQ_bits p q).2]
  rfl
theorem s_and (j : IntKind) (a b : Int) (ha : 0 ≤ a) (hb : 0 ≤ b) : kan (.int j a) (.int j b) k = k (.int j (j.wrap (BitVec.ofInt j.bits a &&& BitVec.ofInt j.bits b).toNat)) := bit2_eq k (g := fun _ x y => x &&& y) (fun _ _ _ => BitVec.toNat_and ..) j a b ha hb
theorem s_or (j : IntKind) (a b : Int) (ha : 0 ≤ a) (hb : 0 ≤ b) : kor (.int j a) (.int j b) k = k (.int j (j.wrap (BitVec.ofInt j.bits a ||| BitVec.ofInt j.bits b).toNat)) := bit2_eq k (g := fun _ x y => x ||| y) (fun _ _ _ => BitVec.toNat_or ..) j a b ha hb
theorem s_xor (j : IntKind) (a b : Int) (ha : 0 ≤ a) (hb : 0 ≤ b) : kxo (.int j a) (.int j b) k = k (.int j (j.wrap (BitVec.ofInt j.bits a ^^^ BitVec.ofInt j.bits b).toNat)) := bit2_eq k (g := fun _ x y => x ^^^ y) (fun _ _ _ => BitVec.toNat_xor ..) j a b ha hb
theorem s_shl (j j' : IntKind) (a b : Int) (ha : 0 ≤ a) (hb : 0 ≤ b) : ksl (.int j a) (.int j' b) k = k (.int j (j.wrap (a * 2 ^ (min b.toNat j.bits)))) := by
  obtain ⟨p, rfl⟩ : ∃ p : Nat, a = Int.ofNat p := ⟨a.toNat, (Int.toNat_of_nonneg ha).symm⟩
  obtain ⟨q, rfl⟩ : ∃ q : Nat, b = Int.ofNat q := ⟨b.toNat, (Int.toNat_of_nonneg hb).symm⟩
  unfold ksl
  simp only [fwrap_eq]
  congr 3
theorem s_shr (j j' : IntKind) (a b : Int) (ha : 0 ≤ a) (hb : 0 ≤ b) : ksr (.int j a) (.int j' b) k = k (.int j (a.fdiv (2 ^ (min b.toNat j.bits)))) := by
  obtain ⟨p, rfl⟩ : ∃ p : Nat, a = Int.ofNat p := ⟨a.toNat, (Int.toNat_of_nonneg ha).symm⟩
  obtain ⟨q, rfl⟩ : ∃ q : Nat, b = Int.ofNat q := ⟨b.toNat, (Int.toNat_of_nonneg hb).symm⟩
  unfold ksr
  simp only
  congr 2
  show ((p / 2 ^ (min q j.bits) : Nat) : Int) = ((p : Nat) : Int).fdiv (2 ^ min q j.bits)
  have e2 : (2 : Int) ^ (min q j.bits) = ((2 ^ (min q j.bits) : Nat) : Int) := by simp
  rw [e2, Int.fdiv_eq_ediv_of_nonneg _ (Int.natCast_nonneg _), ← Int.natCast_ediv]
theorem s_addS (a b : List UInt8) (h : a.length + b.length ≤ 9223372036854775807) : kad (.string ⟨a.toArray⟩) (.string ⟨b.toArray⟩) k = k (.string ⟨(a ++ b).toArray⟩) := by
  unfold kad
  simp only [lenB_eq]
  rw [show Nat.ble (Nat.add a.length b.length) 9223372036854775807 = true from Nat.ble_eq_true_of_le h]
  simp only [appB_eq]
theorem s_eqS (a b : List UInt8) : keq (.string ⟨a.toArray⟩) (.string ⟨b.toArray⟩) k = k (.bool (decide (a = b))) := by
  unfold keq
  simp only [beqB_eq]
theorem s_neS (a b : List UInt8) : kne (.string ⟨a.toArray⟩) (.string ⟨b.toArray⟩) k = k (.bool (!decide (a = b))) := by
  unfold kne
  simp only [beqB_eq]
theorem s_ltS (a b : List UInt8) : kls (.string ⟨a.toArray⟩) (.string ⟨b.toArray⟩) k = k (.bool (Op.bytesLess a b)) := by
  unfold kls
  simp only [lessB_eq]
theorem s_eqB (a b : Bool) : kbe (.bool a) (.bool b) k = k (.bool (a == b)) := by cases a <;> cases b <;> rfl
theorem s_neB (a b : Bool) : kbn (.bool a) (.bool b) k = k (.bool (a != b)) := by cases a <;> cases b <;> rfl
theorem s_not (b : Bool) : knt (.bool b) k = k (.bool (!b)) := rfl
theorem s_neg (j : IntKind) (a : Int) : kng (.int j a) k = k (.int j (j.wrap (0 - a))) := by
  unfold kng
  simp only [fwrap_eq, isub_eq]
theorem s_cv (kd j : IntKind) (a : Int) : kcv kd (.int j a) k = k (.int kd (kd.wrap a)) := by
  unfold kcv
  simp only [fwrap_eq]
theorem s_id (s : ByteArray) : kid (.string s) k = k (.string s) := rfl
theorem s_ln (a : Option Addr) (n c : Nat) : kln (.slice a n c) k = k (.int .i64 (n : Int)) := rfl
theorem s_lx (l : List UInt8) : klx (.string ⟨l.toArray⟩) k = k (.int .i64 (l.length : Int)) := by
  unfold klx
  simp only [lenB_eq]
  rfl
theorem s_mi (j j' : IntKind) (a b : Int) : kmi (.int j a) (.int j' b) k = k (.int j (if b < a then b else a)) := by
  unfold kmi
  simp only [ilt_eq]
  by_cases h : b < a <;> simp only [h, decide_true, decide_false, if_true, if_false]
theorem s_ma (j j' : IntKind) (a b : Int) : kma (.int j a) (.int j' b) k = k (.int j (if a < b then b else a)) := by
  unfold kma
  simp only [ilt_eq]
  by_cases h : a < b <;> simp only [h, decide_true, decide_false, if_true, if_false]
theorem s_pk (b : Bool) (x y : Value) : kpk (.bool b) x y k = k (if b = true then x else y) := by cases b <;> rfl
theorem s_pe1 (a : Addr) : kpe (.pointer (some a)) (.pointer none) k = k (.bool false) := rfl
theorem s_pe0 : kpe (.pointer none) (.pointer none) k = k (.bool true) := rfl
theorem s_pn1 (a : Addr) : kpn (.pointer (some a)) (.pointer none) k = k (.bool true) := rfl
theorem s_pn0 : kpn (.pointer none) (.pointer none) k = k (.bool false) := rfl
theorem s_se1 (a : Addr) (n c m d : Nat) : kse (.slice (some a) n c) (.slice none m d) k = k (.bool false) := rfl
theorem s_se0 (n c m d : Nat) : kse (.slice none n c) (.slice none m d) k = k (.bool true) := rfl
theorem s_sn1 (a : Addr) (n c m d : Nat) : ksn (.slice (some a) n c) (.slice none m d) k = k (.bool true) := rfl
theorem s_sn0 (n c m d : Nat) : ksn (.slice none n c) (.slice none m d) k = k (.bool false) := rfl
theorem s_fe1 (f : Fn) (a b : Array Value) : kfe (.func f a b) .nilFunc k = k (.bool false) := rfl
theorem s_fn1 (f : Fn) (a b : Array Value) : kfn (.func f a b) .nilFunc k = k (.bool true) := rfl

theorem s_fa (K b off : Nat) : kfa K (.pointer (some ⟨b, off, none⟩)) k = k (.pointer (some ⟨b, off + K, none⟩)) := rfl
theorem nthK (l : List Value) (i : Nat) : (match nthV l i with
    | some v => k v
    | none => M.fail) = optK l[i]? k := by
  rw [nthV_eq]
  cases l[i]? <;> rfl
theorem s_fd (K : Nat) (l : List Value) : kfd K (.agg l.toArray) k = optK l[K]? k := nthK k l K
theorem s_fg (K m : Nat) (l : List Value) : kfg K m (.agg l.toArray) k = k (.agg ((l.drop K).take m).toArray) := rfl
theorem s_ex (l : List Value) (i : Nat) : kex (.tuple l.toArray) i k = optK l[i]? k := nthK k l i
theorem ext0 (a b : Value) : kex (.tuple #[a, b]) 0 k = k a := rfl
theorem ext1 (a b : Value) : kex (.tuple #[a, b]) 1 k = k b := rfl
theorem ble_lt {i : Int} {n : Nat} (h1 : i < n) {j : Nat} (e : i = Int.ofNat j) : Nat.ble (Nat.succ j) n = true := by
  subst e
  exact Nat.ble_eq_true_of_le (Int.ofNat_lt.1 h1)
theorem s_ix (b off n c : Nat) (j : IntKind) (i : Int) (h0 : 0 ≤ i) (h1 : i < n) : kix (.slice (some ⟨b, off, none⟩) n c) (.int j i) k = k (.pointer (some ⟨b, off + i.toNat, none⟩)) := by
  obtain ⟨p, rfl⟩ : ∃ p : Nat, i = Int.ofNat p := ⟨i.toNat, (Int.toNat_of_nonneg h0).symm⟩
  unfold kix
  simp only [ble_lt h1 rfl]
  rfl
theorem s_iy (sz b off n c : Nat) (j : IntKind) (i : Int) (h0 : 0 ≤ i) (h1 : i < n) : kiy sz (.slice (some ⟨b, off, none⟩) n c) (.int j i) k = k (.pointer (some ⟨b, off + i.toNat * sz, none⟩)) := by
  obtain ⟨p, rfl⟩ : ∃ p : Nat, i = Int.ofNat p := ⟨i.toNat, (Int.toNat_of_nonneg h0).symm⟩
  unfold kiy
  simp only [ble_lt h1 rfl]
  rfl
theorem s_ia (n b off : Nat) (j : IntKind) (i : Int) (h0 : 0 ≤ i) (h1 : i < n) : kia n (.pointer (some ⟨b, off, none⟩)) (.int j i) k = k (.pointer (some ⟨b, off + i.toNat, none⟩)) := by
  obtain ⟨p, rfl⟩ : ∃ p : Nat, i = Int.ofNat p := ⟨i.toNat, (Int.toNat_of_nonneg h0).symm⟩
  unfold kia
  simp only [ble_lt h1 rfl]
  rfl
theorem s_ib (n sz b off : Nat) (j : IntKind) (i : Int) (h0 : 0 ≤ i) (h1 : i < n) : kib n sz (.pointer (some ⟨b, off, none⟩)) (.int j i) k = k (.pointer (some ⟨b, off + i.toNat * sz, none⟩)) := by
  obtain ⟨p, rfl⟩ : ∃ p : Nat, i = Int.ofNat p := ⟨i.toNat, (Int.toNat_of_nonneg h0).symm⟩
  unfold kib
  simp only [ble_lt h1 rfl]
  rfl
theorem s_iv (n : Nat) (l : List Value) (j : IntKind) (i : Int) (h0 : 0 ≤ i) (h1 : i < n) : kiv n (.agg l.toArray) (.int j i) k = optK l[i.toNat]? k := by
  obtain ⟨p, rfl⟩ : ∃ p : Nat, i = Int.ofNat p := ⟨i.toNat, (Int.toNat_of_nonneg h0).symm⟩
  unfold kiv
  simp only [ble_lt h1 rfl]
  exact nthK k l p
theorem s_it (l : List UInt8) (j : IntKind) (i : Int) (h0 : 0 ≤ i) (h1 : i < l.length) : kit (.string ⟨l.toArray⟩) (.int j i) k = k (.int .u8 ((l.getD i.toNat 0).toNat : Int)) := by
  obtain ⟨p, rfl⟩ : ∃ p : Nat, i = Int.ofNat p := ⟨i.toNat, (Int.toNat_of_nonneg h0).symm⟩
  have hp : p < l.length := Int.ofNat_lt.1 h1
  have e : nthB l p = some (l.getD p 0) := by
    cases hn : nthB l p with
    | some c => rw [(nthB_some _ _ _ hn).2]
    | none =>
      exfalso
      have : ∀ (l : List UInt8) (p : Nat), p < l.length → nthB l p ≠ none := by
        intro l
        induction l with
        | nil => intro p h; simp at h
        | cons a l ih =>
          intro p h e
          cases p with
          | zero => cases e
          | succ p => exact ih p (by simpa using h) e
      exact this l p hp hn
  unfold kit
  simp only [e]
  rfl
theorem ksx_eq (l : List UInt8) (lo hi : Option Value) {a b : Nat} (ha : bndN lo 0 = some a) (hb : bndN hi l.length = some b) (h1 : a ≤ b) (h2 : b ≤ l.length) : ksx (.string ⟨l.toArray⟩) lo hi k = k (.string ⟨((l.drop a).take (b - a)).toArray⟩) := by
  unfold ksx
  simp only [ha, lenB_eq, hb, Nat.ble_eq_true_of_le h1, Nat.ble_eq_true_of_le h2]
  rfl
theorem bndN_int (j : IntKind) {i : Int} (d : Nat) (h : 0 ≤ i) : bndN (some (.int j i)) d = some i.toNat := by
  obtain ⟨p, rfl⟩ : ∃ p : Nat, i = Int.ofNat p := ⟨i.toNat, (Int.toNat_of_nonneg h).symm⟩
  rfl
theorem s_sxh (l : List UInt8) (kd : IntKind) (j : Int) (h0 : 0 ≤ j) (h1 : j ≤ l.length) : ksx (.string ⟨l.toArray⟩) none (some (.int kd j)) k = k (.string ⟨(l.take j.toNat).toArray⟩) := by
  rw [ksx_eq k l none _ (a := 0) (b := j.toNat) rfl (bndN_int kd _ h0) (by omega) (by omega)]
  simp
theorem s_sxl (l : List UInt8) (kd : IntKind) (i : Int) (h0 : 0 ≤ i) (h1 : i ≤ l.length) : ksx (.string ⟨l.toArray⟩) (some (.int kd i)) none k = k (.string ⟨(l.drop i.toNat).toArray⟩) := by
  rw [ksx_eq k l _ none (a := i.toNat) (b := l.length) (bndN_int kd _ h0) rfl (by omega) (by omega)]
  rw [List.take_of_length_le (by simp)]
theorem s_sxb (l : List UInt8) (kd kd' : IntKind) (i j : Int) (h0 : 0 ≤ i) (h1 : i ≤ j) (h2 : j ≤ l.length) : ksx (.string ⟨l.toArray⟩) (some (.int kd i)) (some (.int kd' j)) k = k (.string ⟨((l.drop i.toNat).take (j.toNat - i.toNat)).toArray⟩) :=
  ksx_eq k l _ _ (bndN_int kd _ h0) (bndN_int kd' _ (by omega)) (by omega) (by omega)
theorem s_bd (z : List Value) (ps : List (Nat × Nat × Value)) : kbd z ps k = optK (fillQ z ps) fun cs => k (.agg cs.toArray) := by
  unfold kbd
  cases fillQ z ps <;> rfl
theorem fill_nil (cs : List Value) : fillQ cs [] = some cs := rfl
theorem fillQ_cons (cs : List Value) (q : Nat × Nat × Value) (r : List (Nat × Nat × Value)) : fillQ cs (q :: r) = match Nat.beq (lenV (cellsL q.2.2)) q.2.1 with
    | true => match Nat.ble (Nat.add q.1 (lenV (cellsL q.2.2))) (lenV cs) with
      | true => fillQ (splice cs q.1 (cellsL q.2.2)) r
      | false => none
    | false => none := rfl
theorem fill_gen {cs vs : List Value} {off sz : Nat} {v : Value} {r : List (Nat × Nat × Value)} (hv : cellsL v = vs) : fillQ cs ((off, sz, v) :: r) = if vs.length = sz then (if off + sz ≤ cs.length then fillQ (cs.take off ++ (vs ++ cs.drop (off + sz))) r else none) else none := by
  have sp : ∀ (off : Nat) (cs l : List Value), off + l.length ≤ cs.length → splice cs off l = cs.take off ++ (l ++ cs.drop (off + l.length)) := by
    have ov : ∀ (l cs : List Value), l.length ≤ cs.length → over l cs = l ++ cs.drop l.length := by
      intro l
      induction l with
      | nil => intro cs _; simp [over]
      | cons x l ih =>
        intro cs h
        cases cs with
        | nil => simp at h
        | cons c cs =>
          show x :: over l cs = _
          rw [ih cs (by simpa using h)]
          simp
    intro off
    induction off with
    | zero =>
      intro cs l h
      have e : splice cs 0 l = over l cs := by cases cs <;> rfl
      rw [e, ov l cs (by omega)]
      simp
    | succ off ih =>
      intro cs l h
      cases cs with
      | nil => simp at h
      | cons c cs =>
        show c :: splice cs off l = _
        rw [ih cs l (by simp at h; omega), show off + 1 + l.length = off + l.length + 1 by omega]
        simp
  subst hv
  rw [fillQ_cons]
  simp only [lenV_eq]
  by_cases h1 : (cellsL v).length = sz
  · rw [if_pos h1]
    subst h1
    rw [Nat.beq_refl]
    simp only
    by_cases h2 : off + (cellsL v).length ≤ cs.length
    · rw [if_pos h2, show Nat.ble (Nat.add off (cellsL v).length) cs.length = true from Nat.ble_eq_true_of_le h2, sp _ _ _ h2]
    · rw [if_neg h2]
      have : Nat.ble (Nat.add off (cellsL v).length) cs.length = false := by
        cases hq : Nat.ble (Nat.add off (cellsL v).length) cs.length with
        | false => rfl
        | true => exact absurd (Nat.le_of_ble_eq_true hq) h2
      rw [this]
  · rw [if_neg h1]
    have : Nat.beq (cellsL v).length sz = false := by
      cases hq : Nat.beq (cellsL v).length sz with
      | false => rfl
      | true => exact absurd (Nat.eq_of_beq_eq_true hq) h1
    rw [this]
theorem fill_one {cs : List Value} {off : Nat} {v : Value} {r : List (Nat × Nat × Value)} (hv : cellsL v = [v]) : fillQ cs ((off, 1, v) :: r) = if off < cs.length then fillQ (cs.set off v) r else none := by
  rw [fill_gen hv, if_pos (show [v].length = 1 from rfl)]
  by_cases h : off < cs.length
  · rw [if_pos h, if_pos (by omega)]
    congr 1
    rw [List.set_eq_take_append_cons_drop, if_pos h]
    rfl
  · rw [if_neg h, if_neg (by omega)]
section
variable (cs : List Value) (off : Nat) (r : List (Nat × Nat × Value))
theorem fill_int (j : IntKind) (x : Int) : fillQ cs ((off, 1, .int j x) :: r) = if off < cs.length then fillQ (cs.set off (.int j x)) r else none := fill_one rfl
theorem fill_bool (b : Bool) : fillQ cs ((off, 1, .bool b) :: r) = if off < cs.length then fillQ (cs.set off (.bool b)) r else none := fill_one rfl
theorem fill_str (s : ByteArray) : fillQ cs ((off, 1, .string s) :: r) = if off < cs.length then fillQ (cs.set off (.string s)) r else none := fill_one rfl
theorem fill_slice (a : Option Addr) (n c : Nat) : fillQ cs ((off, 1, .slice a n c) :: r) = if off < cs.length then fillQ (cs.set off (.slice a n c)) r else none := fill_one rfl
theorem fill_ptr (a : Option Addr) : fillQ cs ((off, 1, .pointer a) :: r) = if off < cs.length then fillQ (cs.set off (.pointer a)) r else none := fill_one rfl
theorem fill_agg (sz : Nat) (vs : List Value) : fillQ cs ((off, sz, .agg vs.toArray) :: r) = if vs.length = sz then (if off + sz ≤ cs.length then fillQ (cs.take off ++ (vs ++ cs.drop (off + sz))) r else none) else none := fill_gen rfl
end
end

theorem get_eq (h : H) (i : Nat) (x : Option AB) : (h.set i x).get i = x := by rw [H.get_set, if_pos rfl]
theorem get_ne (h : H) {i j : Nat} (x : Option AB) (e : j ≠ i) : (h.set i x).get j = h.get j := by rw [H.get_set, if_neg e]
theorem inside_ro {α : Type} {m : M α} {h h1 : H} {n n1 : Nat} {a : α} {L : List En} (e : m h n = some ⟨a, h1, n1, L⟩) (hw : ∀ e ∈ L, e.wr = false) : ∃ L', inside m h n = some ⟨a, h1, n1, L'⟩ ∧ ∀ e ∈ L', e.wr = true → n0 ≤ e.b ∨ W e.b :=
  ⟨_, inside_run e, fun x hx hx2 => by rw [hw x (List.mem_filter.1 hx).1] at hx2; cases hx2⟩
theorem newB_run (e : TypeId) (cs : List Value) (h : H) (n : Nat) : newB e cs h n = some ⟨n, h.set n (some ⟨e, true, cs⟩), n + 1, []⟩ := by
  unfold newB
  rw [if_pos (Nat.lt_succ_self n)]
theorem run_new {α : Type} {m : M α} {a : α} {k : α → M β} {h1 : H} {n1 : Nat} (e : m h n = some ⟨a, h1, n1, []⟩) (hn : n ≤ n1) (x : Run W n0 (k a) h1 n1 Q) : Run W n0 ((inside m).bind k) h n Q :=
  Run.step (inside_run e) hn (fun x hx => by simp at hx) x
theorem run_ins {α : Type} {m : M α} {kk : α → M β} (x : Run W n0 ((inside m).bind kk) h n Q) : Run W n0 (insB m kk) h n Q := by rw [insB_eq]; exact x
theorem newK (e : TypeId) (cs : List Value) (f : Nat → Value) (h : H) (n : Nat) : ((newB3 e cs).bind fun id => M.ret (f id)) h n = some ⟨f n, h.set n (some ⟨e, true, cs⟩), n + 1, []⟩ := by
  rw [newB3_eq]
  exact bind_run (newB_run _ _ _ _) rfl
theorem run_box {T : Prop} (_ : T) {t : TypeId} (v : Value) (k : Value → M β) (x : Run W n0 (k (.pointer (some ⟨n, 0, none⟩))) (h.set n (some ⟨t, true, v.cells.toList⟩)) (n + 1) Q) : Run W n0 (kbx t v k) h n Q := by
  rw [← cellsL_eq] at x
  exact run_ins (run_new (newK _ _ (fun id => Value.pointer (some ⟨id, 0, none⟩)) _ _) (Nat.le_succ n) x)
theorem run_alloc {t : TypeId} {z cs : List Value} (hz : z = cs) (k : Value → M β) (x : Run W n0 (k (.pointer (some ⟨n, 0, none⟩))) (h.set n (some ⟨t, true, cs⟩)) (n + 1) Q) : Run W n0 (kal t z k) h n Q := by
  subst hz
  exact run_ins (run_new (newK _ _ (fun id => Value.pointer (some ⟨id, 0, none⟩)) _ _) (Nat.le_succ n) x)
theorem catV_one (z : Value) : ∀ m, catV [z] m = List.replicate m z
  | 0 => rfl
  | m + 1 => by
    show z :: catV [z] m = _
    rw [catV_one z m]; rfl
theorem run_make {T : Prop} (_ : T) {e : TypeId} {z : Value} (l m : Nat) (k : Value → M β) {kd kd' : IntKind} (hl : l ≤ m) (hm : m ≤ 1099511627776) (x : Run W n0 (k (.slice (some ⟨n, 0, none⟩) l m)) (h.set n (some ⟨e, true, List.replicate m z⟩)) (n + 1) Q) : Run W n0 (kmk e [z] (.int kd l) (.int kd' m) k) h n Q := by
  have e1 : kmk e [z] (.int kd l) (.int kd' m) k = insB ((newB3 e (catV [z] m)).bind fun id => M.ret (Value.slice (some ⟨id, 0, none⟩) l m)) k := by
    show (match Nat.ble l m with
      | true => match Nat.ble m 1099511627776 with
        | true => insB ((newB3 e (catV [z] m)).bind fun id => M.ret (Value.slice (some ⟨id, 0, none⟩) l m)) k
        | false => .fail
      | false => .fail) = _
    rw [Nat.ble_eq_true_of_le hl, Nat.ble_eq_true_of_le hm]
  rw [e1, catV_one]
  exact run_ins (run_new (newK _ _ (fun id => Value.slice (some ⟨id, 0, none⟩) l m) _ _) (Nat.le_succ n) x)
theorem run_lit1 {T : Prop} (_ : T) {e : TypeId} {v : Value} (h1 : one v = true) (k : Value → M β) (x : Run W n0 (k (.slice (some ⟨n, 0, none⟩) 1 1)) (h.set n (some ⟨e, true, [v]⟩)) (n + 1) Q) : Run W n0 (kb1 e 1 v k) h n Q := by
  have hc : cellsL v = [v] := by cases v <;> first | rfl | (simp [one] at h1)
  unfold kb1
  rw [hc]
  exact run_ins (run_new (newK _ _ (fun id => Value.slice (some ⟨id, 0, none⟩) 1 1) _ _) (Nat.le_succ n) x)
end

end Go.Proofs.YtcehhgppfahbkaaGreatDoor.Ev
namespace Go.Proofs.YtcehhgppfahbkaaGreatDoor.Ev
set_option linter.unusedVariables false
set_option linter.unusedSimpArgs false
open Go

def optG {α : Type} (o : Option α) (p : α → Prop) : Prop := match o with
  | some a => p a
  | none => False
theorem optG_some {α : Type} (a : α) (p : α → Prop) : optG (some a) p = p a := rfl
theorem one_int (k : IntKind) (x : Int) : one (.int k x) = true := rfl
theorem cells_agg (cs : Array Value) : (Value.agg cs).cells = cs := rfl
section
variable {β : Type} {W : Nat → Prop} {n0 : Nat} {h h1 : H} {n n1 : Nat} {Q : β → H → Nat → Prop}
theorem not_run_fail : ¬ Run W n0 (M.fail : M β) h n Q := by rintro ⟨_, _, _, _, e, _⟩; cases e
theorem not_run_bind {α : Type} {m : M α} {k : α → M β} (e : m h n = none) : ¬ Run W n0 (m.bind k) h n Q := by
  rintro ⟨_, _, _, _, e1, _⟩
  unfold M.bind at e1
  rw [e] at e1
  cases e1
theorem inside_none {α : Type} {m : M α} (e : m h n = none) : Ev.inside m h n = none := by unfold Ev.inside; rw [e]
theorem kld_iff (b off : Nat) (k : Value → M β) (hb : b < n) : Run W n0 (kld (.pointer (some ⟨b, off, none⟩)) k) h n Q ↔ optG (h.get b) fun B => Run W n0 (optK (B.cells[off]?) k) h n Q := by
  show Run W n0 (insB (rd3 b off) k) h n Q ↔ _
  rw [insB_eq, rd3_eq]
  cases hg : h.get b with
  | none =>
    refine ⟨fun x => absurd x (not_run_bind (inside_none ?_)), fun x => x.elim⟩
    unfold rd
    simp [hg]
  | some B =>
    show _ ↔ Run W n0 (optK (B.cells[off]?) k) h n Q
    cases hv : B.cells[off]? with
    | none =>
      refine ⟨fun x => absurd x (not_run_bind (inside_none ?_)), fun x => absurd x not_run_fail⟩
      unfold rd
      simp [hg, hv]
    | some v =>
      have e : rd b off h n = some ⟨v, h, n, [⟨false, b, some off⟩]⟩ := by
        unfold rd
        simp only [hb, hg, hv, if_true]
      obtain ⟨L', e1, e2⟩ := inside_ro (W := W) (n0 := n0) e (by simp)
      exact Run.iff e1 e2
theorem kst_def (b off : Nat) {v : Value} (k : Value → M β) (h1 : one v = true) : kst (.pointer (some ⟨b, off, none⟩)) v k = (inside ((wr b off v).bind fun _ => .ret undef)).bind k := by
  show (match one v with
    | true => insB ((wr3 b off v).bind fun _ => .ret undef) k
    | false => .fail) = _
  rw [h1, wr3_eq]
  exact insB_eq _ _
theorem kst_iff (b off : Nat) (v : Value) (k : Value → M β) (hb : b < n) (h1 : one v = true) : Run W n0 (kst (.pointer (some ⟨b, off, none⟩)) v k) h n Q ↔
    optG (h.get b) fun B => B.own = true ∧ off < B.cells.length ∧ (n0 ≤ b ∨ W b) ∧ Run W n0 (k undef) (h.set b (some ⟨B.elem, B.own, B.cells.set off v⟩)) n Q := by
  rw [kst_def b off k h1]
  cases hg : h.get b with
  | none =>
    refine ⟨fun x => absurd x (not_run_bind (inside_none ?_)), fun x => x.elim⟩
    unfold M.bind wr
    simp [hg]
  | some B =>
    show _ ↔ (B.own = true ∧ off < B.cells.length ∧ (n0 ≤ b ∨ W b) ∧ _)
    by_cases hok : B.own = true ∧ off < B.cells.length
    · obtain ⟨ho, hl⟩ := hok
      have hwr : wr b off v h n = some ⟨(), h.set b (some ⟨B.elem, B.own, B.cells.set off v⟩), n, [⟨false, b, some off⟩, ⟨true, b, some off⟩]⟩ := by
        unfold wr
        simp [hb, hg, ho, hl, h1]
      have e : ((wr b off v).bind fun _ => M.ret undef) h n = some ⟨undef, h.set b (some ⟨B.elem, B.own, B.cells.set off v⟩), n, [⟨false, b, some off⟩, ⟨true, b, some off⟩]⟩ := by
        have := bind_run (f := fun _ => M.ret undef) hwr (L2 := []) (b := undef) (h2 := h.set b (some ⟨B.elem, B.own, B.cells.set off v⟩)) (n2 := n) rfl
        simpa using this
      have ei := inside_run e
      constructor
      · intro x
        refine ⟨ho, hl, ?_, Run.unstep ei rfl x⟩
        obtain ⟨_, _, _, L, e1, _, e3, _⟩ := x
        obtain ⟨_, _, _, L3, L4, e5, _, rfl⟩ := bind_some e1
        rw [ei] at e5
        simp only [Option.some.injEq, Out.mk.injEq] at e5
        refine e3 ⟨true, b, some off⟩ (List.mem_append.2 (.inl ?_)) rfl
        rw [← e5.2.2.2]
        refine List.mem_filter.2 ⟨by simp, ?_⟩
        simp
        omega
      · rintro ⟨_, _, hw, x⟩
        refine Run.step ei (Nat.le_refl _) (fun x hx hx2 => ?_) x
        have hx := (List.mem_filter.1 hx).1
        simp at hx
        rcases hx with rfl | rfl <;> exact hw
    · refine ⟨fun x => absurd x (not_run_bind (inside_none ?_)), fun x => absurd ⟨x.1, x.2.1⟩ hok⟩
      unfold M.bind wr
      simp only [hb, hg, if_true, h1, Bool.and_true]
      rw [if_neg (by simpa using hok)]
section
variable (b off : Nat) (k : Value → M β) (hb : b < n)
include hb
theorem st_int (j : IntKind) (x : Int) : Run W n0 (kst (.pointer (some ⟨b, off, none⟩)) (.int j x) k) h n Q ↔ optG (h.get b) fun B => B.own = true ∧ off < B.cells.length ∧ (n0 ≤ b ∨ W b) ∧ Run W n0 (k undef) (h.set b (some ⟨B.elem, B.own, B.cells.set off (.int j x)⟩)) n Q := kst_iff b off _ k hb rfl
theorem st_bool (x : Bool) : Run W n0 (kst (.pointer (some ⟨b, off, none⟩)) (.bool x) k) h n Q ↔ optG (h.get b) fun B => B.own = true ∧ off < B.cells.length ∧ (n0 ≤ b ∨ W b) ∧ Run W n0 (k undef) (h.set b (some ⟨B.elem, B.own, B.cells.set off (.bool x)⟩)) n Q := kst_iff b off _ k hb rfl
theorem st_str (x : ByteArray) : Run W n0 (kst (.pointer (some ⟨b, off, none⟩)) (.string x) k) h n Q ↔ optG (h.get b) fun B => B.own = true ∧ off < B.cells.length ∧ (n0 ≤ b ∨ W b) ∧ Run W n0 (k undef) (h.set b (some ⟨B.elem, B.own, B.cells.set off (.string x)⟩)) n Q := kst_iff b off _ k hb rfl
theorem st_ptr (x : Option Addr) : Run W n0 (kst (.pointer (some ⟨b, off, none⟩)) (.pointer x) k) h n Q ↔ optG (h.get b) fun B => B.own = true ∧ off < B.cells.length ∧ (n0 ≤ b ∨ W b) ∧ Run W n0 (k undef) (h.set b (some ⟨B.elem, B.own, B.cells.set off (.pointer x)⟩)) n Q := kst_iff b off _ k hb rfl
theorem st_slice (x : Option Addr) (l c : Nat) : Run W n0 (kst (.pointer (some ⟨b, off, none⟩)) (.slice x l c) k) h n Q ↔ optG (h.get b) fun B => B.own = true ∧ off < B.cells.length ∧ (n0 ≤ b ∨ W b) ∧ Run W n0 (k undef) (h.set b (some ⟨B.elem, B.own, B.cells.set off (.slice x l c)⟩)) n Q := kst_iff b off _ k hb rfl
end

theorem rdN_run {b : Nat} {B : AB} (hg : h.get b = some B) (hb : b < n) : ∀ (c k : Nat), k + c ≤ B.cells.length → ∃ L, rdN b k c h n = some ⟨(B.cells.drop k).take c, h, n, L⟩ ∧ ∀ e ∈ L, e.wr = false
  | 0, k, _ => ⟨[], by rw [List.take_zero]; rfl, by simp⟩
  | c + 1, k, hk => by
    obtain ⟨L, e, hL⟩ := rdN_run hg hb c (k + 1) (by omega)
    have hk2 : k < B.cells.length := by omega
    refine ⟨[⟨false, b, some k⟩] ++ (L ++ []), ?_, ?_⟩
    · unfold rdN
      have e0 : rd b k h n = some ⟨B.cells[k], h, n, [⟨false, b, some k⟩]⟩ := by
        unfold rd
        simp only [hb, hg, if_true, List.getElem?_eq_getElem hk2]
      refine bind_run e0 (bind_run e ?_)
      rw [List.drop_eq_getElem_cons hk2, List.take_succ_cons]
      rfl
    · intro x hx
      simp only [List.append_nil, List.mem_append, List.mem_cons, List.not_mem_nil, or_false] at hx
      rcases hx with rfl | hx
      · rfl
      · exact hL x hx
theorem hdr_run {b : Nat} {B : AB} (hg : h.get b = some B) (hb : b < n) : hdr b h n = some ⟨B.elem, h, n, [⟨false, b, some 1099511627776⟩]⟩ := by
  unfold hdr
  simp only [hb, hg, if_true]
theorem kill_run {b : Nat} {B : AB} (hg : h.get b = some B) (ho : B.own = true) (hb : b < n) : kill b h n = some ⟨(), h.set b none, n, [⟨false, b, none⟩, ⟨true, b, none⟩]⟩ := by
  unfold kill
  simp only [hb, hg, ho, if_true]
def Src (h : H) (n : Nat) (x : Value) (news : List Value) : Prop := ∃ b off c B, x = .slice (some ⟨b, off, none⟩) news.length c ∧ h.get b = some B ∧ b < n ∧ off + news.length ≤ B.cells.length ∧ (B.cells.drop off).take news.length = news
theorem Src.run {x : Value} {news : List Value} (s : Src h n x news) : ∃ L, elemsOf 1 news.length x h n = some ⟨news, h, n, L⟩ ∧ (∀ e ∈ L, e.wr = false) ∧ lenOf? x = some news.length := by
  obtain ⟨b, off, c, B, rfl, hg, hb, hl, ht⟩ := s
  obtain ⟨L, e, hL⟩ := rdN_run hg hb news.length off hl
  refine ⟨L, ?_, hL, rfl⟩
  unfold elemsOf
  rw [Nat.mul_one]
  show rdN b off news.length h n = _
  rw [e, ht]
theorem app_none {T : Prop} (c : T) {e : TypeId} {x : Value} {news : List Value} (hx : lenOf? x = some 0) (a : Option Addr) (l cp : Nat) (k : Value → M β) (y : Run W n0 (k (.slice a l cp)) h n Q) : Run W n0 (kap e 1 (.slice a l cp) x k) h n Q := by
  refine run_ins (run_new (a := .slice a l cp) ?_ (Nat.le_refl n) y)
  unfold appQ
  simp only [hx]
  rfl
theorem app_nil {T : Prop} (c : T) {e : TypeId} {x : Value} {news : List Value} (s : Src h n x news) (h0 : 0 < news.length) (hm : news.length ≤ 1099511627776) (h1 : news.all one = true) (k : Value → M β)
    (y : Run W n0 (k (.slice (some ⟨n, 0, none⟩) news.length (CAP + news.length))) (h.set n (some ⟨e, true, news⟩)) (n + 1) Q) : Run W n0 (kap e 1 (.slice none 0 0) x k) h n Q := by
  obtain ⟨L, e1, e2, e3⟩ := s.run
  have ea : appQ e 1 (.slice none 0 0) x h n = some ⟨.slice (some ⟨n, 0, none⟩) news.length (CAP + news.length), h.set n (some ⟨e, true, news⟩), n + 1, L⟩ := by
    unfold appQ
    rw [elems3_eq, newB3_eq]
    simp only [e3]
    rw [if_neg (by omega), if_pos hm]
    have g : (if (decide (news.length = news.length * 1) && news.all one) = true then (newB e ([] ++ news)).bind fun id => M.ret (Value.slice (some ⟨id, 0, none⟩) (0 + news.length) (CAP + (0 + news.length))) else M.fail) h n = some ⟨.slice (some ⟨n, 0, none⟩) news.length (CAP + news.length), h.set n (some ⟨e, true, news⟩), n + 1, []⟩ := by
      rw [if_pos (by simp; simpa using h1)]
      simp only [Nat.zero_add, List.nil_append]
      exact bind_run (newB_run _ _ _ _) rfl
    have := bind_run (f := fun new => if (decide (new.length = news.length * 1) && new.all one) = true then (newB e ([] ++ new)).bind fun id => M.ret (Value.slice (some ⟨id, 0, none⟩) (0 + news.length) (CAP + (0 + news.length))) else M.fail) e1 g
    simpa using this
  refine run_ins (Run.step (inside_run ea) (Nat.le_succ n) (fun x hx hx2 => ?_) y)
  rw [e2 x (List.mem_filter.1 hx).1] at hx2
  cases hx2
theorem app_own {T : Prop} (c : T) {e : TypeId} {x : Value} {news olds : List Value} (s : Src h n x news) (h0 : 0 < news.length) (h1 : news.all one = true) {b cp : Nat} {cs : List Value} (hg : h.get b = some ⟨e, true, cs⟩) (hb : b < n) (off l : Nat)
    (hl : off + l ≤ cs.length) (ho : (cs.drop off).take l = olds) (hm : l + news.length ≤ 1099511627776) (hc : CAP ≤ cp) (hw : n0 ≤ b ∨ W b) (k : Value → M β)
    (y : Run W n0 (k (.slice (some ⟨n, 0, none⟩) (l + news.length) (CAP + (l + news.length)))) ((h.set b none).set n (some ⟨e, true, olds ++ news⟩)) (n + 1) Q) : Run W n0 (kap e 1 (.slice (some ⟨b, off, none⟩) l cp) x k) h n Q := by
  obtain ⟨L, e1, e2, e3⟩ := s.run
  obtain ⟨L', e4, e5⟩ := rdN_run (n := n) hg hb l off hl
  have ea : ∃ L1, appQ e 1 (.slice (some ⟨b, off, none⟩) l cp) x h n = some ⟨.slice (some ⟨n, 0, none⟩) (l + news.length) (CAP + (l + news.length)), (h.set b none).set n (some ⟨e, true, olds ++ news⟩), n + 1, L1⟩ ∧ ∀ e ∈ L1, e.wr = true → e.b = b := by
    refine ⟨[⟨false, b, some 1099511627776⟩] ++ (L ++ (L' ++ ([⟨false, b, none⟩, ⟨true, b, none⟩] ++ []))), ?_, ?_⟩
    · unfold appQ appTo
      rw [elems3_eq, newB3_eq, hdr3_eq, kill3_eq, rdN3_eq]
      simp only [e3]
      rw [if_neg (by omega), if_pos hm]
      refine bind_run (hdr_run hg hb) ?_
      simp only [if_true]
      refine bind_run e1 ?_
      rw [if_pos (by simp; simpa using h1)]
      rw [if_neg (by omega), Nat.mul_one]
      refine bind_run e4 (bind_run (kill_run hg rfl hb) ?_)
      rw [ho]
      exact bind_run (newB_run _ _ _ _) rfl
    · intro x hx hx2
      simp only [List.mem_append, List.mem_cons, List.not_mem_nil, or_false] at hx
      rcases hx with rfl | hx | hx | rfl | rfl
      · cases hx2
      · rw [e2 x hx] at hx2; cases hx2
      · rw [e5 x hx] at hx2; cases hx2
      · cases hx2
      · rfl
  obtain ⟨L1, ea, hL1⟩ := ea
  refine run_ins (Run.step (inside_run ea) (Nat.le_succ n) (fun x hx hx2 => ?_) y)
  rw [hL1 x (List.mem_filter.1 hx).1 hx2]
  exact hw
theorem app_copy {T : Prop} (c : T) {e : TypeId} {x : Value} {news olds : List Value} (s : Src h n x news) (h0 : 0 < news.length) (h1 : news.all one = true) {b cp : Nat} {B : AB} (hg : h.get b = some B) (he : B.elem = e) (hb : b < n) (off l : Nat)
    (hl : off + l ≤ B.cells.length) (ho : (B.cells.drop off).take l = olds) (hm : l + news.length ≤ 1099511627776) (hc : cp < CAP) (hr : cp < l + news.length) (k : Value → M β)
    (y : Run W n0 (k (.slice (some ⟨n, 0, none⟩) (l + news.length) (CAP + (l + news.length)))) (h.set n (some ⟨e, true, olds ++ news⟩)) (n + 1) Q) : Run W n0 (kap e 1 (.slice (some ⟨b, off, none⟩) l cp) x k) h n Q := by
  obtain ⟨L, e1, e2, e3⟩ := s.run
  obtain ⟨L', e4, e5⟩ := rdN_run (n := n) hg hb l off hl
  have ea : ∃ L1, appQ e 1 (.slice (some ⟨b, off, none⟩) l cp) x h n = some ⟨.slice (some ⟨n, 0, none⟩) (l + news.length) (CAP + (l + news.length)), h.set n (some ⟨e, true, olds ++ news⟩), n + 1, L1⟩ ∧ ∀ e ∈ L1, e.wr = false := by
    refine ⟨[⟨false, b, some 1099511627776⟩] ++ (L ++ (L' ++ [])), ?_, ?_⟩
    · unfold appQ appTo
      rw [elems3_eq, newB3_eq, hdr3_eq, rdN3_eq]
      simp only [e3]
      rw [if_neg (by omega), if_pos hm]
      refine bind_run (hdr_run hg hb) ?_
      simp only [he, if_true]
      refine bind_run e1 ?_
      rw [if_pos (by simp; simpa using h1)]
      rw [if_pos hc, if_neg (by omega), Nat.mul_one]
      refine bind_run e4 ?_
      rw [ho]
      exact bind_run (newB_run _ _ _ _) rfl
    · intro x hx
      simp only [List.append_nil, List.mem_append, List.mem_cons, List.not_mem_nil, or_false] at hx
      rcases hx with rfl | hx | hx
      · rfl
      · exact e2 x hx
      · exact e5 x hx
  obtain ⟨L1, ea, hL1⟩ := ea
  refine run_ins (Run.step (inside_run ea) (Nat.le_succ n) (fun x hx hx2 => ?_) y)
  rw [hL1 x (List.mem_filter.1 hx).1] at hx2
  cases hx2

theorem run_push {T : Prop} (c : T) {e : TypeId} {v : Value} (hv : one v = true) {b cp l : Nat} {cs : List Value} (hg : h.get b = some ⟨e, true, cs⟩) (hb : b < n) (hl : cs.length = l) (hm : l + 1 ≤ 1099511627776) (hc : CAP ≤ cp) (hw : n0 ≤ b ∨ W b) (k : Value → M β)
    (y : Run W n0 (k (.slice (some ⟨n + 1, 0, none⟩) (l + 1) (CAP + (l + 1)))) (((h.set n (some ⟨e, true, [v]⟩)).set b none).set (n + 1) (some ⟨e, true, cs ++ [v]⟩)) (n + 2) Q) : Run W n0 (kb1 e 1 v fun w => kap e 1 (.slice (some ⟨b, 0, none⟩) l cp) w k) h n Q := by
  refine run_lit1 c hv _ ?_
  have hg' : (h.set n (some ⟨e, true, [v]⟩)).get b = some ⟨e, true, cs⟩ := by rw [get_ne _ _ (by omega)]; exact hg
  exact app_own c (news := [v]) (olds := cs) ⟨n, 0, 1, ⟨e, true, [v]⟩, rfl, get_eq _ _ _, Nat.lt_succ_self n, by simp, by simp⟩ (by simp) (by simp [hv]) hg' (by omega) 0 l (by omega) (by rw [List.drop_zero, ← hl, List.take_length]) hm hc hw k y
theorem run_push0 {T : Prop} (c : T) {e : TypeId} {v : Value} (hv : one v = true) (k : Value → M β)
    (y : Run W n0 (k (.slice (some ⟨n + 1, 0, none⟩) 1 (CAP + 1))) ((h.set n (some ⟨e, true, [v]⟩)).set (n + 1) (some ⟨e, true, [v]⟩)) (n + 2) Q) : Run W n0 (kb1 e 1 v fun w => kap e 1 (.slice none 0 0) w k) h n Q := by
  refine run_lit1 c hv _ ?_
  exact app_nil c (news := [v]) ⟨n, 0, 1, ⟨e, true, [v]⟩, rfl, get_eq _ _ _, Nat.lt_succ_self n, by simp, by simp⟩ (by simp) (by simp) (by simp [hv]) k y

theorem bound_none (d : Nat) : boundOf none d = some d := rfl
theorem bound_nat (k : IntKind) (x d : Nat) : boundOf (some (.int k (x : Int))) d = some x := by unfold boundOf; simp

theorem call_frame {P : Program} (hd : okDsts P = true) {gt : Nat → Hint} {lf d : Nat} {f : FuncId} {args : Array Value} {v : Value} {L : List En} (e : evCall2 P gt lf d f args h n = some ⟨v, h1, n1, L⟩) {W' : Nat → Prop} (hw : ∀ e ∈ L, e.wr = true → n ≤ e.b ∨ W' e.b) : ∀ b, b < n → ¬ W' b → h1.get b = h.get b := by
  obtain ⟨f0, e0⟩ := call2_ok hd d f args h n v h1 n1 L e
  have A := Loc.evCall P KN f0 f args h n v h1 n1 L (e0 f0 (Nat.le_refl _))
  intro b hb hn
  refine get_of_agrS fun k => A.frame b k ?_ (by omega)
  rintro ⟨e, he, h2, h3, _⟩
  rcases hw e he h2 with q | q
  · omega
  · exact hn (h3 ▸ q)
theorem run_call {P : Program} (hd : okDsts P = true) {gt : Nat → Hint} {lf d : Nat} {f : FuncId} {vs : List Value} {W' : Nat → Prop} {Q' : Value → H → Nat → Prop} (s : Run W' n (evCall2 P gt lf d f ⟨vs⟩) h n Q') (hn : n0 ≤ n) (hW : ∀ b, b < n → W' b → n0 ≤ b ∨ W b) {k : Value → M β}
    (x : ∀ v h1 n1, n ≤ n1 → (∀ b, b < n → ¬ W' b → h1.get b = h.get b) → Q' v h1 n1 → Run W n0 (k v) h1 n1 Q) : Run W n0 (kcl (evCall2 P gt lf d) f vs k) h n Q := by
  obtain ⟨v, h1, n1, L, e1, e2, e3, e4⟩ := s
  refine run_ins (m := evCall2 P gt lf d f ⟨vs⟩) (Run.step (inside_run e1) e2 (fun e he hwr => ?_) (x v h1 n1 e2 (call_frame hd e1 e3) e4))
  have hL := (List.mem_filter.1 he).1
  rcases e3 e hL hwr with q | q
  · exact .inl (by omega)
  · by_cases hlt : e.b < n
    · exact hW _ hlt q
    · exact .inl (by omega)
end

section
variable {β : Type} {W : Nat → Prop} {n0 : Nat} {h h1 : H} {n n1 : Nat} {Q : β → H → Nat → Prop}
theorem inside_ret (v : Value) (k : Value → M β) : (inside (M.ret v)).bind k = k v := by
  have : inside (M.ret v) = M.ret v := by funext h n; rfl
  rw [this, bind_ret]
theorem run_lit0 {T : Prop} (c : T) {e : TypeId} (k : Value → M β) (x : Run W n0 (k (.slice (some ⟨n, 0, none⟩) 0 0)) (h.set n (some ⟨e, true, []⟩)) (n + 1) Q) : Run W n0 (kbs e [] 0 [] k) h n Q :=
  run_ins (run_new (newK _ _ (fun id => Value.slice (some ⟨id, 0, none⟩) 0 0) _ _) (Nat.le_succ n) x)
theorem chk_true (m : M β) : chkT true m = m := rfl
theorem timed_step {m : M Value} {v : Value} {L : List En} {k : Value × Tk → M β} (e : m h n = some ⟨v, h1, n1, L⟩) (hn : n ≤ n1) (hw : ∀ e ∈ L, e.wr = true → n0 ≤ e.b ∨ W e.b) (x : Run W n0 (k (v, ⟨n, n1, L⟩)) h1 n1 Q) : Run W n0 ((timed m).bind k) h n Q :=
  Run.step (timed_run e) hn hw x
theorem ret_tail {m : M Value} {v : Value} {L : List En} (e : m h n = some ⟨v, h1, n1, L⟩) : (m.bind fun v => M.ret v) h n = some ⟨v, h1, n1, L⟩ := by
  have := bind_run (f := fun v => M.ret v) e (L2 := []) (b := v) (h2 := h1) (n2 := n1) rfl
  rwa [List.append_nil] at this
theorem ins_ret {m : M Value} {v : Value} {L : List En} (e : m h n = some ⟨v, h1, n1, L⟩) : (insB m M.ret) h n = some ⟨v, h1, n1, L.filter fun e => !(decide (n ≤ e.b) && decide (e.b < n1))⟩ := by
  rw [insB_eq]
  exact ret_tail (inside_run e)
theorem timed_ld {T : Prop} (_ : T) (b off : Nat) (k : Value × Tk → M β) {B : AB} (hg : h.get b = some B) (hb : b < n) {v : Value} (hv : B.cells[off]? = some v) (x : Run W n0 (k (v, ⟨n, n, [⟨false, b, some off⟩]⟩)) h n Q) : Run W n0 ((timed (kld (.pointer (some ⟨b, off, none⟩)) M.ret)).bind k) h n Q := by
  have e : rd3 b off h n = some ⟨v, h, n, [⟨false, b, some off⟩]⟩ := by
    rw [rd3_eq]
    unfold rd
    simp only [hb, hg, hv, if_true]
  have e2 := ins_ret e
  have hf : [(⟨false, b, some off⟩ : En)].filter (fun e => !(decide (n ≤ e.b) && decide (e.b < n))) = [⟨false, b, some off⟩] := by
    simp; omega
  rw [hf] at e2
  exact timed_step e2 (Nat.le_refl _) (by simp) x
theorem timed_call {P : Program} (hd : okDsts P = true) {gt : Nat → Hint} {lf d : Nat} {f : FuncId} {vs : List Value} {W' : Nat → Prop} {Q' : Value → H → Nat → Prop} (s : Run W' n (evCall2 P gt lf d f ⟨vs⟩) h n Q') (hn : n0 ≤ n) (hW : ∀ b, b < n → W' b → n0 ≤ b ∨ W b) {k : Value × Tk → M β}
    (x : ∀ v h1 n1 L, n ≤ n1 → (∀ b, b < n → ¬ W' b → h1.get b = h.get b) → Q' v h1 n1 → (∀ e ∈ L, e.b < n) → (∀ e ∈ L, e.wr = true → W' e.b) → Run W n0 (k (v, ⟨n, n1, L⟩)) h1 n1 Q) : Run W n0 ((timed (kcl (evCall2 P gt lf d) f vs M.ret)).bind k) h n Q := by
  obtain ⟨v, h1, n1, L, e1, e2, e3, e4⟩ := s
  obtain ⟨f0, e0⟩ := call2_ok hd d f ⟨vs⟩ h n v h1 n1 L e1
  have A := Loc.evCall P KN f0 f ⟨vs⟩ h n v h1 n1 L (e0 f0 (Nat.le_refl _))
  have hlt : ∀ e ∈ L.filter (fun e => !(decide (n ≤ e.b) && decide (e.b < n1))), e.b < n := fun e he => by
    obtain ⟨h1, h2⟩ := List.mem_filter.1 he
    have := A.lt e h1
    simp at h2
    omega
  have hwr : ∀ e ∈ L.filter (fun e => !(decide (n ≤ e.b) && decide (e.b < n1))), e.wr = true → W' e.b := fun e he hw => by
    rcases e3 e (List.mem_filter.1 he).1 hw with q | q
    · have := hlt e he; omega
    · exact q
  exact timed_step (ins_ret e1) e2 (fun e he hw => hW _ (hlt e he) (hwr e he hw)) (x v h1 n1 _ e2 (call_frame hd e1 e3) e4 hlt hwr)
end

end Go.Proofs.YtcehhgppfahbkaaGreatDoor.Ev
namespace Go.Proofs.YtcehhgppfahbkaaGreatDoor.Ev
set_option linter.unusedVariables false
set_option linter.unusedSimpArgs false
open Go
section
variable {β : Type} {W : Nat → Prop} {n0 : Nat} {h h1 : H} {n n1 : Nat} {Q : β → H → Nat → Prop}

def InBlk (v : Value) (b : Nat) : Prop := ∃ o l c, v = .slice (some ⟨b, o, none⟩) l c
def Own (h : H) (lo n : Nat) (e : TypeId) (v : Value) (cs : List Value) : Prop := (v = .slice none 0 0 ∧ cs = []) ∨ ∃ b, v = .slice (some ⟨b, 0, none⟩) cs.length (CAP + cs.length) ∧ h.get b = some ⟨e, true, cs⟩ ∧ lo ≤ b ∧ b < n
theorem Own.nil (h : H) (lo n : Nat) (e : TypeId) : Own h lo n e (.slice none 0 0) [] := .inl ⟨rfl, rfl⟩
theorem InBlk.inj {b c o l k : Nat} (h : InBlk (.slice (some ⟨b, o, none⟩) l k) c) : c = b := by
  obtain ⟨_, _, _, h⟩ := h
  cases h
  rfl
theorem InBlk.not_nil {l k c : Nat} (h : InBlk (.slice none l k) c) : False := by
  obtain ⟨_, _, _, h⟩ := h
  cases h
theorem Own.lt {lo : Nat} {e : TypeId} {v : Value} {cs : List Value} (o : Own h lo n e v cs) {b : Nat} (hb : InBlk v b) : lo ≤ b ∧ b < n := by
  rcases o with ⟨rfl, _⟩ | ⟨c, rfl, _, h1, h2⟩
  · exact hb.not_nil.elim
  · rw [hb.inj]; exact ⟨h1, h2⟩
theorem Own.keep {lo : Nat} {e : TypeId} {v : Value} {cs : List Value} {h' : H} {n' : Nat} (o : Own h lo n e v cs) (hn : n ≤ n') (hk : ∀ b, InBlk v b → h'.get b = h.get b) : Own h' lo n' e v cs := by
  rcases o with q | ⟨c, rfl, hc, h1, h2⟩
  · exact .inl q
  · exact .inr ⟨c, rfl, (hk c ⟨_, _, _, rfl⟩).trans hc, h1, by omega⟩
theorem Own.low {lo lo' : Nat} {e : TypeId} {v : Value} {cs : List Value} (o : Own h lo n e v cs) (hl : lo' ≤ lo) : Own h lo' n e v cs := by
  rcases o with q | ⟨c, hv, hc, h1, h2⟩
  · exact .inl q
  · exact .inr ⟨c, hv, hc, by omega, h2⟩
theorem Own.mk' {lo b : Nat} {e : TypeId} {cs : List Value} (hg : h.get b = some ⟨e, true, cs⟩) (h1 : lo ≤ b) (h2 : b < n) {l : Nat} (hl : l = cs.length) : Own h lo n e (.slice (some ⟨b, 0, none⟩) l (CAP + l)) cs := .inr ⟨b, by rw [hl], hg, h1, h2⟩

def intsV (k : IntKind) (xs : List Int) : List Value := xs.map (Value.int k)
theorem intsV_len (k : IntKind) (xs : List Int) : (intsV k xs).length = xs.length := by unfold intsV; simp
theorem intsV_at {k : IntKind} {xs : List Int} {i : Nat} (h : i < xs.length) : (intsV k xs)[i]? = some (.int k (xs.getD i 0)) := by
  unfold intsV; simp [h]
theorem intsV_one (k : IntKind) (xs : List Int) : (intsV k xs).all one = true := by
  unfold intsV; simp [one]
def Row (h : H) (n : Nat) (e : TypeId) (k : IntKind) (v : Value) (xs : List Int) : Prop :=
  (∃ a c, v = .slice a 0 c ∧ (∀ b o, a ≠ some ⟨b, o, none⟩) ∧ xs = []) ∨ ∃ b off cap o cs, v = .slice (some ⟨b, off, none⟩) xs.length cap ∧ h.get b = some ⟨e, o, cs⟩ ∧ b < n ∧ off + xs.length ≤ cs.length ∧ (cs.drop off).take xs.length = intsV k xs ∧ xs.length ≤ cap
theorem Row.keep {e : TypeId} {k : IntKind} {v : Value} {xs : List Int} {h' : H} {n' : Nat} (r : Row h n e k v xs) (hn : n ≤ n') (hk : ∀ b, b < n → h'.get b = h.get b) : Row h' n' e k v xs := by
  rcases r with q | ⟨b, off, cap, o, cs, hv, hg, hb, r⟩
  · exact .inl q
  · exact .inr ⟨b, off, cap, o, cs, hv, (hk b hb).trans hg, by omega, r⟩
theorem Row.lt {e : TypeId} {k : IntKind} {v : Value} {xs : List Int} (r : Row h n e k v xs) {b : Nat} (hb : InBlk v b) : b < n := by
  rcases r with ⟨a, c, rfl, hne, _⟩ | ⟨c, off, cap, o, cs, rfl, hg, hbn, _⟩
  · obtain ⟨o, l, k, q⟩ := hb
    cases q
    exact absurd rfl (hne b o)
  · rw [hb.inj]; exact hbn
theorem Row.some {e : TypeId} {k : IntKind} {v : Value} {xs : List Int} (r : Row h n e k v xs) (h0 : 0 < xs.length) : ∃ b off cap o cs, v = .slice (some ⟨b, off, none⟩) xs.length cap ∧ h.get b = some ⟨e, o, cs⟩ ∧ b < n ∧ off + xs.length ≤ cs.length ∧ (cs.drop off).take xs.length = intsV k xs ∧ xs.length ≤ cap ∧ ∀ i, i < xs.length → cs[off + i]? = some (.int k (xs.getD i 0)) := by
  rcases r with ⟨a, c, _, _, rfl⟩ | ⟨b, off, cap, o, cs, hv, hg, hb, hl, ht, hc⟩
  · simp at h0
  · refine ⟨b, off, cap, o, cs, hv, hg, hb, hl, ht, hc, fun i hi => ?_⟩
    have := congrArg (fun z => z[i]?) ht
    simp only [List.getElem?_take, hi, if_true, List.getElem?_drop] at this
    rw [this, intsV_at hi]
theorem Row.len {e : TypeId} {k : IntKind} {v : Value} {xs : List Int} (r : Row h n e k v xs) : ∃ a c, v = .slice a xs.length c := by
  rcases r with ⟨a, c, rfl, _, rfl⟩ | ⟨b, off, cap, o, cs, rfl, _⟩
  · exact ⟨a, c, rfl⟩
  · exact ⟨_, cap, rfl⟩
theorem Own.row {lo : Nat} {e : TypeId} {k : IntKind} {v : Value} {xs : List Int} (o : Own h lo n e v (intsV k xs)) : Row h n e k v xs := by
  rcases o with ⟨rfl, q⟩ | ⟨b, rfl, hg, _, hb⟩
  · exact .inl ⟨none, 0, rfl, fun _ _ q => (nomatch q), by unfold intsV at q; simpa using q⟩
  · rw [intsV_len]
    exact .inr ⟨b, 0, CAP + xs.length, true, _, rfl, hg, hb, by rw [intsV_len]; omega, by rw [List.drop_zero, List.take_of_length_le (by rw [intsV_len]; omega)], by omega⟩
end

end Go.Proofs.YtcehhgppfahbkaaGreatDoor.Ev
namespace Go.Proofs.YtcehhgppfahbkaaGreatDoor.Ev
set_option linter.unusedVariables false
set_option linter.unusedSimpArgs false
open Go Go.RowKit

theorem cell_some {w : World} {b off : Nat} {v : Value} (h : w.cell? ⟨b, off, none⟩ = some v) : ∃ cs e fr, w.heap[b]? = some (.cells cs e fr) ∧ cs[off]? = some v := by
  unfold World.cell? at h
  cases ho : w.heap[b]? with
  | none => simp [ho] at h
  | some o =>
    cases o with
    | cells cs e fr => exact ⟨cs, e, fr, rfl, by simpa [ho] using h⟩
    | _ => simp [ho] at h
structure Laid (P : Program) (w : World) (m : Mp) (h : H) (n : Nat) : Prop where
  wr : WR P m w.heap.size h w.heap
  gl : Gl P m
  fresh : ∀ b, n ≤ b → m b = none
  own : ∀ b B, h.get b = some B → B.own = false
  glo : P.globals.size ≤ n
theorem laid_one {P : Program} {w : World} {g : Nat} (hg : g < P.globals.size) {cs : Array Value} {e e' : TypeId} {fr : Nat × Nat} (hw : w.heap[g]? = some (.cells cs e' fr)) {sz : Nat} (he : size? P e = some sz) {vs : List Value} (hl : vs.length ≤ cs.size) (hv : ∀ (k : Nat) (v : Value), vs[k]? = some v → cs[k]? = some v ∧ scalar v = true) :
    ∃ m, Laid P w m (H.set .nil g (some ⟨e, false, vs⟩)) P.globals.size := by
  have only : ∀ b B, (H.set .nil g (some ⟨e, false, vs⟩)).get b = some B → b = g ∧ B = ⟨e, false, vs⟩ := fun b B hb => by
    by_cases eb : b = g
    · subst eb
      rw [get_eq] at hb
      cases hb
      exact ⟨rfl, rfl⟩
    · rw [get_ne _ _ eb] at hb
      unfold H.get at hb
      rw [Tr.get_nil] at hb
      cases hb
  refine ⟨fun c => if c < P.globals.size then some ⟨c, 0, cs.size, sz, e'⟩ else none, ⟨fun b B hb => ?_, fun b b' B B' d d' hb hb' ho => ?_⟩, fun c hc => ⟨_, if_pos hc, rfl, rfl⟩, fun b hb => if_neg (by omega), fun b B hb => ?_, Nat.le_refl _⟩
  · obtain ⟨rfl, rfl⟩ := only b B hb
    exact ⟨_, cs, fr.1, fr.2, if_pos hg, hw, rfl, by simpa using hl, he, fun q => (by cases q), fun k v hk => ⟨v, by simpa using (hv k v hk).1, VR.self (hv k v hk).2⟩⟩
  · obtain ⟨rfl, _⟩ := only b B hb
    obtain ⟨rfl, _⟩ := only b' B' hb'
    exact fun _ _ _ => rfl
  · obtain ⟨_, rfl⟩ := only b B hb
    rfl
theorem laid_KG {P : Program} {w : World} (hG : GlobAt w) {g : Nat} (hg : g < P.globals.size) {e : TypeId} {sz : Nat} (he : size? P e = some sz) {vs : List Value} (h0 : 0 < vs.length) (hk : ∀ (k : Nat) (v : Value), vs[k]? = some v → (g, k, v) ∈ KG) (hs : vs.all scalar = true) :
    ∃ m, Laid P w m (H.set .nil g (some ⟨e, false, vs⟩)) P.globals.size := by
  have hc : ∀ (k : Nat) (v : Value), vs[k]? = some v → w.cell? ⟨g, k, none⟩ = some v := fun k v h => hG _ (hk k v h)
  obtain ⟨cs, e', fr, hw, _⟩ := cell_some (hc 0 vs[0] (List.getElem?_eq_getElem h0))
  have hc2 : ∀ (k : Nat) (v : Value), vs[k]? = some v → cs[k]? = some v := fun k v h => by
    have := hc k v h
    rwa [cell_eq w _ _ hw] at this
  refine laid_one hg hw he ?_ fun k v h => ⟨hc2 k v h, List.all_eq_true.1 hs v (List.mem_of_getElem? h)⟩
  have := (Array.getElem?_eq_some_iff.1 (hc2 (vs.length - 1) vs[vs.length - 1] (List.getElem?_eq_getElem (by omega)))).1
  omega
theorem closed_laid {P : Program} {bad : List FuncId} (hnm : okNames P = true) (hok : okProg P bad = true) (hmix : P.follows .mixedOrders = true) (hkn : Known P bad) {fuel : Nat} {f : FuncId} {w : World} {m : Mp} {h : H} (x : Laid P w m h P.globals.size) (hr : yieldsTrue (evCall P bad fuel f #[] h P.globals.size) = true) :
    Calls P f #[] w fun e w' => e = .returned (.bool true) ∧ Below w.heap.size w w' := by
  unfold yieldsTrue at hr
  split at hr
  · rename_i o ho
    obtain ⟨v, h1, n1, L⟩ := o
    simp only at hr
    split at hr
    · rename_i b hb
      subst hr
      refine (call_sim hnm hok hmix hkn fuel f #[] h P.globals.size _ h1 n1 L m w #[] ho x.wr (Nat.le_refl w.heap.size) .nil (fun b h1 _ => x.fresh b h1) x.gl).mono ?_
      rintro e w' ⟨m', v', rfl, hp, hv⟩
      refine ⟨?_, hp.below⟩
      cases hv
      rfl
    · cases hr
  · cases hr
theorem laid_call {P : Program} (hnm : okNames P = true) (hok : okProg P KN = true) (hmix : P.follows .mixedOrders = true) (hkn : Known P KN) (hd : okDsts P = true) {w : World} {m : Mp} {h : H} {n : Nat} (x : Laid P w m h n) {gt : Nat → Hint} {lf d : Nat} {f : FuncId} {args args' : Array Value} (ha : VRs m args.toList args'.toList)
    (r : Run (fun _ => False) n (evCall2 P gt lf d f args) h n fun v _ _ => v = .bool true) : Calls P f args' w fun e w' => e = .returned (.bool true) ∧ Below w.heap.size w w' := by
  obtain ⟨v, h1, n1, L, e1, hn, _, rfl⟩ := r
  obtain ⟨f0, hf0⟩ := call2_ok hd d f args h n _ h1 n1 L e1
  refine (call_sim hnm hok hmix hkn f0 f args h n _ h1 n1 L m w args' (hf0 f0 (Nat.le_refl _)) x.wr (Nat.le_refl _) ha (fun b hb _ => x.fresh b hb) x.gl).mono ?_
  rintro e w' ⟨m', v', rfl, hp, hv⟩
  refine ⟨?_, hp.below⟩
  cases hv
  rfl
end Go.Proofs.YtcehhgppfahbkaaGreatDoor.Ev
namespace Go.Proofs.YtcehhgppfahbkaaGreatDoor.Ev
set_option linter.unusedVariables false
set_option linter.unusedSimpArgs false
open Go

abbrev V3 := Value × Value × Value
section
variable {β : Type} {W : Nat → Prop} {n0 : Nat} {h : H} {n : Nat} {Q : β → H → Nat → Prop} {e : TypeId}
theorem run_klg {sz : Nat} (b off : Nat) (k : Value → M β) {B : AB} (hg : h.get b = some B) (hb : b < n) (hl : off + sz ≤ B.cells.length) (x : Run W n0 (k (.agg ((B.cells.drop off).take sz).toArray)) h n Q) : Run W n0 (klg sz (.pointer (some ⟨b, off, none⟩)) k) h n Q := by
  obtain ⟨L, e1, e2⟩ := rdN_run hg hb sz off hl
  refine run_ins ?_
  have e : ((rdN3 b off sz).bind fun vs => M.ret (Value.agg ⟨vs⟩)) h n = some ⟨.agg ((B.cells.drop off).take sz).toArray, h, n, L ++ []⟩ := by
    rw [rdN3_eq]
    exact bind_run e1 rfl
  obtain ⟨L', e3, e4⟩ := inside_ro (W := W) (n0 := n0) e (by simpa using e2)
  exact Run.step e3 (Nat.le_refl _) e4 x
theorem wrN_run : ∀ (vs : List Value) (b off : Nat) (e : TypeId) (cs : List Value) (h : H) (n : Nat), h.get b = some ⟨e, true, cs⟩ → b < n → off + vs.length ≤ cs.length → vs.all one = true →
    ∃ h' L, wrN b off vs h n = some ⟨(), h', n, L⟩ ∧ h'.get b = some ⟨e, true, cs.take off ++ vs ++ cs.drop (off + vs.length)⟩ ∧ (∀ c, c ≠ b → h'.get c = h.get c) ∧ ∀ x ∈ L, x.b = b
  | [], b, off, e, cs, h, n, hg, hb, hl, _ => ⟨h, [], rfl, by simpa using hg, fun _ _ => rfl, by simp⟩
  | v :: vs, b, off, e, cs, h, n, hg, hb, hl, h1 => by
    simp only [List.all_cons, Bool.and_eq_true] at h1
    simp only [List.length_cons] at hl
    have hw : wr b off v h n = some ⟨(), h.set b (some ⟨e, true, cs.set off v⟩), n, [⟨false, b, some off⟩, ⟨true, b, some off⟩]⟩ := by
      unfold wr
      have : off < cs.length := by omega
      simp [hb, hg, this, h1.1]
    obtain ⟨h', L, e1, e2, e3, e4⟩ := wrN_run vs b (off + 1) e (cs.set off v) (h.set b (some ⟨e, true, cs.set off v⟩)) n (get_eq _ _ _) hb (by simp; omega) h1.2
    refine ⟨h', _, bind_run hw e1, ?_, fun c hc => (e3 c hc).trans (get_ne _ _ hc), fun x hx => ?_⟩
    · rw [e2]
      congr 2
      have ha : (cs.set off v).take (off + 1) = cs.take off ++ [v] := by
        rw [List.take_set, List.take_succ_eq_append_getElem (by omega), List.set_append_right _ _ (by simp; omega)]
        simp [Nat.min_eq_left (show off ≤ cs.length by omega)]
      have hd : (cs.set off v).drop (off + 1 + vs.length) = cs.drop (off + (v :: vs).length) := by
        rw [List.drop_set_of_lt (by omega)]
        congr 1
        simp only [List.length_cons]; omega
      rw [ha, hd]
      simp
    · rcases List.mem_append.1 hx with q | q
      · simp at q; rcases q with rfl | rfl <;> rfl
      · exact e4 x q
theorem run_sta {T : Prop} (_ : T) {sz b off : Nat} {e : TypeId} {cs vs : List Value} {v : Value} (hv : v = .agg vs.toArray) (hl : vs.length = sz) (h1 : vs.all one = true) (hg : h.get b = some ⟨e, true, cs⟩) (hb : b < n) (ho : off + sz ≤ cs.length) (hw : n0 ≤ b ∨ W b) (k : Value → M β)
    (x : ∀ h', h'.get b = some ⟨e, true, cs.take off ++ vs ++ cs.drop (off + sz)⟩ → (∀ c, c ≠ b → h'.get c = h.get c) → Run W n0 (k undef) h' n Q) : Run W n0 (ksg sz (.pointer (some ⟨b, off, none⟩)) v k) h n Q := by
  obtain ⟨h', L, e1, e2, e3, e4⟩ := wrN_run vs b off e cs h n hg hb (by omega) h1
  subst hv
  have d : ksg sz (.pointer (some ⟨b, off, none⟩)) (.agg vs.toArray) k = insB ((wrN3 b off vs).bind fun _ => .ret undef) k := by
    show (match Nat.beq (lenV vs) sz with
      | true => insB ((wrN3 b off vs).bind fun _ => .ret undef) k
      | false => .fail) = _
    rw [lenV_eq, hl, Nat.beq_refl]
  rw [d]
  refine run_ins ?_
  have e5 : ((wrN3 b off vs).bind fun _ => M.ret undef) h n = some ⟨undef, h', n, L ++ []⟩ := by
    rw [wrN3_eq]
    exact bind_run e1 rfl
  refine Run.step (inside_run e5) (Nat.le_refl _) (fun y hy hy2 => ?_) (x h' (by rw [e2, hl]) e3)
  have := (List.mem_filter.1 hy).1
  rw [List.append_nil] at this
  rw [e4 y this]
  exact hw
end

end Go.Proofs.YtcehhgppfahbkaaGreatDoor.Ev
namespace Go.Proofs.YtcehhgppfahbkaaGreatDoor.Ev
set_option linter.unusedVariables false
set_option linter.unusedSimpArgs false
open Go Go.RowKit Go.WideShapes Go.ChangeShapes

def All2 {α β : Type} (R : α → β → Prop) : List α → List β → Prop
  | [], [] => True
  | a :: l, b :: m => R a b ∧ All2 R l m
  | _, _ => False
theorem All2.length {α β : Type} {R : α → β → Prop} : ∀ {l : List α} {m : List β}, All2 R l m → l.length = m.length
  | [], [], _ => rfl
  | _ :: _, _ :: _, h => by simp [All2.length h.2]
  | [], _ :: _, h => h.elim
  | _ :: _, [], h => h.elim
theorem All2.imp {α β : Type} {R S : α → β → Prop} : ∀ {l : List α} {m : List β}, (∀ a ∈ l, ∀ b, R a b → S a b) → All2 R l m → All2 S l m
  | [], [], _, _ => trivial
  | a :: _, _ :: _, h, x => ⟨h a (List.mem_cons_self ..) _ x.1, All2.imp (fun a ha => h a (List.mem_cons_of_mem _ ha)) x.2⟩
  | [], _ :: _, _, x => x.elim
  | _ :: _, [], _, x => x.elim
theorem All2.append {α β : Type} {R : α → β → Prop} : ∀ {l l' : List α} {m m' : List β}, All2 R l m → All2 R l' m' → All2 R (l ++ l') (m ++ m')
  | [], _, [], _, _, h => h
  | _ :: _, _, _ :: _, _, x, h => ⟨x.1, All2.append x.2 h⟩
  | [], _, _ :: _, _, x, _ => x.elim
  | _ :: _, _, [], _, x, _ => x.elim

def fieldTs (g : TypeId → Option (List TypeId)) : Nat → List Field → Option (List TypeId)
  | _, [] => some []
  | o, fd :: r => if fd.offset = o then (match g fd.type with
    | some ts => match fieldTs g (o + ts.length) r with
      | some rs => some (ts ++ rs)
      | none => none
    | none => none) else none
def cellTs (P : Program) : Nat → TypeId → Option (List TypeId)
  | 0, _ => none
  | f + 1, t => match P.underlying t with
    | some (.int _) | some .string | some .bool | some (.slice _) => if P.cellsOf t = 1 then some [t] else none
    | some (.struct fs) => match fieldTs (cellTs P f) 0 fs.toList with
      | some ts => if ts.length = P.cellsOf t then some ts else none
      | none => none
    | some (.array n e) => match cellTs P f e with
      | some ts => if n * ts.length = P.cellsOf t ∧ ts.length = P.cellsOf e then some (List.replicate n ts).flatten else none
      | none => none
    | _ => none
theorem fieldTs_some {g : TypeId → Option (List TypeId)} {o : Nat} {fd : Field} {r : List Field} {ts : List TypeId} (h : fieldTs g o (fd :: r) = some ts) : fd.offset = o ∧ ∃ a b, g fd.type = some a ∧ fieldTs g (o + a.length) r = some b ∧ ts = a ++ b := by
  unfold fieldTs at h
  split at h
  · rename_i h0
    split at h
    · rename_i a ha
      split at h
      · rename_i b hb
        cases h
        exact ⟨h0, a, b, ha, hb, rfl⟩
      · cases h
    · cases h
  · cases h
def Rep1 (P : Program) (w : World) : Nat → TypeId → Value → Prop
  | 0, _, _ => False
  | f + 1, t, v => match P.underlying t with
    | some (.int k) => ∃ n, v = .int k n ∧ (Lit.int k n).wf = true
    | some .string => ∃ s : ByteArray, v = .string s ∧ s.size ≤ maxLen
    | some .bool => ∃ b, v = .bool b
    | some (.slice e) => v = .slice none 0 0 ∨ ∃ a len cap ts, v = .slice (some a) len cap ∧ len ≤ cap ∧ cap ≤ maxLen ∧ cellTs P 8 e = some ts ∧ 0 < ts.length ∧ size? P e = some ts.length ∧
        ∀ i, i < cap → ∃ es : List Value, (∀ j u, es[j]? = some u → w.cell? (a.add (i * ts.length + j)) = some u) ∧ All2 (Rep1 P w f) ts es
    | _ => False
def okT (P : Program) : Nat → TypeId → Bool
  | 0, _ => false
  | f + 1, t => match P.underlying t with
    | some (.int _) | some .string | some .bool => true
    | some (.slice e) => match cellTs P 8 e with
      | some ts => decide (0 < ts.length) && decide (size? P e = some ts.length) && ts.all (okT P f)
      | none => false
    | _ => false
theorem cells?_get {w : World} {b : Nat} {a : Addr} {n : Nat} {es : List Value} (h : w.cells? b a n = some es) : es.length = n ∧ ∀ j u, es[j]? = some u → w.cell? (a.add j) = some u := by
  unfold World.cells? at h
  split at h
  · have hl := mapM_some_length h
    simp only [List.length_range] at hl
    refine ⟨hl, fun j u hj => ?_⟩
    have hjl := (List.getElem?_eq_some_iff.1 hj).1
    have := mapM_some_get h j j (by rw [List.getElem?_range (by omega)])
    rw [this]; exact hj
  · cases h
theorem add_add (a : Addr) (i j : Nat) : (a.add i).add j = a.add (i + j) := by
  unfold Addr.add
  by_cases hj : j = 0
  · subst hj; simp
  · by_cases hi : i = 0
    · subst hi; simp
    · have : ¬ (i + j = 0) := by omega
      simp only [hi, hj, this, if_false]
      congr 1
      omega
section
variable {H0 : Type} {enc : TypeId × Value → H0} {P : Program} {w : World} {held : Bool}
theorem fieldTs_cells {g : TypeId → Option (List TypeId)} {R : TypeId → Value → Prop} {cs : List Value} : ∀ (fs : List Field) (o : Nat) (ts : List TypeId), fieldTs g o fs = some ts → cs.length = o + ts.length →
    (∀ fd ∈ fs, ∀ a, g fd.type = some a → a.length = P.cellsOf fd.type ∧ All2 R a ((cs.drop fd.offset).take (P.cellsOf fd.type))) → All2 R ts (cs.drop o)
  | [], o, ts, h, hl, _ => by
    cases h
    rw [List.drop_eq_nil_of_le (by simp at hl; omega)]
    trivial
  | fd :: r, o, ts, h, hl, hf => by
    obtain ⟨h0, a, b, ha, hb, rfl⟩ := fieldTs_some h
    obtain ⟨hal, h2⟩ := hf fd (List.mem_cons_self ..) a ha
    have := fieldTs_cells r (o + a.length) b hb (by simp at hl; omega) fun fd hfd => hf fd (List.mem_cons_of_mem _ hfd)
    rw [h0, ← hal] at h2
    have e : cs.drop o = (cs.drop o).take a.length ++ cs.drop (o + a.length) := by rw [← List.drop_drop, List.take_append_drop]
    rw [e]
    exact h2.append this
theorem rep_cells {R : TypeId → Value → Prop} : ∀ (f : Nat) (t : TypeId) (cs : List Value) (ts : List TypeId) (m : Nat) (x : DataW H0 × List MemPlace), cellTs P f t = some ts →
    (∀ t' ∈ ts, ∀ v m x, DataW.trod enc P w 0 (fun _ => true) held m t' [v] = some x → R t' v) → DataW.trod enc P w 0 (fun _ => true) held m t cs = some x → ts.length = P.cellsOf t ∧ All2 R ts cs := by
  intro f
  induction f with
  | zero => intro t cs ts m x h; cases h
  | succ f ih =>
    intro t cs ts m x h hR hx
    unfold cellTs at h
    have one : ∀ v, cs = [v] → (if P.cellsOf t = 1 then some [t] else none) = some ts → ts.length = P.cellsOf t ∧ All2 R ts cs := by
      intro v hv hq
      subst hv
      by_cases hc : P.cellsOf t = 1
      · rw [if_pos hc] at hq
        cases hq
        exact ⟨hc.symm, hR t (List.mem_cons_self ..) v m x hx, trivial⟩
      · rw [if_neg hc] at hq; cases hq
    split at h
    · rename_i k hk
      obtain ⟨n, rfl, _⟩ := DataW.trod_int hk hx
      exact one _ rfl h
    · rename_i hk
      obtain ⟨n, rfl, _⟩ := DataW.trod_string hk hx
      exact one _ rfl h
    · rename_i hk
      obtain ⟨n, rfl, _⟩ := DataW.trod_bool hk hx
      exact one _ rfl h
    · rename_i e hk
      rcases DataW.trod_slice hk hx with ⟨rfl, _⟩ | ⟨a, len, cap, elems, rest, n, _, rfl, _⟩
      · exact one _ rfl h
      · exact one _ rfl h
    · rename_i fs hk
      split at h
      · rename_i ts' hts
        split at h
        · rename_i hlen
          cases h
          obtain ⟨xs, n, rfl, _, hcl, _, hall⟩ := DataW.trod_struct hk hx
          refine ⟨hlen, ?_⟩
          have := fieldTs_cells (P := P) (R := R) (cs := cs) fs.toList 0 ts hts (by omega) fun fd hfd a ha => ?_
          · simpa using this
          · obtain ⟨i, hi⟩ := List.mem_iff_getElem?.1 hfd
            have hi' : fs[i]? = some fd := by simpa using hi
            have hx2 := hall i fd hi'
            cases hxi : xs[i]? with
            | none => exact absurd hx2 (by
                rw [hxi]
                have := (Array.getElem?_eq_some_iff.1 hi').1
                have h3 : xs[i]? = none := hxi
                rw [List.getElem?_eq_none_iff] at h3
                omega)
            | some y =>
              rw [hxi] at hx2
              exact ih fd.type _ a n y ha (fun t' ht' => hR t' (by
                have : ∀ (l : List Field) (o : Nat) (ts : List TypeId), fieldTs (cellTs P f) o l = some ts → fd ∈ l → ∀ q ∈ a, q ∈ ts := by
                  intro l
                  induction l with
                  | nil => intro o ts _ hm; simp at hm
                  | cons g r ih2 =>
                    intro o ts hh hm q hq
                    obtain ⟨_, a2, b2, e1, e2, rfl⟩ := fieldTs_some hh
                    rcases List.mem_cons.1 hm with rfl | hm
                    · rw [ha] at e1; cases e1
                      exact List.mem_append.2 (.inl hq)
                    · exact List.mem_append.2 (.inr (ih2 _ _ e2 hm q hq))
                exact this fs.toList 0 ts hts hfd t' ht')) hx2
        · cases h
      · cases h
    · rename_i n e hk
      split at h
      · rename_i ts' hts
        split at h
        · rename_i hlen
          obtain ⟨hlen, hle⟩ := hlen
          obtain ⟨xs, m', rfl, _, hcl, hxn, hall⟩ := DataW.trod_array hk hx
          have hR' : n = 0 ∨ ∀ t' ∈ ts', t' ∈ ts := by
            rcases Nat.eq_zero_or_pos n with q | q
            · exact .inl q
            · refine .inr fun t' ht' => ?_
              cases h
              rw [List.mem_flatten]
              exact ⟨ts', List.mem_replicate.2 ⟨by omega, rfl⟩, ht'⟩
          have key : ∀ k, k ≤ n → All2 R (List.replicate k ts').flatten (cs.take (k * ts'.length)) := by
            intro k
            induction k with
            | zero => intro _; simp [All2]
            | succ k ihk =>
              intro hkn
              have h1 := ihk (by omega)
              have hx2 := hall k (by omega)
              cases hxi : xs[k]? with
              | none => rw [List.getElem?_eq_none_iff] at hxi; omega
              | some y =>
                rw [hxi] at hx2
                obtain ⟨h3, h4⟩ := ih e _ ts' m' y hts (fun t' ht' => hR t' (by
                  rcases hR' with q | q
                  · omega
                  · exact q t' ht')) hx2
                rw [← h3] at h4
                rw [List.replicate_succ', List.flatten_append, List.flatten_singleton]
                have e1 : cs.take ((k + 1) * ts'.length) = cs.take (k * ts'.length) ++ (cs.drop (k * ts'.length)).take ts'.length := by
                  rw [Nat.succ_mul, List.take_add]
                rw [e1]
                exact h1.append h4
          cases h
          refine ⟨?_, ?_⟩
          · rw [← hlen]; simp
          · have := key n (Nat.le_refl n)
            rwa [List.take_of_length_le (by omega)] at this
        · cases h
      · cases h
    · cases h
theorem rep1_of {f : Nat} : ∀ (t : TypeId) (v : Value) (m : Nat) (x : DataW H0 × List MemPlace), okT P f t = true → DataW.trod enc P w 0 (fun _ => true) held m t [v] = some x → Rep1 P w f t v := by
  induction f with
  | zero => intro t v m x h; cases h
  | succ f ih =>
    intro t v m x h hx
    unfold okT at h
    unfold Rep1
    split at h
    · rename_i k hk
      obtain ⟨n, e, _, hw⟩ := DataW.trod_int hk hx
      simp at e
      exact ⟨n, e, hw⟩
    · rename_i hk
      obtain ⟨s, e, _, hw⟩ := DataW.trod_string hk hx
      simp at e
      exact ⟨s, e, hw⟩
    · rename_i hk
      obtain ⟨b, e, _⟩ := DataW.trod_bool hk hx
      simp at e
      exact ⟨b, e⟩
    · rename_i e hk
      split at h
      · rename_i ts hts
        simp only [Bool.and_eq_true, decide_eq_true_eq, List.all_eq_true] at h
        obtain ⟨⟨h0, h1⟩, h2⟩ := h
        have hc : P.cellsOf e = ts.length := by
          unfold size? at h1
          unfold Program.cellsOf
          rw [h1]; rfl
        rcases DataW.trod_slice hk hx with ⟨hv, _⟩ | ⟨a, len, cap, elems, rest, n, _, hv, _, _, hl, hm, hlen, hel, hsp, _⟩
        · simp at hv
          exact .inl hv
        · simp at hv
          obtain ⟨hr, hrest⟩ := hsp rfl
          refine .inr ⟨a, len, cap, ts, hv, hl, hm, hts, h0, h1, fun i hi => ?_⟩
          have get : ∃ y, (w.cells? 0 (a.add (i * P.cellsOf e)) (P.cellsOf e)).bind (DataW.trod enc P w 0 (fun _ => true) held n e) = some y := by
            by_cases hil : i < len
            · rw [hel i hil]
              exact ⟨_, List.getElem?_eq_getElem (by omega)⟩
            · have := hrest (i - len) (by omega)
              rw [show len + (i - len) = i by omega] at this
              rw [this]
              exact ⟨_, List.getElem?_eq_getElem (by omega)⟩
          obtain ⟨y, hy⟩ := get
          rw [Option.bind_eq_some_iff] at hy
          obtain ⟨es, hes, hy⟩ := hy
          obtain ⟨_, hcell⟩ := cells?_get hes
          refine ⟨es, fun j u hj => ?_, (rep_cells 8 e es ts n y hts (fun t' ht' v m x hx => ih t' v m x (h2 t' ht') hx) hy).2⟩
          have := hcell j u hj
          rwa [add_add, hc] at this
      · cases h
    · cases h
end

def RepH1 (P : Program) (h : H) (n : Nat) : Nat → TypeId → Value → Prop
  | 0, _, _ => False
  | f + 1, t, v => match P.underlying t with
    | some (.int k) => ∃ n, v = .int k n ∧ (Lit.int k n).wf = true
    | some .string => ∃ s : ByteArray, v = .string s ∧ s.size ≤ maxLen
    | some .bool => ∃ b, v = .bool b
    | some (.slice e) => (∃ a, v = .slice a 0 0 ∧ ∀ b o, a ≠ some ⟨b, o, none⟩) ∨ ∃ b len ts cs, v = .slice (some ⟨b, 0, none⟩) len (CAP + len) ∧ cellTs P 8 e = some ts ∧ 0 < ts.length ∧ h.get b = some ⟨e, false, cs⟩ ∧ b < n ∧ cs.length = len * ts.length ∧ len ≤ maxLen ∧
        ∀ i, i < len → All2 (RepH1 P h n f) ts ((cs.drop (i * ts.length)).take ts.length)
    | _ => False
theorem RepH1.keep {P : Program} {h h' : H} {n n' : Nat} (hn : n ≤ n') (hk : ∀ b, b < n → h'.get b = h.get b) : ∀ {f : Nat} {t : TypeId} {v : Value}, RepH1 P h n f t v → RepH1 P h' n' f t v := by
  intro f
  induction f with
  | zero => intro t v x; exact x
  | succ f ih =>
    intro t v x
    unfold RepH1 at x ⊢
    split at x
    · exact x
    · exact x
    · exact x
    · rcases x with q | ⟨b, len, ts, cs, hv, ht, h0, hg, hb, hl, hm, hall⟩
      · exact .inl q
      · exact .inr ⟨b, len, ts, cs, hv, ht, h0, (hk b hb).trans hg, by omega, hl, hm, fun i hi => (hall i hi).imp fun _ _ _ q => ih q⟩
    · exact x
theorem laid_block {P : Program} {w : World} {m : Mp} {h : H} {n : Nat} (x : Laid P w m h n) {b off len cap : Nat} {cs : Array Value} {e' : TypeId} {fr : Nat × Nat} (hg : w.heap[b]? = some (.cells cs e' fr)) {e : TypeId} {sz : Nat} (he : size? P e = some sz) {vs vs' : List Value} (hv : VRs m vs vs')
    (hat : ∀ i v, vs'[i]? = some v → cs[off + i]? = some v) (hlen : vs.length = len * sz) (hl : len ≤ cap) (hc : off + cap * sz ≤ cs.size) :
    ∃ m', Laid P w m' (h.set n (some ⟨e, false, vs⟩)) (n + 1) ∧ VR m' (.slice (some ⟨n, 0, none⟩) len (CAP + len)) (.slice (some ⟨b, off, none⟩) len cap) ∧ Le m m' := by
  let m' : Mp := fun c => if c = n then some ⟨b, off, cs.size, sz, e'⟩ else m c
  have hle : Le m m' := fun c d hd => by
    by_cases ec : c = n
    · subst ec; rw [x.fresh c (Nat.le_refl c)] at hd; cases hd
    · show (if c = n then _ else _) = _; rw [if_neg ec]; exact hd
  let h' : H := h.set n (some ⟨e, false, vs⟩)
  have hn : m' n = some ⟨b, off, cs.size, sz, e'⟩ := if_pos rfl
  have hgn : h'.get n = some ⟨e, false, vs⟩ := get_eq _ _ _
  have hmul : len * sz ≤ cap * sz := Nat.mul_le_mul_right _ hl
  have hown : ∀ c C, h'.get c = some C → C.own = false := fun c C hcC => by
    by_cases ec : c = n
    · subst ec; rw [hgn] at hcC; cases hcC; rfl
    · rw [get_ne _ _ ec] at hcC; exact x.own c C hcC
  refine ⟨m', ⟨⟨?_, ?_⟩, x.gl.mono hle, fun c hc => ?_, hown, by have := x.glo; omega⟩, .slc hn (fun _ => rfl) (fun q => by unfold CAP at q; omega) (fun _ => ⟨Nat.le_refl _, by omega⟩) hl hc, hle⟩
  · intro c C hcC
    by_cases ec : c = n
    · subst ec
      rw [hgn] at hcC
      cases hcC
      refine ⟨_, cs, fr.1, fr.2, hn, hg, rfl, by show off + vs.length ≤ cs.size; omega, he, fun q => (by cases q), fun k u hu => ?_⟩
      obtain ⟨u', hu', hr⟩ := hv.get k u hu
      exact ⟨u', hat k u' hu', hr.mono hle⟩
    · rw [get_ne _ _ ec] at hcC
      obtain ⟨d, cs2, lo, hi, hm, hg2, h1, h2, h3, h4, h5⟩ := x.wr.live c C hcC
      refine ⟨d, cs2, lo, hi, hle _ _ hm, hg2, h1, h2, h3, h4, fun k u hu => ?_⟩
      obtain ⟨u', hu', hr⟩ := h5 k u hu
      exact ⟨u', hu', hr.mono hle⟩
  · intro c c' C C' d d' hcC hcC' ho
    rw [hown c C hcC, hown c' C' hcC'] at ho
    simp at ho
  · show (if c = n then _ else _) = none
    rw [if_neg (by omega)]
    exact x.fresh c (by omega)
def LayOk (P : Program) (w : World) (R : TypeId → Value → Prop) (S : H → Nat → TypeId → Value → Prop) : Prop := ∀ t v, R t v → ∀ m h n, Laid P w m h n → ∃ m' h' n' v0, Laid P w m' h' n' ∧ VR m' v0 v ∧ S h' n' t v0 ∧ Le m m' ∧ n ≤ n' ∧ ∀ b, b < n → h'.get b = h.get b
theorem VRs.mono' {m m' : Mp} (hl : Le m m') {l l' : List Value} (h : VRs m l l') : VRs m' l l' := VRs.mono hl h
theorem lay_list {P : Program} {w : World} {R : TypeId → Value → Prop} {S : H → Nat → TypeId → Value → Prop} (hk : ∀ (h h' : H) (n n' : Nat), n ≤ n' → (∀ b, b < n → h'.get b = h.get b) → ∀ t v, S h n t v → S h' n' t v) (ok : LayOk P w R S) :
    ∀ (ts : List TypeId) (vs : List Value), All2 R ts vs → ∀ m h n, Laid P w m h n → ∃ m' h' n' vs0, Laid P w m' h' n' ∧ VRs m' vs0 vs ∧ All2 (S h' n') ts vs0 ∧ Le m m' ∧ n ≤ n' ∧ ∀ b, b < n → h'.get b = h.get b
  | [], [], _, m, h, n, x => ⟨m, h, n, [], x, .nil, trivial, Le.refl _, Nat.le_refl _, fun _ _ => rfl⟩
  | t :: ts, v :: vs, hr, m, h, n, x => by
    obtain ⟨m1, h1, n1, v0, x1, hv, hs, l1, g1, k1⟩ := ok t v hr.1 m h n x
    obtain ⟨m2, h2, n2, vs0, x2, hvs, hss, l2, g2, k2⟩ := lay_list hk ok ts vs hr.2 m1 h1 n1 x1
    exact ⟨m2, h2, n2, v0 :: vs0, x2, .cons (hv.mono l2) hvs, ⟨hk _ _ _ _ g2 k2 _ _ hs, hss⟩, l1.trans l2, by omega, fun b hb => (k2 b (by omega)).trans (k1 b hb)⟩
  | [], _ :: _, hr, _, _, _, _ => hr.elim
  | _ :: _, [], hr, _, _, _, _ => hr.elim
theorem drop_take_append {α : Type} {l r : List α} {k c : Nat} (h : k + c ≤ l.length) : ((l ++ r).drop k).take c = (l.drop k).take c := by
  rw [List.drop_append_of_le_length (by omega), List.take_append_of_le_length (by simp; omega)]
theorem lay_elems {P : Program} {w : World} {R : TypeId → Value → Prop} {S : H → Nat → TypeId → Value → Prop} (hk : ∀ (h h' : H) (n n' : Nat), n ≤ n' → (∀ b, b < n → h'.get b = h.get b) → ∀ t v, S h n t v → S h' n' t v) (ok : LayOk P w R S) {ts : List TypeId} {a : Addr} :
    ∀ (len : Nat), (∀ i, i < len → ∃ es : List Value, (∀ j u, es[j]? = some u → w.cell? (a.add (i * ts.length + j)) = some u) ∧ All2 R ts es) → ∀ m h n, Laid P w m h n →
      ∃ m' h' n' vs0 vs, Laid P w m' h' n' ∧ VRs m' vs0 vs ∧ vs.length = len * ts.length ∧ (∀ i u, vs[i]? = some u → w.cell? (a.add i) = some u) ∧ (∀ i, i < len → All2 (S h' n') ts ((vs0.drop (i * ts.length)).take ts.length)) ∧ Le m m' ∧ n ≤ n' ∧ ∀ b, b < n → h'.get b = h.get b := by
  intro len
  induction len with
  | zero => intro _ m h n x; exact ⟨m, h, n, [], [], x, .nil, by simp, fun i u hu => by simp at hu, fun i hi => by omega, Le.refl _, Nat.le_refl _, fun _ _ => rfl⟩
  | succ len ih =>
    intro hel m h n x
    obtain ⟨m1, h1, n1, vs0, vs, x1, hv, hl, hc, hs, l1, g1, k1⟩ := ih (fun i hi => hel i (by omega)) m h n x
    obtain ⟨es, he1, he2⟩ := hel len (by omega)
    obtain ⟨m2, h2, n2, es0, x2, hv2, hs2, l2, g2, k2⟩ := lay_list hk ok ts es he2 m1 h1 n1 x1
    have hl0 : vs0.length = len * ts.length := by rw [hv.length, hl]
    have hel0 : es0.length = ts.length := hs2.length.symm
    have hel1 : es.length = ts.length := he2.length.symm
    refine ⟨m2, h2, n2, vs0 ++ es0, vs ++ es, x2, (hv.mono' l2).append hv2, by rw [List.length_append, hl, hel1, Nat.succ_mul], fun i u hu => ?_, fun i hi => ?_, l1.trans l2, by omega, fun b hb => (k2 b (by omega)).trans (k1 b hb)⟩
    · by_cases hi : i < vs.length
      · rw [List.getElem?_append_left hi] at hu
        exact hc i u hu
      · rw [List.getElem?_append_right (by omega)] at hu
        have := he1 _ u hu
        rwa [show len * ts.length + (i - vs.length) = i by omega] at this
    · by_cases hil : i < len
      · have hle : i * ts.length + ts.length ≤ vs0.length := by
          rw [hl0, ← Nat.succ_mul]; exact Nat.mul_le_mul_right _ hil
        rw [drop_take_append hle]
        exact (hs i hil).imp fun _ _ _ q => hk _ _ _ _ g2 k2 _ _ q
      · obtain rfl : i = len := by omega
        rw [← hl0, List.drop_left, ← hel0, List.take_length]
        exact hs2
theorem lay1 {P : Program} {w : World} : ∀ (f : Nat), LayOk P w (Rep1 P w f) (fun h n => RepH1 P h n f) := by
  intro f
  induction f with
  | zero => intro t v hr; exact hr.elim
  | succ f ih =>
    intro t v hr m h n x
    unfold Rep1 at hr
    have same : ∀ v0, VR m v0 v → RepH1 P h n (f + 1) t v0 → ∃ m' h' n' v0, Laid P w m' h' n' ∧ VR m' v0 v ∧ RepH1 P h' n' (f + 1) t v0 ∧ Le m m' ∧ n ≤ n' ∧ ∀ b, b < n → h'.get b = h.get b :=
      fun v0 h1 h2 => ⟨m, h, n, v0, x, h1, h2, Le.refl _, Nat.le_refl _, fun _ _ => rfl⟩
    split at hr
    · rename_i k hk
      obtain ⟨z, rfl, hw⟩ := hr
      exact same _ (.int k z) (by unfold RepH1; rw [hk]; exact ⟨z, rfl, hw⟩)
    · rename_i hk
      obtain ⟨z, rfl, hw⟩ := hr
      exact same _ (.string z) (by unfold RepH1; rw [hk]; exact ⟨z, rfl, hw⟩)
    · rename_i hk
      obtain ⟨z, rfl⟩ := hr
      exact same _ (.bool z) (by unfold RepH1; rw [hk]; exact ⟨z, rfl⟩)
    · rename_i e hk
      rcases hr with rfl | ⟨a, len, cap, ts, rfl, hl, hm, hts, h0, hsz, hel⟩
      · exact same _ (.snil 0 0 ⟨Nat.le_refl _, by unfold CAP; omega⟩) (by unfold RepH1; rw [hk]; exact .inl ⟨none, rfl, fun _ _ => by simp⟩)
      · by_cases hc0 : cap = 0
        · obtain rfl : len = 0 := by omega
          subst hc0
          exact same (.slice (some ⟨0, 0, some 0⟩) 0 0) (.semp 0 0 0 a) (by unfold RepH1; rw [hk]; exact .inl ⟨_, rfl, fun b o q => by simp at q⟩)
        · have first : ∃ b off, a = ⟨b, off, none⟩ ∧ ∃ cs e' fr, w.heap[b]? = some (.cells cs e' fr) ∧ off + cap * ts.length ≤ cs.size := by
            obtain ⟨es, he1, he2⟩ := hel (cap - 1) (by omega)
            obtain ⟨es', he1', he2'⟩ := hel 0 (by omega)
            have hl1 := he2.length
            have hl2 := he2'.length
            have c0 := he1' 0 es'[0] (by simp)
            obtain ⟨b, off, spot⟩ := a
            have hspot : spot = none := by simpa [Addr.add] using World.cell?_spot c0
            subst hspot
            obtain ⟨cs, e', fr, hg, _⟩ := cell_some (by rw [add0] at c0; exact c0)
            refine ⟨b, off, rfl, cs, e', fr, hg, ?_⟩
            have cl := he1 (ts.length - 1) es[ts.length - 1] (List.getElem?_eq_getElem (by omega))
            rw [add0, cell_eq w _ _ hg] at cl
            have hlt := (Array.getElem?_eq_some_iff.1 cl).1
            have hmul : (cap - 1) * ts.length + ts.length = cap * ts.length := by
              rw [← Nat.succ_mul]; congr 1; omega
            omega
          obtain ⟨b, off, rfl, cs, e', fr, hg, hfit⟩ := first
          obtain ⟨m1, h1, n1, vs0, vs, x1, hv, hvl, hcell, hs, l1, g1, k1⟩ := lay_elems (S := fun h n => RepH1 P h n f) (fun _ _ _ _ hn hk _ _ q => RepH1.keep hn hk q) ih len (fun i hi => hel i (by omega)) m h n x
          obtain ⟨m2, x2, hv2, l2⟩ := laid_block (len := len) (cap := cap) (off := off) x1 hg hsz hv (fun i u hu => by
            have := hcell i u hu
            rwa [add0, cell_eq w _ _ hg] at this) (by rw [hv.length, hvl]) hl hfit
          have kk : ∀ c, c < n1 → (h1.set n1 (some ⟨e, false, vs0⟩)).get c = h1.get c := fun c hc => get_ne _ _ (by omega)
          refine ⟨m2, _, n1 + 1, _, x2, hv2, ?_, l1.trans l2, by omega, fun c hc => (kk c (by omega)).trans (k1 c hc)⟩
          show RepH1 P _ (n1 + 1) (f + 1) t _
          unfold RepH1
          rw [hk]
          refine .inr ⟨n1, len, ts, vs0, rfl, hts, h0, get_eq _ _ _, Nat.lt_succ_self n1, by rw [hv.length, hvl], by omega, fun i hi => (hs i hi).imp fun _ _ _ q => RepH1.keep (Nat.le_succ n1) kk q⟩
    · exact hr.elim

def isAggT (P : Program) (t : TypeId) : Bool := match P.underlying t with
  | some (.struct _) | some (.array _ _) => true
  | _ => false
def ArgR (P : Program) (w : World) (t : TypeId) (v : Value) : Prop := ∃ ts, cellTs P 8 t = some ts ∧ All2 (Rep1 P w 8) ts v.cells.toList ∧ (isAggT P t = true → ∃ cs, v = .agg cs) ∧ (isAggT P t = false → v.cells = #[v])
def ArgH (P : Program) (h : H) (n : Nat) (t : TypeId) (v : Value) : Prop := ∃ ts, cellTs P 8 t = some ts ∧ ((isAggT P t = true ∧ ∃ cs, v = .agg cs ∧ All2 (RepH1 P h n 8) ts cs.toList) ∨ (isAggT P t = false ∧ All2 (RepH1 P h n 8) ts [v]))
def okA (P : Program) (t : TypeId) : Bool := match cellTs P 8 t with
  | some ts => ts.all (okT P 8)
  | none => false
theorem argR_of {H0 : Type} {enc : TypeId × Value → H0} {P : Program} {w : World} {held : Bool} {r : Reach} {b0 : Nat} {t : TypeId} {v : Value} {d : DataW H0} {p : List MemPlace} (ho : okA P t = true) (hv : Value.okWide P w r b0 t v) (h : DataW.Trod enc P w 0 (fun _ => true) held t v d p) : ArgR P w t v := by
  unfold okA at ho
  split at ho
  · rename_i ts hts
    rw [List.all_eq_true] at ho
    obtain ⟨m, hm⟩ := h
    have hc := rep_cells (R := Rep1 P w 8) 8 t v.cells.toList ts m _ hts (fun t' ht' u m x hx => rep1_of t' u m x (ho t' ht') hx) hm
    refine ⟨ts, hts, hc.2, fun ha => ?_, fun ha => ?_⟩
    · unfold isAggT at ha
      split at ha
      · rename_i fs hk
        obtain ⟨cs, e, _⟩ := okWide_struct hk hv
        exact ⟨cs, e⟩
      · rename_i q e hk
        simp only [Value.okWide, hk] at hv
        obtain ⟨cs, e, _⟩ := hv
        exact ⟨cs, e⟩
      · cases ha
    · have hcell : P.cellsOf t = 1 ∨ True := .inr trivial
      unfold cellTs at hts
      unfold isAggT at ha
      split at hts
      · rename_i k hk
        obtain ⟨n, e⟩ := okWide_int hk hv
        rw [e]; rfl
      · rename_i hk
        obtain ⟨n, e⟩ := okWide_string hk hv
        rw [e]; rfl
      · rename_i hk
        obtain ⟨n, e⟩ := okWide_bool hk hv
        rw [e]; rfl
      · rename_i e hk
        obtain ⟨a, l, c, e⟩ := okWide_slice hk hv
        rw [e]; rfl
      · rename_i fs hk
        rw [hk] at ha
        cases ha
      · rename_i q e hk
        rw [hk] at ha
        cases ha
      · cases hts
  · cases ho
theorem lay_arg {P : Program} {w : World} : LayOk P w (ArgR P w) (ArgH P) := by
  intro t v hr m h n x
  obtain ⟨ts, hts, hall, ha, hb⟩ := hr
  obtain ⟨m1, h1, n1, vs0, x1, hv, hs, l1, g1, k1⟩ := lay_list (S := fun h n => RepH1 P h n 8) (fun _ _ _ _ hn hk _ _ q => RepH1.keep hn hk q) (lay1 8) ts _ hall m h n x
  cases hg : isAggT P t with
  | true =>
    obtain ⟨cs, rfl⟩ := ha hg
    exact ⟨m1, h1, n1, .agg vs0.toArray, x1, .agg hv, ⟨ts, hts, .inl ⟨hg, vs0.toArray, rfl, hs⟩⟩, l1, g1, k1⟩
  | false =>
    have hc := hb hg
    rw [hc] at hv
    cases hv with
    | cons hv ht =>
      cases ht
      exact ⟨m1, h1, n1, _, x1, hv, ⟨ts, hts, .inr ⟨hg, hs⟩⟩, l1, g1, k1⟩
theorem ArgH.keep {P : Program} {h h' : H} {n n' : Nat} (hn : n ≤ n') (hk : ∀ b, b < n → h'.get b = h.get b) {t : TypeId} {v : Value} (x : ArgH P h n t v) : ArgH P h' n' t v := by
  obtain ⟨ts, hts, q⟩ := x
  rcases q with ⟨h1, cs, h2, h3⟩ | ⟨h1, h2⟩
  · exact ⟨ts, hts, .inl ⟨h1, cs, h2, h3.imp fun _ _ _ q => RepH1.keep hn hk q⟩⟩
  · exact ⟨ts, hts, .inr ⟨h1, h2.imp fun _ _ _ q => RepH1.keep hn hk q⟩⟩
theorem law_of {P : Program} (hnm : okNames P = true) (hok : okProg P KN = true) (hmix : P.follows .mixedOrders = true) (hkn : Known P KN) (hd : okDsts P = true) {w : World} {gt : Nat → Hint} {lf d : Nat} {f : FuncId} {ts : List TypeId} {vs : List Value} (ha : All2 (ArgR P w) ts vs) {m0 : Mp} {h0 : H} (x0 : Laid P w m0 h0 P.globals.size)
    (r : ∀ n h vs0, P.globals.size ≤ n → (∀ b, b < P.globals.size → h.get b = h0.get b) → All2 (ArgH P h n) ts vs0 → Run (fun _ => False) n (evCall2 P gt lf d f vs0.toArray) h n fun v _ _ => v = .bool true) : Calls P f vs.toArray w fun e w' => e = .returned (.bool true) ∧ Below w.heap.size w w' := by
  obtain ⟨m1, h1, n1, vs0, x1, hv, hs, _, g1, k1⟩ := lay_list (S := ArgH P) (fun _ _ _ _ hn hk _ _ q => ArgH.keep hn hk q) lay_arg ts vs ha m0 h0 _ x0
  exact laid_call hnm hok hmix hkn hd x1 hv (r n1 h1 vs0 g1 k1 hs)

end Go.Proofs.YtcehhgppfahbkaaGreatDoor.Ev
namespace Go.Proofs.YtcehhgppfahbkaaGreatDoor.Ev
set_option linter.unusedVariables false
set_option linter.unusedSimpArgs false
open Go Go.RowKit

end Go.Proofs.YtcehhgppfahbkaaGreatDoor.Ev
namespace Go.Proofs.YtcehhgppfahbkaaGreatDoor.Ev
set_option linter.unusedVariables false
set_option linter.unusedSimpArgs false
open Go Go.RowKit

section
variable {P : Program} {h : H} {n f : Nat} {t : TypeId} {v : Value}
theorem rep_int {k : IntKind} (hu : P.underlying t = some (.int k)) (x : RepH1 P h n (f + 1) t v) : ∃ i, v = .int k i ∧ (Lit.int k i).wf = true := by
  unfold RepH1 at x
  rw [hu] at x
  exact x
theorem rep_str (hu : P.underlying t = some .string) (x : RepH1 P h n (f + 1) t v) : ∃ l : List UInt8, v = .string ⟨l.toArray⟩ ∧ l.length ≤ maxLen := by
  unfold RepH1 at x
  rw [hu] at x
  obtain ⟨s, hv, hs⟩ := x
  exact ⟨s.data.toList, by rw [hv], by rw [← str_size, ← str_of]; exact hs⟩
theorem argH_cell (hc : cellTs P 8 t = some [t]) (hg : isAggT P t = false) (x : ArgH P h n t v) : RepH1 P h n 8 t v := by
  obtain ⟨ts, hts, q⟩ := x
  rw [hc] at hts
  cases hts
  rcases q with ⟨h1, _⟩ | ⟨_, h2⟩
  · rw [hg] at h1; cases h1
  · exact h2.1
theorem argH_agg {ts : List TypeId} (hc : cellTs P 8 t = some ts) (hg : isAggT P t = true) (x : ArgH P h n t v) : ∃ cs : List Value, v = .agg cs.toArray ∧ All2 (RepH1 P h n 8) ts cs := by
  obtain ⟨ts', hts, q⟩ := x
  rw [hc] at hts
  cases hts
  rcases q with ⟨_, cs, hv, h2⟩ | ⟨h1, _⟩
  · exact ⟨cs.toList, by rw [hv], h2⟩
  · rw [hg] at h1; cases h1
theorem all2_2 {α β : Type} {R : α → β → Prop} {a a' : α} {l : List β} (x : All2 R [a, a'] l) : ∃ b b', l = [b, b'] ∧ R a b ∧ R a' b' := by
  match l, x with
  | [b, b'], x => exact ⟨b, b', rfl, x.1, x.2.1⟩
theorem all2_3 {α β : Type} {R : α → β → Prop} {a a' a'' : α} {l : List β} (x : All2 R [a, a', a''] l) : ∃ b b' b'', l = [b, b', b''] ∧ R a b ∧ R a' b' ∧ R a'' b'' := by
  match l, x with
  | [b, b', b''], x => exact ⟨b, b', b'', rfl, x.1, x.2.1, x.2.2.1⟩
end

end Go.Proofs.YtcehhgppfahbkaaGreatDoor.Ev
namespace Go.Proofs.YtcehhgppfahbkaaGreatDoor.Ev
set_option linter.unusedVariables false
set_option linter.unusedSimpArgs false
open Go Go.RowKit

section
variable {P : Program} {w : World} {f : Nat} {t : TypeId} {v : Value}
end

end Go.Proofs.YtcehhgppfahbkaaGreatDoor.Ev
namespace Go.Proofs.YtcehhgppfahbkaaGreatDoor.Ev
set_option linter.unusedVariables false
set_option linter.unusedSimpArgs false
open Go Go.RowKit

end Go.Proofs.YtcehhgppfahbkaaGreatDoor.Ev
namespace Go.Proofs.YtcehhgppfahbkaaGreatDoor.Ev
set_option linter.unusedVariables false
set_option linter.unusedSimpArgs false
open Go Go.RowKit
section
variable {β : Type} {W : Nat → Prop} {n0 : Nat} {h : H} {n : Nat} {Q : β → H → Nat → Prop} {P : Program}
theorem run_lda0 {T T' : Prop} (_ : T) (_ : T') {sz : Nat} (b off : Nat) (k : Value → M β) {B : AB} (hg : h.get b = some B) (hb : b < n) (hl : off + sz ≤ B.cells.length) (x : Run W n0 (k (.agg ((B.cells.drop off).take sz).toArray)) h n Q) : Run W n0 (klg sz (.pointer (some ⟨b, off, none⟩)) k) h n Q := run_klg b off k hg hb hl x
theorem clash_ro {a b : Tk} (h1 : ∀ e ∈ a.log, e.wr = false) (h2 : ∀ e ∈ b.log, e.wr = false) (h3 : ∀ e ∈ a.log, e.b < b.n) (h4 : ∀ e ∈ b.log, e.b < a.n) : a.clash b = false := by
  unfold Tk.clash
  simp only [Bool.or_eq_false_iff, List.any_eq_false, Bool.and_eq_true, decide_eq_true_eq, not_and]
  refine ⟨⟨⟨fun x hx hw => ?_, fun x hx hw => ?_⟩, fun x hx hle => ?_⟩, fun x hx hle => ?_⟩
  · rw [h1 x hx] at hw; cases hw
  · rw [h2 x hx] at hw; cases hw
  · have := h3 x hx; omega
  · have := h4 x hx; omega
end

end Go.Proofs.YtcehhgppfahbkaaGreatDoor.Ev
namespace Go.Proofs.YtcehhgppfahbkaaGreatDoor.Ev
set_option linter.unusedVariables false
set_option linter.unusedSimpArgs false
open Go Go.RowKit
def u8V (ws : List Nat) : List Value := ws.map fun (x : Nat) => Value.int .u8 (x : Int)
theorem u8V_len (ws : List Nat) : (u8V ws).length = ws.length := by unfold u8V; simp
theorem u8V_app (a b : List Nat) : u8V (a ++ b) = u8V a ++ u8V b := by unfold u8V; simp
def bS (ws : List Nat) : List UInt8 := ws.map UInt8.ofNat
theorem bytesL_u8 : ∀ ws : List Nat, bytesL (u8V ws) = some (bS ws)
  | [] => rfl
  | x :: ws => by
    show (match bytesL (u8V ws) with
      | some l => some (UInt8.ofNat ((x : Int)).toNat :: l)
      | none => none) = _
    rw [bytesL_u8 ws]
    rfl
section
variable {β : Type} {W : Nat → Prop} {n0 : Nat} {h : H} {n : Nat} {Q : β → H → Nat → Prop} {P : Program}
theorem run_toStr {b off cp : Nat} {B : AB} {ws : List Nat} (hg : h.get b = some B) (hb : b < n) (hl : off + ws.length ≤ B.cells.length) (hc : (B.cells.drop off).take ws.length = u8V ws) (k : Value → M β) (y : Run W n0 (k (.string ⟨(bS ws).toArray⟩)) h n Q) : Run W n0 (kts (.slice (some ⟨b, off, none⟩) ws.length cp) k) h n Q := by
  obtain ⟨L, e1, e2⟩ := rdN_run (n := n) hg hb ws.length off hl
  rw [hc] at e1
  refine run_ins ?_
  have e : ((rdN3 b off ws.length).bind fun vs => match bytesL vs with
      | some l => M.ret (Value.string ⟨⟨l⟩⟩)
      | none => .fail) h n = some ⟨.string ⟨(bS ws).toArray⟩, h, n, L ++ []⟩ := by
    rw [rdN3_eq]
    refine bind_run e1 ?_
    rw [bytesL_u8]
    rfl
  obtain ⟨L', e3, e4⟩ := inside_ro (W := W) (n0 := n0) e (by simpa using e2)
  exact Run.step e3 (Nat.le_refl _) e4 y
theorem run_toStrO {lo : Nat} {e : TypeId} {v : Value} {ws : List Nat} (o : Own h lo n e v (u8V ws)) (k : Value → M β) (y : Run W n0 (k (.string ⟨(bS ws).toArray⟩)) h n Q) : Run W n0 (kts v k) h n Q := by
  rcases o with ⟨rfl, hw⟩ | ⟨b, rfl, hg, _, hb⟩
  · have : ws = [] := by unfold u8V at hw; simpa using hw
    subst this
    exact y
  · rw [u8V_len]
    exact run_toStr (B := ⟨e, true, u8V ws⟩) hg hb (by simp [u8V_len]) (by rw [List.drop_zero, ← u8V_len ws, List.take_length]) k y
theorem run_pushW {T : Prop} (c : T) {e : TypeId} {x : Value} (hx : one x = true) {lo : Nat} {v : Value} {cs : List Value} (o : Own h lo n e v cs) (hm : cs.length + 1 ≤ 1099511627776) (hw : ∀ b, InBlk v b → n0 ≤ b ∨ W b) (k : Value → M β)
    (y : ∀ h', h'.get (n + 1) = some ⟨e, true, cs ++ [x]⟩ → (∀ b, b < n → ¬ InBlk v b → h'.get b = h.get b) → Run W n0 (k (.slice (some ⟨n + 1, 0, none⟩) (cs.length + 1) (CAP + (cs.length + 1)))) h' (n + 2) Q) : Run W n0 (kb1 e 1 x fun w => kap e 1 v w k) h n Q := by
  rcases o with ⟨rfl, rfl⟩ | ⟨b, rfl, hb, h1, h2⟩
  · exact run_push0 c hx k (y _ (get_eq _ _ _) fun b hb _ => by rw [get_ne _ _ (by omega), get_ne _ _ (by omega)])
  · refine run_push c hx hb h2 rfl hm (by omega) (hw b ⟨_, _, _, rfl⟩) k (y _ (get_eq _ _ _) fun c hc hn => ?_)
    have : c ≠ b := fun e => hn ⟨0, _, _, by rw [e]⟩
    rw [get_ne _ _ (by omega), get_ne _ _ this, get_ne _ _ (by omega)]
end

end Go.Proofs.YtcehhgppfahbkaaGreatDoor.Ev
namespace Go.Proofs.YtcehhgppfahbkaaGreatDoor.Ev
set_option linter.unusedVariables false
set_option linter.unusedSimpArgs false
open Go Go.RowKit
section
variable {β : Type} {W : Nat → Prop} {n0 : Nat} {h : H} {n : Nat} {Q : β → H → Nat → Prop} {P : Program}
theorem timed_call' (hd : okDsts P = true) {gt : Nat → Hint} {lf d : Nat} {f : FuncId} {vs : List Value} {W' : Nat → Prop} {Q' : Value → H → Nat → Prop} (s : Run W' n (evCall2 P gt lf d f ⟨vs⟩) h n Q') (hn : n0 ≤ n) (hW : ∀ b, b < n → W' b → n0 ≤ b ∨ W b) {k : Value × Tk → M β}
    (x : ∀ v h1 n1 T, n ≤ n1 → (∀ b, b < n → ¬ W' b → h1.get b = h.get b) → Q' v h1 n1 → Run W n0 (k (v, T)) h1 n1 Q) : Run W n0 ((timed (kcl (evCall2 P gt lf d) f vs M.ret)).bind k) h n Q :=
  timed_call hd s hn hW fun v h1 n1 L a b c _ _ => x v h1 n1 _ a b c
end

end Go.Proofs.YtcehhgppfahbkaaGreatDoor.Ev
namespace Go.Proofs.YtcehhgppfahbkaaGreatDoor.Ev
set_option linter.unusedVariables false
set_option linter.unusedSimpArgs false
open Go Go.RowKit
structure RB (t : Tk) (m : Nat) : Prop where
  wr : ∀ e ∈ t.log, e.wr = false
  lt : ∀ e ∈ t.log, e.b < m
  le : m ≤ t.n
theorem RB.clash {a b : Tk} {m : Nat} (x : RB a m) (y : RB b m) : clash3 a b = false := (clash3_eq a b).trans <| clash_ro x.wr y.wr (fun e he => Nat.lt_of_lt_of_le (x.lt e he) y.le) (fun e he => Nat.lt_of_lt_of_le (y.lt e he) x.le)
section
variable {β : Type} {W : Nat → Prop} {n0 : Nat} {h : H} {n m : Nat} {Q : β → H → Nat → Prop} {P : Program}
theorem timed_ldB {T : Prop} (ha : T) (b off : Nat) (k : Value × Tk → M β) {B : AB} (hg : h.get b = some B) (hb : b < m) (hm : m ≤ n) {v : Value} (hv : B.cells[off]? = some v) (x : ∀ T, RB T m → Run W n0 (k (v, T)) h n Q) : Run W n0 ((timed (kld (.pointer (some ⟨b, off, none⟩)) M.ret)).bind k) h n Q :=
  timed_ld ha b off k hg (by omega) hv (x _ ⟨by simp, by simpa using hb, hm⟩)
theorem timed_retB (v : Value) (k : Value × Tk → M β) (hm : m ≤ n) (y : ∀ T, RB T m → Run W n0 (k (v, T)) h n Q) : Run W n0 ((timed (M.ret v)).bind k) h n Q :=
  timed_step (L := []) rfl (Nat.le_refl _) (by simp) (y _ ⟨by simp, by simp, hm⟩)
theorem timed_callB (hd : okDsts P = true) {gt : Nat → Hint} {lf d : Nat} {f : FuncId} {vs : List Value} {Q' : Value → H → Nat → Prop} (s : Run (fun _ => False) n (evCall2 P gt lf d f ⟨vs⟩) h n Q') (hn : n0 ≤ n) {k : Value × Tk → M β}
    (x : ∀ v h1 n1 T, n ≤ n1 → (∀ b, b < n → h1.get b = h.get b) → Q' v h1 n1 → RB T n → Run W n0 (k (v, T)) h1 n1 Q) : Run W n0 ((timed (kcl (evCall2 P gt lf d) f vs M.ret)).bind k) h n Q := by
  refine timed_call hd s hn (fun _ _ h => h.elim) fun v h1 n1 L hn1 fr hq hL hw => x v h1 n1 _ hn1 (fun b hb => fr b hb id) hq ⟨fun e he => ?_, hL, Nat.le_refl _⟩
  cases hq : e.wr with
  | false => rfl
  | true => exact (hw e he hq).elim
theorem timed_any {m : M Value} {Q' : Value → H → Nat → Prop} (s : Run W n0 m h n Q') {k : Value × Tk → M β} (x : ∀ v h1 n1 T, n ≤ n1 → Q' v h1 n1 → Run W n0 (k (v, T)) h1 n1 Q) : Run W n0 ((timed m).bind k) h n Q := by
  obtain ⟨v, h1, n1, L, e1, e2, e3, e4⟩ := s
  exact timed_step e1 e2 e3 (x v h1 n1 _ e2 e4)
theorem timed_ld_call {T : Prop} (ha : T) (b off : Nat) (k : Value × Tk → M β) {B : AB} (hg : h.get b = some B) (hb : b < n) {v : Value} (hv : B.cells[off]? = some v) (x : ∀ T, T.n = n → T.n1 = n → T.log = [⟨false, b, some off⟩] → Run W n0 (k (v, T)) h n Q) : Run W n0 ((timed (kld (.pointer (some ⟨b, off, none⟩)) M.ret)).bind k) h n Q :=
  timed_ld ha b off k hg hb hv (x _ rfl rfl rfl)
theorem timed_callW (hd : okDsts P = true) {gt : Nat → Hint} {lf d : Nat} {f : FuncId} {vs : List Value} {W' : Nat → Prop} {Q' : Value → H → Nat → Prop} (s : Run W' n (evCall2 P gt lf d f ⟨vs⟩) h n Q') (hn : n0 ≤ n) (hW : ∀ b, b < n → W' b → n0 ≤ b ∨ W b) {k : Value × Tk → M β}
    (x : ∀ v h1 n1 T, n ≤ n1 → (∀ b, b < n → ¬ W' b → h1.get b = h.get b) → Q' v h1 n1 → T.n = n → (∀ e ∈ T.log, e.b < n) → (∀ e ∈ T.log, e.wr = true → W' e.b) → Run W n0 (k (v, T)) h1 n1 Q) : Run W n0 ((timed (kcl (evCall2 P gt lf d) f vs M.ret)).bind k) h n Q :=
  timed_call hd s hn hW fun v h1 n1 L a b c e1 e2 => x v h1 n1 _ a b c rfl e1 e2
end

end Go.Proofs.YtcehhgppfahbkaaGreatDoor.Ev
namespace Go.Proofs.YtcehhgppfahbkaaGreatDoor.Ev
set_option linter.unusedVariables false
set_option linter.unusedSimpArgs false
open Go Go.RowKit
theorem run_for {β σ : Type} {W : Nat → Prop} {n0 : Nat} {Q : β → H → Nat → Prop} (N : Nat) (lp : Nat → Nat → σ → M β) (I : Nat → σ → H → Nat → Prop)
    (last : ∀ fu s h n, I N s h n → Run W n0 (lp (fu + 1) N s) h n Q)
    (step : ∀ fu i s h n, i < N → I i s h n → (∀ s' h' n', I (i + 1) s' h' n' → Run W n0 (lp fu (i + 1) s') h' n' Q) → Run W n0 (lp (fu + 1) i s) h n Q) :
    ∀ (fu i : Nat) (s : σ) (h : H) (n : Nat), i ≤ N → N - i < fu → I i s h n → Run W n0 (lp fu i s) h n Q := by
  have key : ∀ (m fu i : Nat) (s : σ) (h : H) (n : Nat), N - i = m → i ≤ N → N - i < fu → I i s h n → Run W n0 (lp fu i s) h n Q := by
    intro m
    induction m with
    | zero =>
      intro fu i s h n hm hi hf x
      obtain ⟨fu, rfl⟩ : ∃ f, fu = f + 1 := ⟨fu - 1, by omega⟩
      obtain rfl : i = N := by omega
      exact last fu s h n x
    | succ m ih =>
      intro fu i s h n hm hi hf x
      obtain ⟨fu, rfl⟩ : ∃ f, fu = f + 1 := ⟨fu - 1, by omega⟩
      exact step fu i s h n (by omega) x fun s' h' n' y => ih fu (i + 1) s' h' n' (by omega) (by omega) (by omega) y
  exact fun fu i s h n => key _ fu i s h n rfl

def VRow (h : H) (n : Nat) (e : TypeId) (v : Value) (cs : List Value) : Prop :=
  (∃ a c, v = .slice a 0 c ∧ (∀ b o, a ≠ some ⟨b, o, none⟩) ∧ cs = []) ∨ ∃ b off cap o ks, v = .slice (some ⟨b, off, none⟩) cs.length cap ∧ h.get b = some ⟨e, o, ks⟩ ∧ b < n ∧ off + cs.length ≤ ks.length ∧ (ks.drop off).take cs.length = cs ∧ cs.length ≤ cap
section
variable {h h' : H} {n n' lo hi : Nat} {e e' es ei : TypeId} {v v' : Value} {cs cs' : List Value} {xss : List (List Int)}
theorem VRow.keep (r : VRow h n e v cs) (hn : n ≤ n') (hk : ∀ b, InBlk v b → h'.get b = h.get b) : VRow h' n' e v cs := by
  rcases r with q | ⟨b, off, cap, o, ks, hv, hg, hb, r⟩
  · exact .inl q
  · exact .inr ⟨b, off, cap, o, ks, hv, (hk b ⟨_, _, _, hv⟩).trans hg, by omega, r⟩
theorem VRow.len (r : VRow h n e v cs) : ∃ a c, v = .slice a cs.length c := by
  rcases r with ⟨a, c, rfl, _, rfl⟩ | ⟨b, off, cap, o, ks, rfl, _⟩
  · exact ⟨a, c, rfl⟩
  · exact ⟨_, cap, rfl⟩
theorem VRow.some (r : VRow h n e v cs) (h0 : 0 < cs.length) : ∃ b off cap o ks, v = .slice (some ⟨b, off, none⟩) cs.length cap ∧ h.get b = some ⟨e, o, ks⟩ ∧ b < n ∧ ∀ i, i < cs.length → ks[off + i]? = some (cs.getD i undef) := by
  rcases r with ⟨a, c, _, _, rfl⟩ | ⟨b, off, cap, o, ks, hv, hg, hb, hl, ht, hc⟩
  · simp at h0
  · refine ⟨b, off, cap, o, ks, hv, hg, hb, fun i hi => ?_⟩
    have := congrArg (fun z => z[i]?) ht
    simp only [List.getElem?_take, hi, if_true, List.getElem?_drop] at this
    rw [this, List.getD_eq_getElem?_getD, List.getElem?_eq_getElem hi]
    rfl
theorem VRow.lt (r : VRow h n e v cs) {b : Nat} (hb : InBlk v b) : b < n := by
  rcases r with ⟨a, c, rfl, hne, _⟩ | ⟨c, off, cap, o, ks, rfl, hg, hbn, _⟩
  · obtain ⟨o, l, k, q⟩ := hb
    cases q
    exact absurd rfl (hne b o)
  · rw [hb.inj]; exact hbn
theorem Own.vrow (o : Own h lo n e v cs) : VRow h n e v cs := by
  rcases o with ⟨rfl, rfl⟩ | ⟨b, rfl, hg, _, hb⟩
  · exact .inl ⟨none, 0, rfl, fun _ _ q => (nomatch q), rfl⟩
  · exact .inr ⟨b, 0, CAP + cs.length, true, _, rfl, hg, hb, by omega, by rw [List.drop_zero, List.take_length], by omega⟩
theorem Own.elem (o : Own h lo n e v cs) {b : Nat} (hb : InBlk v b) : ∃ B, h.get b = Option.some B ∧ B.elem = e := by
  rcases o with ⟨rfl, _⟩ | ⟨c, rfl, hc, _⟩
  · exact hb.not_nil.elim
  · rw [hb.inj]; exact ⟨_, hc, rfl⟩
theorem Row.elem {k : IntKind} {xs : List Int} (r : Row h n e k v xs) {b : Nat} (hb : InBlk v b) : ∃ B, h.get b = Option.some B ∧ B.elem = e := by
  rcases r with ⟨a, c, rfl, hne, _⟩ | ⟨c, off, cap, o, ks, rfl, hg, _⟩
  · obtain ⟨o, l, k, q⟩ := hb
    cases q
    exact absurd rfl (hne b o)
  · rw [hb.inj]; exact ⟨_, hg, rfl⟩
theorem Own.apart (o : Own h lo n e v cs) {lo' : Nat} (o' : Own h lo' n e' v' cs') (hne : e ≠ e') {b : Nat} (hb : InBlk v b) : ¬ InBlk v' b := fun hb' => by
  obtain ⟨B, h1, h2⟩ := o.elem hb
  obtain ⟨B', h3, h4⟩ := o'.elem hb'
  rw [h1] at h3; cases h3
  exact hne (h2.symm.trans h4)
theorem Row.apart {k : IntKind} {xs : List Int} (o : Row h n e k v xs) {lo' : Nat} (o' : Own h lo' n e' v' cs') (hne : e ≠ e') {b : Nat} (hb : InBlk v b) : ¬ InBlk v' b := fun hb' => by
  obtain ⟨B, h1, h2⟩ := o.elem hb
  obtain ⟨B', h3, h4⟩ := o'.elem hb'
  rw [h1] at h3; cases h3
  exact hne (h2.symm.trans h4)

end
end Go.Proofs.YtcehhgppfahbkaaGreatDoor.Ev
namespace Go.Proofs.YtcehhgppfahbkaaGreatDoor.Ev
set_option linter.unusedVariables false
set_option linter.unusedSimpArgs false
open Go Go.RowKit
section
variable {h h' : H} {n n' : Nat} {e es ei : TypeId} {v : Value} {cs : List Value} {xss : List (List Int)}
theorem VRow.elem (r : VRow h n e v cs) {b : Nat} (hb : InBlk v b) : ∃ B, h.get b = Option.some B ∧ B.elem = e := by
  rcases r with ⟨a, c, rfl, hne, _⟩ | ⟨c, off, cap, o, ks, rfl, hg, _⟩
  · obtain ⟨o, l, k, q⟩ := hb
    cases q
    exact absurd rfl (hne b o)
  · rw [hb.inj]; exact ⟨_, hg, rfl⟩
end
end Go.Proofs.YtcehhgppfahbkaaGreatDoor.Ev
namespace Go.Proofs.YtcehhgppfahbkaaGreatDoor.Ev
set_option linter.unusedVariables false
set_option linter.unusedSimpArgs false
open Go Go.RowKit
section
variable {P : Program} {h : H} {n f : Nat} {t e : TypeId} {v : Value}
theorem VRow.row {k : IntKind} {xs : List Int} (r : VRow h n e v (intsV k xs)) : Row h n e k v xs := by
  rcases r with ⟨a, c, rfl, hne, hx⟩ | ⟨b, off, cap, o, ks, hv, hg, hb, hl, ht, hc⟩
  · exact .inl ⟨a, c, rfl, hne, by unfold intsV at hx; simpa using hx⟩
  · rw [intsV_len] at hv hl ht hc
    exact .inr ⟨b, off, cap, o, ks, hv, hg, hb, hl, ht, hc⟩
end
section
variable {β : Type} {W : Nat → Prop} {n0 : Nat} {h : H} {n m : Nat} {Q : β → H → Nat → Prop} {P : Program}
theorem rdN_run2 {b : Nat} {B : AB} (hg : h.get b = some B) (hb : b < n) : ∀ (c k : Nat), k + c ≤ B.cells.length → ∃ L, rdN b k c h n = some ⟨(B.cells.drop k).take c, h, n, L⟩ ∧ ∀ e ∈ L, e.wr = false ∧ e.b = b
  | 0, k, _ => ⟨[], by rw [List.take_zero]; rfl, by simp⟩
  | c + 1, k, hk => by
    obtain ⟨L, e, hL⟩ := rdN_run2 hg hb c (k + 1) (by omega)
    have hk2 : k < B.cells.length := by omega
    refine ⟨[⟨false, b, some k⟩] ++ (L ++ []), ?_, ?_⟩
    · unfold rdN
      have e0 : rd b k h n = some ⟨B.cells[k], h, n, [⟨false, b, some k⟩]⟩ := by
        unfold rd
        simp only [hb, hg, if_true, List.getElem?_eq_getElem hk2]
      refine bind_run e0 (bind_run e ?_)
      rw [List.drop_eq_getElem_cons hk2, List.take_succ_cons]
      rfl
    · intro x hx
      simp only [List.append_nil, List.mem_append, List.mem_cons, List.not_mem_nil, or_false] at hx
      rcases hx with rfl | hx
      · exact ⟨rfl, rfl⟩
      · exact hL x hx
theorem run_st {T : Prop} (_ : T) (b off : Nat) (v : Value) (k : Value → M β) {e : TypeId} {cs : List Value} (hg : h.get b = some ⟨e, true, cs⟩) (hb : b < n) (ho : off < cs.length) (h1 : one v = true) (hw : n0 ≤ b ∨ W b) (x : Run W n0 (k undef) (h.set b (some ⟨e, true, cs.set off v⟩)) n Q) : Run W n0 (kst (.pointer (some ⟨b, off, none⟩)) v k) h n Q :=
  (kst_iff b off v k hb h1).2 (by rw [hg]; exact ⟨rfl, ho, hw, x⟩)
end
end Go.Proofs.YtcehhgppfahbkaaGreatDoor.Ev
namespace Go.Proofs.YtcehhgppfahbkaaGreatDoor.Ev
set_option linter.unusedVariables false
set_option linter.unusedSimpArgs false
open Go Go.RowKit
section
variable {β : Type} {W : Nat → Prop} {n0 : Nat} {h h1 : H} {n n1 : Nat} {Q : β → H → Nat → Prop} {kn : List FuncId}
end
end Go.Proofs.YtcehhgppfahbkaaGreatDoor.Ev
namespace Go.Proofs.YtcehhgppfahbkaaGreatDoor
set_option linter.unusedVariables false
set_option linter.unusedSimpArgs false
open Go.RowKit Ev

section
variable {β : Type} {W : Nat → Prop} {n0 : Nat} {h : H} {n : Nat} {Q : β → H → Nat → Prop}
theorem run_staF {T : Prop} (_ : T) {sz : Nat} {b : Nat} {e : TypeId} {cs vs : List Value} (hl : vs.length = sz) (hc : cs.length = sz) (h1 : vs.all one = true) (g : h.get b = some ⟨e, true, cs⟩) (hb : b < n) (hw : n0 ≤ b ∨ W b) (k : Value → M β)
    (x : ∀ h', h'.get b = some ⟨e, true, vs⟩ → (∀ c, c ≠ b → h'.get c = h.get c) → Run W n0 (k undef) h' n Q) : Run W n0 (ksg sz (.pointer (some ⟨b, 0, none⟩)) (.agg vs.toArray) k) h n Q := by
  refine run_sta trivial (vs := vs) rfl hl h1 g hb (by omega) hw k fun h' g' k' => x h' ?_ k'
  rw [g', List.take_zero, List.nil_append, List.drop_eq_nil_of_le (by omega), List.append_nil]
end
theorem run_ldaF {W : Nat → Prop} {n0 : Nat} {h : H} {n : Nat} {Q : Value → H → Nat → Prop} {T T' : Prop} (_ : T) (_ : T') {sz : Nat} {b : Nat} {e : TypeId} {vs : List Value} (g : h.get b = some ⟨e, true, vs⟩) (hl : vs.length = sz) (hb : b < n) (x : Q (.agg vs.toArray) h n) : Run W n0 (klg sz (.pointer (some ⟨b, 0, none⟩)) fun v => outK [v]) h n Q := by
  refine run_klg b 0 _ g hb (by show 0 + sz ≤ vs.length; omega) ?_
  rw [run_out1]
  have : ((vs.drop 0).take sz) = vs := by rw [List.drop_zero, ← hl, List.take_length]
  show Q (.agg ((vs.drop 0).take sz).toArray) h n
  rw [this]
  exact x
section
variable {β : Type} {W : Nat → Prop} {n0 : Nat} {h : H} {n : Nat} {Q : β → H → Nat → Prop}
theorem timed_st (b off : Nat) (v : Value) (k : Value × Tk → M β) {e : TypeId} {cs : List Value} (hg : h.get b = some ⟨e, true, cs⟩) (hb : b < n) (ho : off < cs.length) (h1 : one v = true) (hw : n0 ≤ b ∨ W b) (x : ∀ T, Run W n0 (k (undef, T)) (h.set b (some ⟨e, true, cs.set off v⟩)) n Q) : Run W n0 ((timed (kst (.pointer (some ⟨b, off, none⟩)) v M.ret)).bind k) h n Q :=
  timed_any (Q' := fun v' h' n' => v' = undef ∧ h' = h.set b (some ⟨e, true, cs.set off v⟩) ∧ n' = n) (run_st trivial b off v _ hg hb ho h1 hw ((run_ret _).2 ⟨rfl, rfl, rfl⟩)) fun v' h1 n1 T hn ⟨e1, e2, e3⟩ => by
    subst e1
    subst e2
    subst e3
    exact x T
end
end Go.Proofs.YtcehhgppfahbkaaGreatDoor
namespace Go.Proofs.YtcehhgppfahbkaaGreatDoor.Ev
set_option linter.unusedVariables false
set_option linter.unusedSimpArgs false
open Go Go.RowKit

section
variable {β : Type} {W : Nat → Prop} {n0 : Nat} {h : H} {n : Nat} {Q : β → H → Nat → Prop} {e : TypeId} {sz : Nat}
theorem flat_len {sz : Nat} : ∀ {ts : List (List Value)}, (∀ t ∈ ts, t.length = sz) → ts.flatten.length = ts.length * sz
  | [], _ => by simp
  | t :: ts, h => by
    rw [List.flatten_cons, List.length_append, h t (by simp), flat_len fun u hu => h u (by simp [hu]), List.length_cons, Nat.add_mul, Nat.one_mul, Nat.add_comm]
theorem flat_at {sz : Nat} : ∀ {ts : List (List Value)} {i : Nat}, (∀ t ∈ ts, t.length = sz) → i < ts.length → (ts.flatten.drop (i * sz)).take sz = ts.getD i []
  | t :: ts, 0, h, _ => by
    rw [Nat.zero_mul, List.drop_zero, List.flatten_cons, ← h t (by simp), List.take_left]
    rfl
  | t :: ts, i + 1, h, hi => by
    have := flat_at (ts := ts) (i := i) (fun u hu => h u (by simp [hu])) (by simpa using hi)
    rw [List.flatten_cons, Nat.add_mul, Nat.one_mul, Nat.add_comm, ← List.drop_drop, ← h t (by simp), List.drop_left, h t (by simp), this]
    rfl
def OwnS (h : H) (lo n : Nat) (e : TypeId) (v : Value) (ts : List (List Value)) : Prop := (v = .slice none 0 0 ∧ ts = []) ∨ ∃ b, v = .slice (some ⟨b, 0, none⟩) ts.length (CAP + ts.length) ∧ h.get b = some ⟨e, true, ts.flatten⟩ ∧ lo ≤ b ∧ b < n
theorem OwnS.nil (h : H) (lo n : Nat) (e : TypeId) : OwnS h lo n e (.slice none 0 0) [] := .inl ⟨rfl, rfl⟩
theorem OwnS.keep {lo : Nat} {v : Value} {ts : List (List Value)} {h' : H} {n' : Nat} (o : OwnS h lo n e v ts) (hn : n ≤ n') (hk : ∀ b, InBlk v b → h'.get b = h.get b) : OwnS h' lo n' e v ts := by
  rcases o with q | ⟨c, rfl, hc, h1, h2⟩
  · exact .inl q
  · exact .inr ⟨c, rfl, (hk c ⟨_, _, _, rfl⟩).trans hc, h1, by omega⟩
theorem OwnS.lt {lo : Nat} {v : Value} {ts : List (List Value)} (o : OwnS h lo n e v ts) {b : Nat} (hb : InBlk v b) : lo ≤ b ∧ b < n := by
  rcases o with ⟨rfl, _⟩ | ⟨c, rfl, _, h1, h2⟩
  · exact hb.not_nil.elim
  · rw [hb.inj]; exact ⟨h1, h2⟩
theorem OwnS.len {lo : Nat} {v : Value} {ts : List (List Value)} (o : OwnS h lo n e v ts) : ∃ a c, v = .slice a ts.length c := by
  rcases o with ⟨rfl, rfl⟩ | ⟨b, rfl, _⟩
  · exact ⟨none, 0, rfl⟩
  · exact ⟨_, _, rfl⟩
theorem run_pushS {vs : List Value} (hvs : vs.length = sz) (h0 : 0 < sz) (hone : vs.all one = true) {lo : Nat} {v : Value} {ts : List (List Value)} (hts : ∀ t ∈ ts, t.length = sz) (o : OwnS h lo n e v ts) (hm : ts.length + 1 ≤ 1099511627776) (hw : ∀ b, InBlk v b → n0 ≤ b ∨ W b) (hn0 : n0 ≤ n) (hlo : lo ≤ n) (k : Value → M β)
    (y : ∀ v' h', OwnS h' lo (n + 2) e v' (ts ++ [vs]) → (∀ b, InBlk v' b → n ≤ b) → (∀ b, b < n → ¬ InBlk v b → h'.get b = h.get b) → Run W n0 (k v') h' (n + 2) Q) : Run W n0 (kb1 e sz (.agg vs.toArray) fun w => kap e sz v w k) h n Q := by
  have d : ∀ K : Value → M β, kb1 e sz (.agg vs.toArray) K = insB ((newB3 e vs).bind fun id => M.ret (Value.slice (some ⟨id, 0, none⟩) 1 1)) K := fun K => by
    unfold kb1
    rw [show Nat.beq (lenV (cellsL (.agg vs.toArray))) sz = true by rw [lenV_eq, show cellsL (.agg vs.toArray) = vs from rfl, hvs, Nat.beq_refl]]
    rfl
  rw [d]
  refine run_ins (run_new (newK _ _ (fun id => Value.slice (some ⟨id, 0, none⟩) 1 1) _ _) (Nat.le_succ n) ?_)
  have hgn : (h.set n (some ⟨e, true, vs⟩)).get n = some ⟨e, true, vs⟩ := get_eq _ _ _
  obtain ⟨L, r1, r2⟩ := rdN_run (n := n + 1) hgn (Nat.lt_succ_self n) sz 0 (by show 0 + sz ≤ vs.length; omega)
  have r1 : elemsOf sz 1 (.slice (some ⟨n, 0, none⟩) 1 1) (h.set n (some ⟨e, true, vs⟩)) (n + 1) = some ⟨vs, h.set n (some ⟨e, true, vs⟩), n + 1, L⟩ := by
    unfold elemsOf
    show rdN n 0 (1 * sz) _ _ = _
    rw [Nat.one_mul, r1, List.drop_zero, List.take_of_length_le (by show vs.length ≤ sz; omega)]
  have hc : (decide (vs.length = 1 * sz) && vs.all one) = true := by rw [hone, decide_eq_true (by omega)]; rfl
  refine run_ins ?_
  rcases o with ⟨rfl, rfl⟩ | ⟨b, rfl, hb, h1, h2⟩
  · have ea : appQ e sz (.slice none 0 0) (.slice (some ⟨n, 0, none⟩) 1 1) (h.set n (some ⟨e, true, vs⟩)) (n + 1) = some ⟨.slice (some ⟨n + 1, 0, none⟩) 1 (CAP + 1), (h.set n (some ⟨e, true, vs⟩)).set (n + 1) (some ⟨e, true, vs⟩), n + 2, L ++ ([] ++ [])⟩ := by
      unfold appQ
      rw [elems3_eq, newB3_eq]
      simp only [lenOf?]
      rw [if_neg (by omega), if_pos (by omega)]
      refine bind_run r1 ?_
      rw [if_pos hc]
      exact bind_run (newB_run _ _ _ _) rfl
    refine Run.step (inside_run ea) (by omega) (fun y hy hy2 => ?_) (y _ _ (.inr ⟨n + 1, rfl, by rw [get_eq]; simp, by omega, by omega⟩) (fun b hb => by rw [hb.inj]; omega) (fun b hb _ => by rw [get_ne _ _ (by omega), get_ne _ _ (by omega)]))
    have := (List.mem_filter.1 hy).1
    simp at this
    rw [r2 y this] at hy2
    cases hy2
  · have hb' : (h.set n (some ⟨e, true, vs⟩)).get b = some ⟨e, true, ts.flatten⟩ := by rw [get_ne _ _ (by omega)]; exact hb
    have hbn : b < n + 1 := by omega
    obtain ⟨L', s1, s2⟩ := rdN_run (n := n + 1) hb' hbn (ts.length * sz) 0 (by show 0 + ts.length * sz ≤ ts.flatten.length; rw [flat_len hts]; omega)
    rw [List.drop_zero, List.take_of_length_le (by show ts.flatten.length ≤ _; rw [flat_len hts]; exact Nat.le_refl _)] at s1
    have ea : ∃ L1, appQ e sz (.slice (some ⟨b, 0, none⟩) ts.length (CAP + ts.length)) (.slice (some ⟨n, 0, none⟩) 1 1) (h.set n (some ⟨e, true, vs⟩)) (n + 1) = some ⟨.slice (some ⟨n + 1, 0, none⟩) (ts.length + 1) (CAP + (ts.length + 1)), ((h.set n (some ⟨e, true, vs⟩)).set b none).set (n + 1) (some ⟨e, true, ts.flatten ++ vs⟩), n + 2, L1⟩ ∧ ∀ y ∈ L1, y.wr = true → y.b = b := by
      refine ⟨[⟨false, b, some 1099511627776⟩] ++ (L ++ (L' ++ ([⟨false, b, none⟩, ⟨true, b, none⟩] ++ ([] ++ [])))), ?_, ?_⟩
      · unfold appQ appTo
        rw [elems3_eq, newB3_eq, hdr3_eq, kill3_eq, rdN3_eq]
        simp only [lenOf?]
        rw [if_neg (by omega), if_pos hm]
        refine bind_run (hdr_run hb' hbn) ?_
        simp only [if_true]
        refine bind_run r1 ?_
        rw [if_pos hc]
        rw [if_neg (by omega)]
        refine bind_run s1 (bind_run (kill_run hb' rfl hbn) ?_)
        exact bind_run (newB_run _ _ _ _) rfl
      · intro y hy hy2
        simp only [List.append_nil, List.mem_append, List.mem_cons, List.not_mem_nil, or_false] at hy
        rcases hy with rfl | hy | hy | rfl | rfl
        · cases hy2
        · rw [r2 y hy] at hy2; cases hy2
        · rw [s2 y hy] at hy2; cases hy2
        · cases hy2
        · rfl
    obtain ⟨L1, ea, hL1⟩ := ea
    refine Run.step (inside_run ea) (by omega) (fun y hy hy2 => ?_) (y _ _ (.inr ⟨n + 1, by simp, ?_, by omega, by omega⟩) (fun b hb => by rw [hb.inj]; omega) (fun d hd hn => ?_))
    · rw [hL1 y (List.mem_filter.1 hy).1 hy2]
      exact hw b ⟨_, _, _, rfl⟩
    · rw [get_eq, List.flatten_append]
      simp
    · have : d ≠ b := fun e => hn ⟨0, _, _, by rw [e]⟩
      rw [get_ne _ _ (by omega), get_ne _ _ this, get_ne _ _ (by omega)]
end
end Go.Proofs.YtcehhgppfahbkaaGreatDoor.Ev
namespace Go.Proofs.YtcehhgppfahbkaaGreatDoor.Ev
set_option linter.unusedVariables false
set_option linter.unusedSimpArgs false
open Go Go.RowKit
section
variable {β : Type} {W : Nat → Prop} {n0 : Nat} {h : H} {n : Nat} {Q : β → H → Nat → Prop} {e : TypeId} {sz : Nat}
structure Pre (h : H) (n : Nat) (e : TypeId) (sz b cp : Nat) (ts : List (List Value)) : Prop where
  get : ∃ cs, h.get b = some ⟨e, true, cs⟩ ∧ ts.length * sz ≤ cs.length ∧ cs.take (ts.length * sz) = ts.flatten
  lt : b < n
  ln : ∀ t ∈ ts, t.length = sz
  cp : ts.length ≤ cp
variable {b cp : Nat} {ts : List (List Value)}
theorem Pre.keep {h' : H} {n' : Nat} (x : Pre h n e sz b cp ts) (hn : n ≤ n') (hk : h'.get b = h.get b) : Pre h' n' e sz b cp ts := ⟨by rw [hk]; exact x.get, Nat.lt_of_lt_of_le x.lt hn, x.ln, x.cp⟩
theorem Pre.cut (x : Pre h n e sz b cp ts) {us vs : List (List Value)} (ht : ts = us ++ vs) : Pre h n e sz b cp us := by
  subst ht
  obtain ⟨cs, g, h1, h2⟩ := x.get
  have lu : us.flatten.length = us.length * sz := flat_len fun t ht => x.ln t (List.mem_append_left _ ht)
  rw [List.length_append, Nat.add_mul] at h1
  refine ⟨⟨cs, g, by omega, ?_⟩, x.lt, fun t ht => x.ln t (List.mem_append_left _ ht), by have := x.cp; rw [List.length_append] at this; omega⟩
  have := congrArg (List.take (us.length * sz)) h2
  rw [List.take_take, List.length_append, Nat.add_mul, Nat.min_eq_left (by omega), List.flatten_append, ← lu, List.take_left] at this
  rw [← lu]
  exact this
theorem Pre.at (x : Pre h n e sz b cp ts) {i : Nat} (hi : i < ts.length) : ∃ cs, h.get b = some ⟨e, true, cs⟩ ∧ 0 + i * sz + sz ≤ cs.length ∧ (cs.drop (0 + i * sz)).take sz = ts.getD i [] := by
  obtain ⟨cs, g, h1, h2⟩ := x.get
  have q : i * sz + sz ≤ ts.length * sz := by rw [← Nat.succ_mul]; exact Nat.mul_le_mul_right sz hi
  refine ⟨cs, g, by omega, ?_⟩
  have := flat_at x.ln hi
  rw [← h2, List.drop_take, List.take_take, Nat.min_eq_left (by omega)] at this
  rw [Nat.zero_add]
  exact this
theorem Pre.cell (x : Pre h n e sz b cp ts) {i j : Nat} (hi : i < ts.length) (hj : j < sz) : ∃ cs, h.get b = some ⟨e, true, cs⟩ ∧ cs[0 + i * sz + j]? = (ts.getD i [])[j]? := by
  obtain ⟨cs, g, _, h2⟩ := x.at hi
  refine ⟨cs, g, ?_⟩
  rw [← h2, List.getElem?_take, if_pos hj, List.getElem?_drop]
theorem run_elQ (x : Pre h n e sz b cp ts) {i : Nat} (hi : i < ts.length) (K : Value → M β) (y : Run W n0 (K (.agg (ts.getD i []).toArray)) h n Q) : Run W n0 (klg sz (.pointer (some ⟨b, i * sz, none⟩)) K) h n Q := by
  obtain ⟨cs, g, h1, h2⟩ := x.at hi
  rw [Nat.zero_add] at h1 h2
  refine run_klg b _ K g x.lt h1 ?_
  show Run W n0 (K (.agg ((cs.drop (i * sz)).take sz).toArray)) h n Q
  rw [h2]
  exact y
theorem run_cutP (x : Pre h n e sz b cp ts) {N m : Nat} (hN : ts.length = N) (hm : m ≤ N) {kd : IntKind} (K : Value → M β) (y : Run W n0 (K (.slice (some ⟨b, 0, none⟩) m cp)) h n Q) : Run W n0 (ksc e sz (.slice (some ⟨b, 0, none⟩) N cp) none (some (.int kd (m : Int))) K) h n Q := by
  subst hN
  obtain ⟨cs, g, _, _⟩ := x.get
  have hc := x.cp
  refine run_ins ?_
  have e1 : ((hdr3 b).bind fun e' => match Nat.beq e' e with
      | true => M.lift (sl1 sz (some ⟨b, 0, none⟩) ts.length cp none (some (.int kd (m : Int))))
      | false => .fail) h n = some ⟨.slice (some ⟨b, 0, none⟩) m cp, h, n, [⟨false, b, some 1099511627776⟩] ++ []⟩ := by
    rw [hdr3_eq]
    refine bind_run (hdr_run g x.lt) ?_
    rw [Nat.beq_refl]
    simp only
    unfold sl1
    simp only [bound_nat, bound_none]
    have : (decide (0 ≤ m) && decide (m ≤ cp) && decide (cp ≤ cp) && (decide (cp < CAP) || (none : Option Value).isNone && decide (m ≤ ts.length))) = true := by simp; omega
    simp only [this, if_true, Nat.zero_mul, Nat.add_zero, ite_self, Nat.sub_zero]
    rfl
  obtain ⟨L', e2, e3⟩ := inside_ro (W := W) (n0 := n0) e1 (by simp)
  exact Run.step e2 (Nat.le_refl _) e3 y
theorem run_appP (x : Pre h n e sz b cp ts) {us : List (List Value)} {c cap N M' : Nat} {o : Bool} (hN : ts.length = N) (hM : us.length = M') (hus : ∀ t ∈ us, t.length = sz) (h0 : 0 < us.length) (hone : us.flatten.all one = true) (hc : h.get c = some ⟨e, o, us.flatten⟩) (hcn : c < n) (hm : N + M' ≤ 1099511627776) (hcp : CAP ≤ cp ∨ cp < N + M') (hw : n0 ≤ b ∨ W b) (K : Value → M β)
    (y : ∀ h', Pre h' (n + 1) e sz n (CAP + (N + M')) (ts ++ us) → (∀ q, q < n → q ≠ b → h'.get q = h.get q) → Run W n0 (K (.slice (some ⟨n, 0, none⟩) (N + M') (CAP + (N + M')))) h' (n + 1) Q) : Run W n0 (kap e sz (.slice (some ⟨b, 0, none⟩) N cp) (.slice (some ⟨c, 0, none⟩) M' cap) K) h n Q := by
  subst hN
  subst hM
  obtain ⟨cs, g, g1, g2⟩ := x.get
  have bn := x.lt
  have fl := flat_len hus
  obtain ⟨L, r1, r2⟩ := rdN_run (n := n) hc hcn (us.length * sz) 0 (by show 0 + us.length * sz ≤ us.flatten.length; omega)
  have r1 : elemsOf sz us.length (.slice (some ⟨c, 0, none⟩) us.length cap) h n = some ⟨us.flatten, h, n, L⟩ := by
    unfold elemsOf
    show rdN c 0 (us.length * sz) _ _ = _
    rw [r1, List.drop_zero, List.take_of_length_le (by show us.flatten.length ≤ _; omega)]
  have hcc : (decide (us.flatten.length = us.length * sz) && us.flatten.all one) = true := by rw [hone, decide_eq_true fl]; rfl
  obtain ⟨L', s1, s2⟩ := rdN_run (n := n) g bn (ts.length * sz) 0 (by show 0 + ts.length * sz ≤ cs.length; omega)
  rw [List.drop_zero, g2] at s1
  have fin : ∀ h1 : H, h1.get b = h.get b ∨ h1.get b = none → (∀ q, q ≠ b → h1.get q = h.get q) → Pre (h1.set n (some ⟨e, true, ts.flatten ++ us.flatten⟩)) (n + 1) e sz n (CAP + (ts.length + us.length)) (ts ++ us) := fun h1 _ _ => by
    have lt : ts.flatten.length = ts.length * sz := flat_len x.ln
    refine ⟨⟨_, get_eq _ _ _, ?_, ?_⟩, Nat.lt_succ_self n, fun t ht => ?_, by rw [List.length_append]; omega⟩
    · rw [List.length_append, List.length_append, lt, fl, Nat.add_mul]
      exact Nat.le_refl _
    · rw [List.flatten_append, List.take_of_length_le]
      rw [List.length_append, List.length_append, lt, fl, Nat.add_mul]
      exact Nat.le_refl _
    · rcases List.mem_append.1 ht with q | q
      · exact x.ln t q
      · exact hus t q
  refine run_ins ?_
  by_cases hC : CAP ≤ cp
  · have ea : ∃ L1, appQ e sz (.slice (some ⟨b, 0, none⟩) ts.length cp) (.slice (some ⟨c, 0, none⟩) us.length cap) h n = some ⟨.slice (some ⟨n, 0, none⟩) (ts.length + us.length) (CAP + (ts.length + us.length)), (h.set b none).set n (some ⟨e, true, ts.flatten ++ us.flatten⟩), n + 1, L1⟩ ∧ ∀ y ∈ L1, y.wr = true → y.b = b := by
      refine ⟨[⟨false, b, some 1099511627776⟩] ++ (L ++ (L' ++ ([⟨false, b, none⟩, ⟨true, b, none⟩] ++ ([] ++ [])))), ?_, ?_⟩
      · unfold appQ appTo
        rw [elems3_eq, newB3_eq, hdr3_eq, kill3_eq, rdN3_eq]
        simp only [lenOf?]
        rw [if_neg (by omega), if_pos hm]
        refine bind_run (hdr_run g bn) ?_
        simp only [if_true]
        refine bind_run r1 ?_
        rw [if_pos hcc, if_neg (by omega)]
        refine bind_run s1 (bind_run (kill_run g rfl bn) ?_)
        exact bind_run (newB_run _ _ _ _) rfl
      · intro y hy hy2
        simp only [List.append_nil, List.mem_append, List.mem_cons, List.not_mem_nil, or_false] at hy
        rcases hy with rfl | hy | hy | rfl | rfl
        · cases hy2
        · rw [r2 y hy] at hy2; cases hy2
        · rw [s2 y hy] at hy2; cases hy2
        · cases hy2
        · rfl
    obtain ⟨L1, ea, hL1⟩ := ea
    refine Run.step (inside_run ea) (by omega) (fun y hy hy2 => ?_) (y _ (fin _ (.inr (get_eq _ _ _)) fun q hq => get_ne _ _ hq) fun q hq hqb => by rw [get_ne _ _ (by omega), get_ne _ _ hqb])
    rw [hL1 y (List.mem_filter.1 hy).1 hy2]
    exact hw
  · have hcp2 : cp < ts.length + us.length := hcp.resolve_left hC
    have ea : ∃ L1, appQ e sz (.slice (some ⟨b, 0, none⟩) ts.length cp) (.slice (some ⟨c, 0, none⟩) us.length cap) h n = some ⟨.slice (some ⟨n, 0, none⟩) (ts.length + us.length) (CAP + (ts.length + us.length)), h.set n (some ⟨e, true, ts.flatten ++ us.flatten⟩), n + 1, L1⟩ ∧ ∀ y ∈ L1, y.wr = false := by
      refine ⟨[⟨false, b, some 1099511627776⟩] ++ (L ++ (L' ++ ([] ++ []))), ?_, ?_⟩
      · unfold appQ appTo
        rw [elems3_eq, newB3_eq, hdr3_eq, kill3_eq, rdN3_eq]
        simp only [lenOf?]
        rw [if_neg (by omega), if_pos hm]
        refine bind_run (hdr_run g bn) ?_
        simp only [if_true]
        refine bind_run r1 ?_
        rw [if_pos hcc, if_pos (by omega), if_neg (by omega)]
        refine bind_run s1 ?_
        exact bind_run (newB_run _ _ _ _) rfl
      · intro y hy
        simp only [List.append_nil, List.mem_append, List.mem_singleton] at hy
        rcases hy with rfl | hy | hy
        · rfl
        · exact r2 y hy
        · exact s2 y hy
    obtain ⟨L1, ea, hL1⟩ := ea
    refine Run.step (inside_run ea) (by omega) (fun y hy hy2 => ?_) (y _ (fin _ (.inl rfl) fun _ _ => rfl) fun q hq hqb => by rw [get_ne _ _ (by omega)])
    rw [hL1 y (List.mem_filter.1 hy).1] at hy2
    cases hy2
theorem run_kbs {z cs : List Value} {len : Nat} {ps : List (Nat × Nat × Value)} (hf : fillQ z ps = some cs) (K : Value → M β) (y : Run W n0 (K (.slice (some ⟨n, 0, none⟩) len len)) (h.set n (some ⟨e, true, cs⟩)) (n + 1) Q) : Run W n0 (kbs e z len ps K) h n Q := by
  unfold kbs
  rw [hf]
  exact run_ins (run_new (newK _ _ (fun id => Value.slice (some ⟨id, 0, none⟩) len len) _ _) (Nat.le_succ n) y)
theorem run_kb1S {vs : List Value} (hvs : vs.length = sz) (K : Value → M β) (y : Run W n0 (K (.slice (some ⟨n, 0, none⟩) 1 1)) (h.set n (some ⟨e, true, vs⟩)) (n + 1) Q) : Run W n0 (kb1 e sz (.agg vs.toArray) K) h n Q := by
  unfold kb1
  rw [show Nat.beq (lenV (cellsL (.agg vs.toArray))) sz = true by rw [lenV_eq, show cellsL (.agg vs.toArray) = vs from rfl, hvs, Nat.beq_refl]]
  exact run_ins (run_new (newK _ _ (fun id => Value.slice (some ⟨id, 0, none⟩) 1 1) _ _) (Nat.le_succ n) y)
end
end Go.Proofs.YtcehhgppfahbkaaGreatDoor.Ev
namespace Go.Proofs.YtcehhgppfahbkaaGreatDoor.Pl
set_option linter.unusedVariables false
set_option linter.unusedSimpArgs false

def isB (s : ByteArray) (i : Int) : Bool := decide (0 ≤ i ∧ i < s.size)
theorem isB_true {s : ByteArray} {i : Int} (h : isB s i = true) : 0 ≤ i ∧ i < s.size := by simpa [isB] using h
theorem isB_of {s : ByteArray} {i : Int} (h : 0 ≤ i) (h2 : i < s.size) : isB s i = true := by simp [isB, h, h2]
def rotL (l : List UInt8) (i : Nat) : List UInt8 := l.drop i ++ l.take i

def cmpL : List UInt8 → List UInt8 → Int
  | x :: xs, y :: ys => if x < y then -1 else if y < x then 1 else cmpL xs ys
  | _, _ => 0

theorem length_rotL (l : List UInt8) (i : Nat) : (rotL l i).length = l.length := by
  simp [rotL]; omega

theorem getD_rotL (l : List UInt8) (i k : Nat) (hi : i < l.length) (hk : k < l.length) : (rotL l i).getD k 0 = l.getD ((i + k) % l.length) 0 := by
  unfold rotL
  simp only [List.getD_eq_getElem?_getD]
  by_cases h : i + k < l.length
  · rw [Nat.mod_eq_of_lt h]
    rw [List.getElem?_append_left (by simp; omega)]
    simp [List.getElem?_drop]
  · have e : (i + k) % l.length = i + k - l.length := by rw [Nat.mod_eq_sub_mod (by omega), Nat.mod_eq_of_lt (by omega)]
    rw [e, List.getElem?_append_right (by simp; omega)]
    simp only [List.length_drop, List.getElem?_take]
    rw [if_pos (by omega), show k - (l.length - i) = i + k - l.length by omega]

def cmpS (s : ByteArray) (i k : Int) : Int := cmpL (rotL s.data.toList i.toNat) (rotL s.data.toList k.toNat)
def aheadS (s : ByteArray) (i k : Int) : Bool := isB s i && isB s k && (decide (cmpS s i k < 0) || cmpS s i k == 0 && decide (i < k))
def okAt (s : ByteArray) (xs : List Int) (j : Nat) : Bool := isB s (xs.getD j 0) && (j == 0 || aheadS s (xs.getD (j - 1) 0) (xs.getD j 0))
def sortedS (s : ByteArray) (xs : List Int) : Bool := (List.range xs.length).all (okAt s xs) && xs.length == s.size
theorem sortedS_yes (s : ByteArray) (xs : List Int) (h : ∀ j, j < xs.length → okAt s xs j = true) : sortedS s xs = (xs.length == s.size) := by
  unfold sortedS
  have : (List.range xs.length).all (okAt s xs) = true := by
    rw [List.all_eq_true]
    intro j hj
    exact h j (by simpa using hj)
  rw [this, Bool.true_and]

theorem cmpL_zero : ∀ (a b : List UInt8), a.length = b.length → (cmpL a b = 0 ↔ a = b)
  | [], [], _ => by simp [cmpL]
  | x :: xs, y :: ys, h => by
    have ih := cmpL_zero xs ys (by simpa using h)
    simp only [cmpL]
    by_cases h1 : x < y
    · have : ¬ x = y := by rintro rfl; exact UInt8.lt_irrefl _ h1
      simp [h1, this]
    · by_cases h2 : y < x
      · have : ¬ x = y := by rintro rfl; exact UInt8.lt_irrefl _ h2
        simp [h1, h2, this]
      · have : x = y := UInt8.le_antisymm (UInt8.not_lt.1 h2) (UInt8.not_lt.1 h1)
        subst this
        simp [ih]
  | [], y :: ys, h => by simp at h
  | x :: xs, [], h => by simp at h

theorem size_list' (s : ByteArray) : s.data.toList.length = s.size := by rw [Array.length_toList]; rfl
def insStep (s : ByteArray) (i : Int) (st : List Int × Bool) (k : Int) : List Int × Bool :=
  if !st.2 && aheadS s i k then (st.1 ++ [i] ++ [k], true) else (st.1 ++ [k], st.2)
def insTo (s : ByteArray) (i : Int) (l : List Int) (j : Nat) : List Int × Bool := (l.take j).foldl (insStep s i) ([], false)
def insAll (s : ByteArray) (i : Int) (l : List Int) : List Int := if (insTo s i l l.length).2 then (insTo s i l l.length).1 else (insTo s i l l.length).1 ++ [i]
def sortTo (s : ByteArray) : Nat → List Int
  | 0 => []
  | i + 1 => insAll s i (sortTo s i)
theorem insTo_succ (s : ByteArray) (i : Int) (l : List Int) (j : Nat) (h : j < l.length) : insTo s i l (j + 1) = insStep s i (insTo s i l j) (l.getD j 0) := by
  unfold insTo
  rw [List.take_succ_eq_append_getElem h, List.foldl_append, List.getD_eq_getElem?_getD, List.getElem?_eq_getElem h]; rfl
theorem insTo_length (s : ByteArray) (i : Int) (l : List Int) : ∀ j, j ≤ l.length → (insTo s i l j).1.length = j + (if (insTo s i l j).2 then 1 else 0)
  | 0, _ => by simp [insTo]
  | j + 1, h => by
    have ih := insTo_length s i l j (by omega)
    rw [insTo_succ s i l j (by omega)]
    unfold insStep
    cases h2 : (insTo s i l j).2 <;> cases h3 : aheadS s i (l.getD j 0) <;> simp_all
theorem insAll_length (s : ByteArray) (i : Int) (l : List Int) : (insAll s i l).length = l.length + 1 := by
  have := insTo_length s i l l.length (Nat.le_refl _)
  unfold insAll
  split <;> simp_all
theorem sortTo_length (s : ByteArray) : ∀ i, (sortTo s i).length = i
  | 0 => rfl
  | i + 1 => by rw [sortTo, insAll_length, sortTo_length s i]
end Go.Proofs.YtcehhgppfahbkaaGreatDoor.Pl
namespace Go.Proofs.YtcehhgppfahbkaaGreatDoor.Pl
set_option linter.unusedVariables false
set_option linter.unusedSimpArgs false

theorem cmpL_self : ∀ a : List UInt8, cmpL a a = 0
  | [] => rfl
  | x :: xs => by simp [cmpL, UInt8.lt_irrefl, cmpL_self xs]
theorem cmpL_neg : ∀ a b : List UInt8, cmpL b a = - cmpL a b
  | [], [] => rfl
  | [], _ :: _ => rfl
  | _ :: _, [] => rfl
  | x :: xs, y :: ys => by
    have ih := cmpL_neg xs ys
    simp only [cmpL, UInt8.lt_iff_toNat_lt]
    by_cases h1 : x.toNat < y.toNat
    · have : ¬ y.toNat < x.toNat := by omega
      simp [h1, this]
    · by_cases h2 : y.toNat < x.toNat
      · simp [h1, h2]
      · simp [h1, h2, ih]
theorem cmpL_trans : ∀ a b c : List UInt8, a.length = b.length → b.length = c.length → cmpL a b ≤ 0 → cmpL b c ≤ 0 → cmpL a c ≤ 0 ∧ (cmpL a c = 0 → cmpL a b = 0 ∧ cmpL b c = 0)
  | [], [], [], _, _, _, _ => by simp [cmpL]
  | x :: xs, y :: ys, z :: zs, h, h', h1, h2 => by
    have ih := cmpL_trans xs ys zs (by simpa using h) (by simpa using h')
    simp only [cmpL, UInt8.lt_iff_toNat_lt] at *
    by_cases a1 : x.toNat < y.toNat
    · by_cases b1 : y.toNat < z.toNat
      · have : x.toNat < z.toNat := by omega
        simp [a1, b1, this]
      · by_cases b2 : z.toNat < y.toNat
        · simp [b1, b2] at h2
        · have : x.toNat < z.toNat := by omega
          simp [this]
    · by_cases a2 : y.toNat < x.toNat
      · simp [a1, a2] at h1
      · by_cases b1 : y.toNat < z.toNat
        · have : x.toNat < z.toNat := by omega
          simp [this]
        · by_cases b2 : z.toNat < y.toNat
          · simp [b1, b2] at h2
          · have c1 : ¬ x.toNat < z.toNat := by omega
            have c2 : ¬ z.toNat < x.toNat := by omega
            simp only [a1, a2, b1, b2, c1, c2, if_false] at *
            exact ih h1 h2
  | [], _ :: _, _, h, _, _, _ => by simp at h
  | _ :: _, [], _, h, _, _, _ => by simp at h
  | _, [], _ :: _, _, h, _, _ => by simp at h
  | _, _ :: _, [], _, h, _, _ => by simp at h

theorem cmpS_self (s : ByteArray) (i : Int) : cmpS s i i = 0 := cmpL_self _
theorem cmpS_neg (s : ByteArray) (i k : Int) : cmpS s k i = - cmpS s i k := cmpL_neg _ _
theorem cmpS_trans (s : ByteArray) (i k m : Int) : cmpS s i k ≤ 0 → cmpS s k m ≤ 0 → cmpS s i m ≤ 0 ∧ (cmpS s i m = 0 → cmpS s i k = 0 ∧ cmpS s k m = 0) :=
  cmpL_trans _ _ _ (by simp [length_rotL]) (by simp [length_rotL])

theorem aheadS_iff (s : ByteArray) (i k : Int) : aheadS s i k = true ↔ isB s i = true ∧ isB s k = true ∧ (cmpS s i k < 0 ∨ cmpS s i k = 0 ∧ i < k) := by
  unfold aheadS
  simp [and_assoc]

theorem ahead_asymm (s : ByteArray) (i k : Int) (h : aheadS s i k = true) : aheadS s k i = false := by
  rw [Bool.eq_false_iff]
  intro h2
  rw [aheadS_iff] at *
  have := cmpS_neg s i k
  omega
theorem ahead_total (s : ByteArray) (i k : Int) (hi : isB s i = true) (hk : isB s k = true) (hne : i ≠ k) : aheadS s i k = true ∨ aheadS s k i = true := by
  rw [aheadS_iff, aheadS_iff]
  have := cmpS_neg s i k
  by_cases h : cmpS s i k < 0
  · exact .inl ⟨hi, hk, .inl h⟩
  · by_cases h2 : cmpS s i k = 0
    · by_cases h3 : i < k
      · exact .inl ⟨hi, hk, .inr ⟨h2, h3⟩⟩
      · exact .inr ⟨hk, hi, .inr ⟨by omega, by omega⟩⟩
    · exact .inr ⟨hk, hi, .inl (by omega)⟩
theorem ahead_irrefl (s : ByteArray) (i : Int) : aheadS s i i = false := by
  rw [Bool.eq_false_iff]
  intro h2
  rw [aheadS_iff, cmpS_self] at h2
  omega
theorem ahead_trans (s : ByteArray) (i k m : Int) (h : aheadS s i k = true) (h2 : aheadS s k m = true) : aheadS s i m = true := by
  rw [aheadS_iff] at *
  obtain ⟨a1, a2, a3⟩ := h
  obtain ⟨b1, b2, b3⟩ := h2
  have t := cmpS_trans s i k m (by omega) (by omega)
  refine ⟨a1, b2, ?_⟩
  by_cases h0 : cmpS s i m = 0
  · have := t.2 h0
    exact .inr ⟨h0, by omega⟩
  · exact .inl (by omega)

end Go.Proofs.YtcehhgppfahbkaaGreatDoor.Pl
namespace Go.Proofs.YtcehhgppfahbkaaGreatDoor.Pl
set_option linter.unusedVariables false
set_option linter.unusedSimpArgs false

def rnd (s : ByteArray) (m : Nat) : UInt8 := s.data.toList.getD (m % s.size) 0
theorem rotL_ext (s : ByteArray) (i k : Nat) (hi : i < s.size) (hk : k < s.size) : rotL s.data.toList i = rotL s.data.toList k ↔ ∀ m, m < s.size → rnd s (i + m) = rnd s (k + m) := by
  have hl := size_list' s
  constructor
  · intro h m hm
    have h1 := getD_rotL s.data.toList i m (by omega) (by omega)
    have h2 := getD_rotL s.data.toList k m (by omega) (by omega)
    rw [hl] at h1 h2
    unfold rnd
    rw [← h1, ← h2, h]
  · intro h
    apply List.ext_getElem (by simp [length_rotL])
    intro m h1 h2
    rw [length_rotL] at h1
    have e1 := getD_rotL s.data.toList i m (by omega) (by omega)
    have e2 := getD_rotL s.data.toList k m (by omega) (by omega)
    rw [hl] at e1 e2
    have := h m (by omega)
    unfold rnd at this
    rw [← e1, ← e2] at this
    rw [List.getD_eq_getElem?_getD, List.getD_eq_getElem?_getD, List.getElem?_eq_getElem (by rw [length_rotL]; omega), List.getElem?_eq_getElem (by rw [length_rotL]; omega)] at this
    simpa using this

theorem exists_least (P : Nat → Prop) (n : Nat) (h : P n) : ∃ m, P m ∧ ∀ q, q < m → ¬ P q := by
  induction n using Nat.strongRecOn with
  | _ n ih =>
    by_cases hq : ∃ q, q < n ∧ P q
    · obtain ⟨q, hq, hp⟩ := hq; exact ih q hq hp
    · exact ⟨n, h, fun q hq' hp => hq ⟨q, hq', hp⟩⟩

end Go.Proofs.YtcehhgppfahbkaaGreatDoor.Pl
namespace Go.Proofs.YtcehhgppfahbkaaGreatDoor.Pl
set_option linter.unusedVariables false
set_option linter.unusedSimpArgs false

def insRec (s : ByteArray) (i : Int) : List Int → List Int
  | [] => [i]
  | k :: ks => if aheadS s i k then i :: k :: ks else k :: insRec s i ks

theorem foldl_put (s : ByteArray) (i : Int) : ∀ (l acc : List Int), l.foldl (insStep s i) (acc, true) = (acc ++ l, true)
  | [], acc => by simp
  | k :: ks, acc => by
    rw [List.foldl_cons, show insStep s i (acc, true) k = (acc ++ [k], true) from rfl, foldl_put s i ks]
    simp
theorem foldl_ins (s : ByteArray) (i : Int) : ∀ (l acc : List Int), (if (l.foldl (insStep s i) (acc, false)).2 then (l.foldl (insStep s i) (acc, false)).1 else (l.foldl (insStep s i) (acc, false)).1 ++ [i]) = acc ++ insRec s i l
  | [], acc => by simp [insRec]
  | k :: ks, acc => by
    rw [List.foldl_cons]
    cases h : aheadS s i k with
    | true =>
      rw [show insStep s i (acc, false) k = (acc ++ [i] ++ [k], true) by simp [insStep, h], foldl_put]
      simp [insRec, h]
    | false =>
      rw [show insStep s i (acc, false) k = (acc ++ [k], false) by simp [insStep, h], foldl_ins s i ks]
      simp [insRec, h]
theorem insAll_rec (s : ByteArray) (i : Int) (l : List Int) : insAll s i l = insRec s i l := by
  have := foldl_ins s i l []
  unfold insAll insTo
  rw [List.take_length]
  simpa using this

theorem mem_insRec (s : ByteArray) (i x : Int) : ∀ l, x ∈ insRec s i l ↔ x = i ∨ x ∈ l
  | [] => by simp [insRec]
  | k :: ks => by
    simp only [insRec]
    split
    · simp
    · simp only [List.mem_cons, mem_insRec s i x ks]
      exact ⟨fun h => by rcases h with h | h | h <;> simp [h], fun h => by rcases h with h | h | h <;> simp [h]⟩

theorem mem_sortTo (s : ByteArray) (x : Int) : ∀ i : Nat, x ∈ sortTo s i ↔ 0 ≤ x ∧ x < i
  | 0 => by
    constructor
    · intro h; simp [sortTo] at h
    · intro h; omega
  | i + 1 => by
    rw [sortTo, insAll_rec, mem_insRec, mem_sortTo s x i]
    omega

def Ahd (s : ByteArray) (a b : Int) : Prop := aheadS s a b = true

theorem pairwise_ins (s : ByteArray) (i : Int) (hi : isB s i = true) : ∀ l : List Int, (∀ x ∈ l, isB s x = true ∧ x ≠ i) → l.Pairwise (Ahd s) → (insRec s i l).Pairwise (Ahd s)
  | [], _, _ => by simp [insRec]
  | k :: ks, h, hp => by
    rw [List.pairwise_cons] at hp
    simp only [insRec]
    split
    · rename_i h1
      rw [List.pairwise_cons, List.pairwise_cons]
      refine ⟨fun x hx => ?_, hp⟩
      cases List.mem_cons.1 hx with
      | inl e => subst e; exact h1
      | inr e => exact ahead_trans s i k x h1 (hp.1 x e)
    · rename_i h1
      have hk := h k (by simp)
      have hki : aheadS s k i = true := by
        rcases ahead_total s i k hi hk.1 (fun e => hk.2 e.symm) with e | e
        · exact absurd e h1
        · exact e
      rw [List.pairwise_cons]
      refine ⟨fun x hx => ?_, pairwise_ins s i hi ks (fun x hx => h x (by simp [hx])) hp.2⟩
      rw [mem_insRec] at hx
      rcases hx with rfl | hx
      · exact hki
      · exact hp.1 x hx

theorem pairwise_sortTo (s : ByteArray) : ∀ i : Nat, i ≤ s.size → (sortTo s i).Pairwise (Ahd s)
  | 0, _ => by simp [sortTo]
  | i + 1, h => by
    rw [sortTo, insAll_rec]
    refine pairwise_ins s i (isB_of (by omega) (by omega)) _ (fun x hx => ?_) (pairwise_sortTo s i (by omega))
    rw [mem_sortTo] at hx
    exact ⟨isB_of hx.1 (by omega), by omega⟩

theorem nodup_of_pairwise (s : ByteArray) {l : List Int} (h : l.Pairwise (Ahd s)) : l.Nodup := by
  refine List.Pairwise.imp ?_ h
  intro a b hab e
  subst e
  have := ahead_irrefl s a
  rw [hab] at this
  cases this

theorem pairwise_of_ok (s : ByteArray) (xs : List Int) (h : ∀ j, j < xs.length → okAt s xs j = true) : xs.Pairwise (Ahd s) := by
  rw [List.pairwise_iff_getElem]
  have step : ∀ j, j + 1 < xs.length → aheadS s (xs.getD j 0) (xs.getD (j + 1) 0) = true := by
    intro j hj
    have := h (j + 1) hj
    unfold okAt at this
    simpa using (Bool.and_eq_true_iff.1 this).2
  have far : ∀ d i, i + d + 1 < xs.length → aheadS s (xs.getD i 0) (xs.getD (i + d + 1) 0) = true := by
    intro d
    induction d with
    | zero => intro i hi; exact step i hi
    | succ d ih =>
      intro i hi
      exact ahead_trans s _ _ _ (ih i (by omega)) (step (i + d + 1) (by omega))
  intro i j hi hj hij
  have := far (j - i - 1) i (by omega)
  rw [show i + (j - i - 1) + 1 = j by omega, List.getD_eq_getElem?_getD, List.getD_eq_getElem?_getD, List.getElem?_eq_getElem hi, List.getElem?_eq_getElem hj] at this
  exact this
theorem ok_of_pairwise (s : ByteArray) (xs : List Int) (h : xs.Pairwise (Ahd s)) (hp : ∀ x ∈ xs, isB s x = true) : ∀ j, j < xs.length → okAt s xs j = true := by
  intro j hj
  rw [List.pairwise_iff_getElem] at h
  unfold okAt
  rw [Bool.and_eq_true_iff]
  constructor
  · rw [List.getD_eq_getElem?_getD, List.getElem?_eq_getElem hj]; exact hp _ (List.getElem_mem hj)
  · by_cases h0 : j = 0
    · subst h0; rfl
    · have := h (j - 1) j (by omega) hj (by omega)
      rw [List.getD_eq_getElem?_getD, List.getD_eq_getElem?_getD, List.getElem?_eq_getElem hj, List.getElem?_eq_getElem (show j - 1 < xs.length by omega)]
      rw [Bool.or_eq_true_iff]; right; exact this

theorem sorted_perm (s : ByteArray) (xs : List Int) (h : xs.Pairwise (Ahd s)) (hp : ∀ x ∈ xs, isB s x = true) (hl : xs.length = s.size) : ∀ a, a ∈ xs ↔ a ∈ sortTo s s.size := by
  have hn := nodup_of_pairwise s h
  have hsub : ∀ x ∈ xs, x ∈ sortTo s s.size := fun x hx => by rw [mem_sortTo]; exact isB_true (hp x hx)
  intro a
  refine ⟨hsub a, fun ha => ?_⟩
  refine Decidable.byContradiction fun hna => ?_
  have h2 : (a :: xs).Nodup := List.nodup_cons.2 ⟨hna, hn⟩
  have := h2.length_le_of_subset (l₂ := sortTo s s.size) (fun x hx => by
    cases List.mem_cons.1 hx with
    | inl e => subst e; exact ha
    | inr e => exact hsub x e)
  rw [sortTo_length] at this
  simp at this
  omega

theorem sorted_unique (s : ByteArray) (xs : List Int) : sortedS s xs = (xs == sortTo s s.size) := by
  have hps := pairwise_sortTo s s.size (Nat.le_refl _)
  have hpl : ∀ x ∈ sortTo s s.size, isB s x = true := fun x hx => by rw [mem_sortTo] at hx; exact isB_of hx.1 hx.2
  rw [Bool.eq_iff_iff]
  constructor
  · intro h
    unfold sortedS at h
    rw [Bool.and_eq_true_iff, List.all_eq_true, beq_iff_eq] at h
    have hok : ∀ j, j < xs.length → okAt s xs j = true := fun j hj => h.1 j (by simpa using hj)
    have hpw := pairwise_of_ok s xs hok
    have hp : ∀ x ∈ xs, isB s x = true := by
      intro x hx
      obtain ⟨j, hj, rfl⟩ := List.mem_iff_getElem.1 hx
      have := (Bool.and_eq_true_iff.1 (hok j hj)).1
      rwa [List.getD_eq_getElem?_getD, List.getElem?_eq_getElem hj] at this
    have hmem := sorted_perm s xs hpw hp h.2
    have hperm := (List.perm_ext_iff_of_nodup (nodup_of_pairwise s hpw) (nodup_of_pairwise s hps)).2 hmem
    rw [beq_iff_eq]
    refine List.Perm.eq_of_pairwise (le := Ahd s) (fun a b _ _ hab hba => ?_) hpw hps hperm
    have := ahead_asymm s a b hab
    unfold Ahd at hba
    rw [hba] at this
    cases this
  · intro h
    rw [beq_iff_eq] at h
    subst h
    unfold sortedS
    rw [Bool.and_eq_true_iff, List.all_eq_true, beq_iff_eq, sortTo_length]
    exact ⟨fun j hj => ok_of_pairwise s _ hps hpl j (by rw [sortTo_length]; simpa using hj), rfl⟩

end Go.Proofs.YtcehhgppfahbkaaGreatDoor.Pl
namespace Go.Proofs.YtcehhgppfahbkaaGreatDoor
set_option linter.unusedVariables false
set_option linter.unusedSimpArgs false
open Go.RowKit

structure SS where
  ord : List Nat
  cls : List Nat
  asd : List Nat
  reach : Nat
  stk : List (Nat × Nat × Nat)
  lo : Nat
  mid : Nat
  hi : Nat
  laid : Nat
  one : Nat
  two : Nat
  rnk : Nat
  last : Nat
  steps : Nat
  done : Bool

namespace Sp
def gtP (k l : Nat × Nat) : Bool := decide (l.1 < k.1) || (k.1 == l.1 && decide (l.2 < k.2))
def keyS (s : ByteArray) (reach : Nat) (cls : List Nat) (a : Nat) : Nat × Nat := if reach = 0 then ((s.data.toList.getD a 0).toNat, 0) else (cls.getD a 0, cls.getD ((a + reach) % s.size) 0)
def abS (s : ByteArray) (x : SS) (a b : Nat) : Bool := gtP (keyS s x.reach x.cls a) (keyS s x.reach x.cls b)
def joinS (x : SS) : SS := match x.stk with
  | [] => x
  | p :: r => if x.hi = 0 ∧ p.2.1 ≠ 0 then { x with lo := p.1, mid := p.2.1, hi := p.2.2, stk := r, laid := 0, one := 0, two := p.2.1 } else x
def layS (x : SS) : SS := { x with asd := x.asd.set x.laid (x.ord.getD (x.lo + x.laid) 0), laid := x.laid + 1 }
def takeS (s : ByteArray) (x : SS) : Bool := x.two == x.hi || (decide (x.one < x.laid) && !(abS s x (x.asd.getD x.one 0) (x.ord.getD x.two 0)))
def toS (x : SS) : Nat := x.lo + x.one + x.two - x.mid
def endS (x : SS) (e : Bool) : SS := if e then { x with lo := 0, mid := 0, hi := 0 } else x
def putS (s : ByteArray) (x : SS) : SS :=
  endS (if takeS s x then { x with ord := x.ord.set (toS x) (x.asd.getD x.one 0), one := x.one + 1 } else { x with ord := x.ord.set (toS x) (x.ord.getD x.two 0), two := x.two + 1 }) (toS x + 1 == x.hi)
def beginS (x : SS) : SS := match x.stk with
  | [] => x
  | p :: r => if p.2.2 - p.1 < 2 then { x with stk := r } else { x with stk := (p.1, 0, (p.1 + p.2.2) / 2) :: ((p.1 + p.2.2) / 2, 0, p.2.2) :: (p.1, (p.1 + p.2.2) / 2, p.2.2) :: r }
def lastS (s : ByteArray) (x : SS) : Nat := if x.rnk = 0 then 0 else if abS s x (x.ord.getD x.rnk 0) (x.ord.getD (x.rnk - 1) 0) then x.last + 1 else x.last
def passS (x : SS) : SS := if x.last + 1 = x.ord.length ∨ x.ord.length ≤ x.reach then { x with cls := x.asd, asd := x.cls, rnk := 0, done := true }
  else { x with cls := x.asd, asd := x.cls, rnk := 0, reach := max 1 (2 * x.reach), stk := (0, 0, x.ord.length) :: x.stk }
def classS (s : ByteArray) (x : SS) : SS := { x with last := lastS s x, asd := x.asd.set (x.ord.getD x.rnk 0) (lastS s x), rnk := x.rnk + 1 }
def rankS (s : ByteArray) (x : SS) : SS := if (classS s x).rnk = x.ord.length then passS (classS s x) else classS s x
def actS (s : ByteArray) (x : SS) : SS := if 0 < x.hi then (if x.laid < x.mid - x.lo then layS x else putS s x) else match x.stk with | [] => rankS s x | _ => beginS x
def stepS (s : ByteArray) (x : SS) : SS := { actS s (joinS x) with steps := x.steps + 1 }
def startS (n : Nat) : SS := ⟨List.range n, List.replicate n 0, List.replicate n 0, 0, [(0, 0, n)], 0, 0, 0, 0, 0, 0, 0, 0, 0, decide (n < 2)⟩
def iterS (s : ByteArray) : Nat → SS → SS
  | 0, x => x
  | k + 1, x => iterS s k (stepS s x)

def costT (m : Nat) : Nat := if h : m < 2 then 1 else 1 + costT (m / 2) + costT (m - m / 2) + m / 2 + m
termination_by m
theorem costT_small {m : Nat} (h : m < 2) : costT m = 1 := by rw [costT]; simp [h]
theorem costT_big {m : Nat} (h : 2 ≤ m) : costT m = 1 + costT (m / 2) + costT (m - m / 2) + m / 2 + m := by
  rw [costT]; simp [show ¬ m < 2 by omega]
theorem costT_pos (m : Nat) : 1 ≤ costT m := by
  by_cases h : m < 2
  · rw [costT_small h]; omega
  · rw [costT_big (by omega)]; omega
theorem costT_most : ∀ b m, 1 ≤ m → m ≤ 2 ^ b → costT m ≤ (3 + 3 * b) * m
  | 0, m, h1, h2 => by
    have : m = 1 := by simp at h2; omega
    subst this
    rw [costT_small (by omega)]
    omega
  | b + 1, m, h1, h2 => by
    by_cases h : m < 2
    · rw [costT_small h]
      have : 0 < (3 + 3 * (b + 1)) * m := Nat.mul_pos (by omega) (by omega)
      omega
    · rw [costT_big (by omega)]
      rw [Nat.pow_succ] at h2
      have e1 := costT_most b (m / 2) (by omega) (by omega)
      have e2 := costT_most b (m - m / 2) (by omega) (by omega)
      have e3 : (3 + 3 * b) * (m / 2) + (3 + 3 * b) * (m - m / 2) = (3 + 3 * b) * m := by rw [← Nat.mul_add]; congr 1; omega
      have e4 : (3 + 3 * (b + 1)) * m = (3 + 3 * b) * m + 3 * m := by rw [← Nat.add_mul]; congr 1
      omega

def costP (p : Nat × Nat × Nat) : Nat := if p.2.1 = 0 then costT (p.2.2 - p.1) else (p.2.1 - p.1) + (p.2.2 - p.1)
def restM (x : SS) : Nat := if x.hi = 0 then 0 else (x.mid - x.lo - x.laid) + (x.hi - x.lo - (x.one + (x.two - x.mid)))
def restP (n : Nat) (x : SS) : Nat := (x.stk.map costP).sum + restM x + (n - x.rnk)

def PartOk (n : Nat) (p : Nat × Nat × Nat) : Prop := p.1 ≤ p.2.2 ∧ p.2.2 ≤ n ∧ (p.2.1 = 0 ∨ p.1 < p.2.1 ∧ p.2.1 < p.2.2)
structure MergeOk (n : Nat) (x : SS) : Prop where
  lm : x.lo < x.mid
  mh : x.mid < x.hi
  hn : x.hi ≤ n
  laid : x.laid ≤ x.mid - x.lo
  one : x.one ≤ x.laid
  two1 : x.mid ≤ x.two
  two2 : x.two ≤ x.hi
  fresh : x.laid < x.mid - x.lo → x.one = 0 ∧ x.two = x.mid
  more : x.lo + x.one + x.two - x.mid < x.hi
  asd : ∀ i, i < x.laid → x.asd.getD i 0 < n
structure Ok (n m : Nat) (x : SS) : Prop where
  ol : x.ord.length = n
  cl : x.cls.length = n
  al : x.asd.length = n
  ord : ∀ i, i < n → x.ord.getD i 0 < n
  reach : x.reach = 0 ∧ 1 ≤ m ∧ n ≤ 2 ^ (m - 1) ∨ 1 ≤ x.reach ∧ n ≤ x.reach * 2 ^ m
  rle : x.reach ≤ 2 * n
  stk : ∀ p, p ∈ x.stk → PartOk n p
  merge : x.hi = 0 ∨ MergeOk n x
  rnk : x.done = false → x.rnk < n
  rnk0 : 0 < x.rnk → x.stk = [] ∧ x.hi = 0
  last : x.last ≤ n
  last2 : x.rnk = 0 ∨ x.last < x.rnk

theorem getD_set {l : List Nat} {i j v : Nat} : (l.set i v).getD j 0 = if i = j ∧ i < l.length then v else l.getD j 0 := by
  simp only [List.getD_eq_getElem?_getD, List.getElem?_set]
  by_cases h : i = j
  · subst h
    by_cases h2 : i < l.length
    · simp [h2]
    · simp [h2, List.getElem?_eq_none (Nat.le_of_not_lt h2)]
  · simp [h]

theorem Ok.join {n m : Nat} {x : SS} (h : Ok n m x) : Ok n m (joinS x) := by
  unfold joinS
  split
  · exact h
  · rename_i p r hs
    split
    · rename_i hc
      obtain ⟨h0, h1⟩ := hc
      have hp := h.stk p (by rw [hs]; simp)
      obtain ⟨q1, q2, q3⟩ := hp
      have q3 := q3.resolve_left h1
      have hr0 : x.rnk = 0 := by
        rcases Nat.eq_zero_or_pos x.rnk with h2 | h2
        · exact h2
        · rw [(h.rnk0 h2).1] at hs; cases hs
      refine ⟨h.ol, h.cl, h.al, h.ord, h.reach, h.rle, fun q hq => h.stk q (by rw [hs]; exact List.mem_cons_of_mem _ hq), .inr ⟨?_, ?_, ?_, ?_, ?_, ?_, ?_, ?_, ?_, ?_⟩, h.rnk, fun h2 => ?_, h.last, .inl hr0⟩ <;> simp only at * <;> try omega
      exact fun _ => ⟨trivial, trivial⟩
    · exact h

theorem Ok.lay {n m : Nat} {x : SS} (h : Ok n m x) (h0 : 0 < x.hi) (h1 : x.laid < x.mid - x.lo) : Ok n m (layS x) := by
  have hm := h.merge.resolve_left (by omega)
  obtain ⟨m1, m2, m3, m4, m5, m6, m7, m8, m9, m10⟩ := hm
  have := m8 h1
  refine ⟨h.ol, h.cl, by simpa [layS] using h.al, h.ord, h.reach, h.rle, h.stk, .inr ⟨m1, m2, m3, ?_, ?_, m6, m7, ?_, m9, ?_⟩, h.rnk, h.rnk0, h.last, h.last2⟩
  · simp only [layS]; omega
  · simp only [layS]; omega
  · intro _; exact this
  · intro i hi
    simp only [layS, getD_set]
    have hol := h.ol
    have hal := h.al
    split
    · exact h.ord _ (by omega)
    · rename_i hne
      exact m10 i (by simp only [layS] at hi; omega)

theorem Ok.put {n m : Nat} {x : SS} (s : ByteArray) (h : Ok n m x) (h0 : 0 < x.hi) (h1 : ¬ x.laid < x.mid - x.lo) : Ok n m (putS s x) := by
  have hm := h.merge.resolve_left (by omega)
  obtain ⟨m1, m2, m3, m4, m5, m6, m7, m8, m9, m10⟩ := hm
  have hr : x.rnk = 0 := by
    rcases Nat.eq_zero_or_pos x.rnk with h2 | h2
    · exact h2
    · have := (h.rnk0 h2).2; omega
  have hol := h.ol
  unfold putS
  by_cases ht : takeS s x = true
  · rw [if_pos ht]
    have h1l : x.one < x.laid := by
      unfold takeS at ht
      rw [Bool.or_eq_true, Bool.and_eq_true, decide_eq_true_iff] at ht
      rcases ht with h2 | h2
      · have : x.two = x.hi := by simpa using h2
        omega
      · exact h2.1
    have hord : ∀ i, i < n → (x.ord.set (toS x) (x.asd.getD x.one 0)).getD i 0 < n := by
      intro i hi
      rw [getD_set]
      split
      · exact m10 _ h1l
      · exact h.ord i hi
    unfold endS
    by_cases he : (toS x + 1 == x.hi) = true
    · rw [if_pos he]
      exact ⟨by simpa using hol, h.cl, h.al, hord, h.reach, h.rle, h.stk, .inl rfl, h.rnk, fun h2 => ⟨(h.rnk0 h2).1, rfl⟩, h.last, h.last2⟩
    · rw [if_neg he]
      have he : ¬ toS x + 1 = x.hi := by simpa using he
      unfold toS at he
      refine ⟨by simpa using hol, h.cl, h.al, hord, h.reach, h.rle, h.stk, .inr ⟨m1, m2, m3, m4, ?_, m6, m7, ?_, ?_, m10⟩, h.rnk, h.rnk0, h.last, h.last2⟩
      · simp only; omega
      · simp only; omega
      · simp only; omega
  · rw [if_neg ht]
    have h1l : x.two < x.hi := by
      unfold takeS at ht
      rw [Bool.or_eq_true] at ht
      have h2 : ¬ x.two = x.hi := fun h2 => ht (.inl (by simpa using h2))
      omega
    have hord : ∀ i, i < n → (x.ord.set (toS x) (x.ord.getD x.two 0)).getD i 0 < n := by
      intro i hi
      rw [getD_set]
      split
      · exact h.ord _ (by omega)
      · exact h.ord i hi
    unfold endS
    by_cases he : (toS x + 1 == x.hi) = true
    · rw [if_pos he]
      exact ⟨by simpa using hol, h.cl, h.al, hord, h.reach, h.rle, h.stk, .inl rfl, h.rnk, fun h2 => ⟨(h.rnk0 h2).1, rfl⟩, h.last, h.last2⟩
    · rw [if_neg he]
      have he : ¬ toS x + 1 = x.hi := by simpa using he
      unfold toS at he
      refine ⟨by simpa using hol, h.cl, h.al, hord, h.reach, h.rle, h.stk, .inr ⟨m1, m2, m3, m4, m5, ?_, ?_, ?_, ?_, m10⟩, h.rnk, h.rnk0, h.last, h.last2⟩
      · simp only; omega
      · simp only; omega
      · simp only; omega
      · simp only; omega

theorem Ok.begins {n m : Nat} {x : SS} (h : Ok n m x) (h0 : x.hi = 0) : Ok n m (beginS x) := by
  unfold beginS
  split
  · exact h
  · rename_i p r hs
    have hr : x.rnk = 0 := by
      rcases Nat.eq_zero_or_pos x.rnk with h2 | h2
      · exact h2
      · have := (h.rnk0 h2).1; rw [hs] at this; cases this
    have hp := h.stk p (by rw [hs]; simp)
    have hrest : ∀ q, q ∈ r → PartOk n q := fun q hq => h.stk q (by rw [hs]; exact List.mem_cons_of_mem _ hq)
    obtain ⟨q1, q2, q3⟩ := hp
    split
    · exact ⟨h.ol, h.cl, h.al, h.ord, h.reach, h.rle, hrest, .inl h0, h.rnk, fun h2 => by simp only at h2; omega, h.last, h.last2⟩
    · refine ⟨h.ol, h.cl, h.al, h.ord, h.reach, h.rle, fun q hq => ?_, .inl h0, h.rnk, fun h2 => by simp only at h2; omega, h.last, h.last2⟩
      simp only [List.mem_cons] at hq
      rcases hq with rfl | rfl | rfl | hq
      · exact ⟨by simp only; omega, by simp only; omega, .inl rfl⟩
      · exact ⟨by simp only; omega, by simp only; omega, .inl rfl⟩
      · exact ⟨by simp only; omega, by simp only; omega, .inr (by simp only; omega)⟩
      · exact hrest q hq

theorem lastS_le {n m : Nat} {x : SS} (s : ByteArray) (h : Ok n m x) : lastS s x ≤ x.rnk := by
  unfold lastS
  have := h.last2
  split
  · omega
  · split <;> omega

theorem Ok.ranks {n m : Nat} {x : SS} (s : ByteArray) (h : Ok n m x) (h0 : x.hi = 0) (hs : x.stk = []) (hd : x.done = false) :
    Ok n (if x.rnk + 1 = n ∧ (rankS s x).done = false then m - 1 else m) (rankS s x) ∧ (x.rnk + 1 = n → (rankS s x).done = false → 1 ≤ m) := by
  have hl := lastS_le s h
  have hrn := h.rnk hd
  have hol := h.ol
  unfold rankS
  by_cases he : (classS s x).rnk = x.ord.length
  · rw [if_pos he]
    have he2 : x.rnk + 1 = n := by simp only [classS] at he; omega
    unfold passS
    by_cases hc : (classS s x).last + 1 = (classS s x).ord.length ∨ (classS s x).ord.length ≤ (classS s x).reach
    · rw [if_pos hc]
      refine ⟨?_, fun _ h2 => by simp at h2⟩
      rw [if_neg (by simp)]
      exact ⟨h.ol, by simpa [classS] using h.al, h.cl, h.ord, h.reach, h.rle, h.stk, .inl h0, fun h2 => (by cases h2), fun h2 => by simp only at h2; omega, by simp only [classS]; omega, .inl rfl⟩
    · rw [if_neg hc]
      have hc2 : x.reach < n := by simp only [classS] at hc; omega
      have hm : 1 ≤ m := by
        rcases h.reach with h2 | h2
        · exact h2.2.1
        · rcases Nat.eq_zero_or_pos m with h3 | h3
          · subst h3; simp at h2; omega
          · exact h3
      refine ⟨?_, fun _ _ => hm⟩
      rw [if_pos ⟨he2, by simpa [classS] using hd⟩]
      refine ⟨h.ol, by simpa [classS] using h.al, h.cl, h.ord, ?_, ?_, ?_, .inl h0, fun _ => by simp only; omega, fun h2 => by simp only at h2; omega, by simp only [classS]; omega, .inl rfl⟩
      · right
        simp only [classS]
        refine ⟨by omega, ?_⟩
        rcases h.reach with h2 | h2
        · rw [h2.1]; simpa using h2.2.2
        · have e : max 1 (2 * x.reach) = 2 * x.reach := by omega
          rw [e]
          have e2 : 2 * x.reach * 2 ^ (m - 1) = x.reach * 2 ^ m := by
            obtain ⟨k, rfl⟩ : ∃ k, m = k + 1 := ⟨m - 1, by omega⟩
            rw [Nat.pow_succ, Nat.add_sub_cancel, Nat.mul_comm 2 x.reach, Nat.mul_assoc, Nat.mul_comm 2]
          rw [e2]; exact h2.2
      · simp only [classS]; omega
      · intro q hq
        simp only [classS, hs, List.mem_singleton] at hq
        subst hq
        exact ⟨by simp, by simp only; omega, .inl rfl⟩
  · rw [if_neg he]
    have he2 : x.rnk + 1 ≠ n := by simp only [classS] at he; omega
    rw [if_neg (by omega)]
    refine ⟨?_, fun h2 => absurd h2 he2⟩
    exact ⟨h.ol, h.cl, by simpa [classS] using h.al, h.ord, h.reach, h.rle, h.stk, .inl h0, fun _ => by simp only [classS]; omega, fun _ => ⟨hs, h0⟩, by simp only [classS]; omega, .inr (by simp only [classS]; omega)⟩

theorem restP_join {n m : Nat} {x : SS} (h : Ok n m x) : restP n (joinS x) = restP n x := by
  unfold joinS
  split
  · rfl
  · rename_i p r hs
    split
    · rename_i hc
      have hp := (h.stk p (by rw [hs]; simp)).2.2.resolve_left hc.2
      unfold restP restM
      rw [hs]
      simp only [List.map_cons, List.sum_cons, hc.1, if_true, costP, if_neg hc.2]
      rw [if_neg (by omega)]; omega
    · rfl
theorem restP_lay {n m : Nat} {x : SS} (h : Ok n m x) (h0 : 0 < x.hi) (h1 : x.laid < x.mid - x.lo) : restP n (layS x) + 1 = restP n x := by
  unfold restP restM layS
  simp only
  rw [if_neg (by omega), if_neg (by omega)]
  omega
theorem restP_put {n m : Nat} {x : SS} (s : ByteArray) (h : Ok n m x) (h0 : 0 < x.hi) (h1 : ¬ x.laid < x.mid - x.lo) : restP n (putS s x) + 1 = restP n x := by
  obtain ⟨m1, m2, m3, m4, m5, m6, m7, m8, m9, m10⟩ := h.merge.resolve_left (by omega)
  have e0 : restM x = x.hi - x.lo - (x.one + (x.two - x.mid)) := by
    unfold restM; rw [if_neg (by omega)]; omega
  have key : ∀ y : SS, y.stk = x.stk → y.rnk = x.rnk → y.lo = x.lo → y.mid = x.mid → y.hi = x.hi → y.laid = x.laid → (y.one = x.one + 1 ∧ y.two = x.two ∨ y.one = x.one ∧ y.two = x.two + 1) → restP n (endS y (toS x + 1 == x.hi)) + 1 = restP n x := by
    intro y e1 e2 e3 e4 e5 e6 e7
    unfold restP
    rw [e0]
    have hto : toS x = x.lo + x.one + x.two - x.mid := rfl
    by_cases he : toS x + 1 = x.hi
    · have he2 : (toS x + 1 == x.hi) = true := by simpa using he
      have : restM (endS y true) = 0 := by simp [restM, endS]
      rw [he2, this]
      simp only [endS, if_true, e1, e2]
      omega
    · have he2 : (toS x + 1 == x.hi) = false := by simpa using he
      rw [he2]
      have : restM (endS y false) = x.hi - x.lo - (y.one + (y.two - x.mid)) := by
        unfold restM; simp only [endS, Bool.false_eq_true, if_false]; rw [if_neg (by omega), e3, e4, e5, e6]; omega
      rw [this]
      simp only [endS, Bool.false_eq_true, if_false, e1, e2]
      omega
  unfold putS
  split
  · exact key _ rfl rfl rfl rfl rfl rfl (.inl ⟨rfl, rfl⟩)
  · exact key _ rfl rfl rfl rfl rfl rfl (.inr ⟨rfl, rfl⟩)
theorem restP_begin {n m : Nat} {x : SS} (h : Ok n m x) (h0 : x.hi = 0) {p : Nat × Nat × Nat} {r : List (Nat × Nat × Nat)} (hs : x.stk = p :: r) (hp : p.2.1 = 0) : restP n (beginS x) + 1 = restP n x := by
  unfold beginS
  rw [hs]
  simp only
  split
  · rename_i hc
    unfold restP restM
    rw [hs]
    simp only [List.map_cons, List.sum_cons, h0, if_true, costP, hp]
    rw [costT_small hc]
    omega
  · rename_i hc
    have h2 := h.stk p (by rw [hs]; simp)
    have q1 := h2.1
    unfold restP restM
    rw [hs]
    simp only [List.map_cons, List.sum_cons, h0, if_true, costP, hp]
    rw [costT_big (m := p.2.2 - p.1) (by omega), if_neg (by omega)]
    have e1 : (p.1 + p.2.2) / 2 - p.1 = (p.2.2 - p.1) / 2 := by omega
    have e2 : p.2.2 - (p.1 + p.2.2) / 2 = p.2.2 - p.1 - (p.2.2 - p.1) / 2 := by omega
    rw [e1, e2]
    omega

def total (n m : Nat) (x : SS) : Nat := restP n x + m * (costT n + n)

theorem restP_rank {n m : Nat} {x : SS} (s : ByteArray) (h : Ok n m x) (h0 : x.hi = 0) (hs : x.stk = []) (hd : x.done = false) (hnd : (rankS s x).done = false) :
    total n (if x.rnk + 1 = n ∧ (rankS s x).done = false then m - 1 else m) (rankS s x) + 1 = total n m x := by
  have hm := (h.ranks s h0 hs hd).2
  have hrn := h.rnk hd
  have hol := h.ol
  have e0 : restP n x = n - x.rnk := by unfold restP restM; rw [hs, if_pos h0]; simp
  unfold total
  rw [e0]
  by_cases he : x.rnk + 1 = n
  · have hm := hm he hnd
    rw [if_pos ⟨he, hnd⟩]
    obtain ⟨k, rfl⟩ : ∃ k, m = k + 1 := ⟨m - 1, by omega⟩
    have e1 : restP n (rankS s x) = costT n + n := by
      unfold rankS at hnd ⊢
      rw [if_pos (by simp only [classS]; omega)] at hnd ⊢
      unfold passS at hnd ⊢
      split at hnd
      · cases hnd
      · rename_i hc
        rw [if_neg hc]
        unfold restP restM
        simp [classS, hs, h0, costP, hol]
    rw [e1, Nat.add_sub_cancel, Nat.add_mul, Nat.one_mul]
    omega
  · rw [if_neg (by omega)]
    have e1 : restP n (rankS s x) = n - (x.rnk + 1) := by
      unfold rankS
      rw [if_neg (by simp only [classS]; omega)]
      unfold restP restM
      simp [classS, hs, h0]
    rw [e1]
    omega

theorem Ok.of_steps {n m : Nat} {x : SS} (h : Ok n m x) (k : Nat) : Ok n m { x with steps := k } := ⟨h.ol, h.cl, h.al, h.ord, h.reach, h.rle, h.stk, (h.merge.imp id fun ⟨a, b, c, d, e, f, g, i, j, l⟩ => ⟨a, b, c, d, e, f, g, i, j, l⟩), h.rnk, h.rnk0, h.last, h.last2⟩

theorem join_top {x : SS} {p : Nat × Nat × Nat} {r : List (Nat × Nat × Nat)} (hs : (joinS x).stk = p :: r) (h0 : (joinS x).hi = 0) {n m : Nat} (h : Ok n m x) : p.2.1 = 0 := by
  unfold joinS at hs h0
  split at hs
  · rename_i h1; rw [h1] at hs; cases hs
  · rename_i q r' h1
    split at hs
    · rename_i hc
      rw [h1] at h0
      simp only [if_pos hc] at h0
      have := (h.stk q (by rw [h1]; simp)).2.2.resolve_left hc.2
      omega
    · rename_i hc
      rw [h1] at h0
      simp only [if_neg hc] at h0
      rw [h1] at hs
      cases hs
      exact Decidable.byContradiction fun hp => hc ⟨h0, hp⟩

theorem join_done (x : SS) : (joinS x).done = x.done := by
  unfold joinS
  split
  · rfl
  · split <;> rfl

theorem Ok.step {n m : Nat} {x : SS} (s : ByteArray) (h : Ok n m x) (hd : x.done = false) :
    ∃ m', Ok n m' (stepS s x) ∧ ((stepS s x).done = false → total n m' (stepS s x) + 1 = total n m x) := by
  have hj := h.join
  have ej := restP_join h
  have hdj : (joinS x).done = false := by rw [join_done]; exact hd
  unfold stepS
  have tk : ∀ (m' : Nat) (y : SS) (k : Nat), total n m' { y with steps := k } = total n m' y := fun m' y k => rfl
  have fin : ∀ m' y, Ok n m' y → (y.done = false → total n m' y + 1 = total n m (joinS x)) → ∃ m', Ok n m' { y with steps := x.steps + 1 } ∧ (({ y with steps := x.steps + 1 } : SS).done = false → total n m' { y with steps := x.steps + 1 } + 1 = total n m x) := fun m' y h1 h2 =>
    ⟨m', h1.of_steps _, fun h3 => by rw [tk, h2 h3]; unfold total; rw [ej]⟩
  unfold actS
  by_cases h0 : 0 < (joinS x).hi
  · rw [if_pos h0]
    by_cases h1 : (joinS x).laid < (joinS x).mid - (joinS x).lo
    · rw [if_pos h1]
      exact fin m _ (hj.lay h0 h1) fun _ => by unfold total; rw [← restP_lay hj h0 h1]; omega
    · rw [if_neg h1]
      exact fin m _ (hj.put s h0 h1) fun _ => by unfold total; rw [← restP_put s hj h0 h1]; omega
  · rw [if_neg h0]
    have h0 : (joinS x).hi = 0 := by omega
    split
    · rename_i hs
      exact fin _ _ (hj.ranks s h0 hs hdj).1 fun h3 => restP_rank s hj h0 hs hdj h3
    · rename_i hs
      obtain ⟨p, r, hs⟩ : ∃ p r, (joinS x).stk = p :: r := by
        cases h2 : (joinS x).stk with
        | nil => exact absurd h2 hs
        | cons p r => exact ⟨p, r, rfl⟩
      exact fin m _ (hj.begins h0) fun _ => by unfold total; rw [← restP_begin hj h0 hs (join_top hs h0 h)]; omega

end Sp
end Go.Proofs.YtcehhgppfahbkaaGreatDoor
namespace Go.Proofs.YtcehhgppfahbkaaGreatDoor
set_option linter.unusedVariables false
set_option linter.unusedSimpArgs false
open Go.RowKit
namespace Sp

theorem gtP_iff (k l : Nat × Nat) : gtP k l = true ↔ l.1 < k.1 ∨ l.1 = k.1 ∧ l.2 < k.2 := by
  unfold gtP
  rw [Bool.or_eq_true, Bool.and_eq_true, decide_eq_true_iff, decide_eq_true_iff, beq_iff_eq]
  constructor <;> intro h <;> omega
theorem gtP_not (k l : Nat × Nat) : gtP k l = false ↔ gtP l k = true ∨ k = l := by
  rw [Bool.eq_false_iff, ne_eq, gtP_iff, gtP_iff, Prod.ext_iff]
  omega
def Rk (k : Nat → Nat × Nat) (a b : Nat) : Prop := gtP (k b) (k a) = true ∨ k a = k b ∧ a < b
theorem iter_add (s : ByteArray) : ∀ a b x, iterS s (a + b) x = iterS s b (iterS s a x)
  | 0, b, x => by rw [Nat.zero_add]; rfl
  | a + 1, b, x => by rw [Nat.add_right_comm]; exact iter_add s a b (stepS s x)
theorem join_in {x : SS} (h : 0 < x.hi) : joinS x = x := by
  unfold joinS
  split
  · rfl
  · rw [if_neg (by omega)]
theorem step_join (s : ByteArray) (x : SS) (h : 0 < (joinS x).hi) (hst : (joinS x).steps = x.steps) : stepS s x = stepS s (joinS x) := by
  unfold stepS
  rw [join_in h, hst]
theorem iter_join (s : ByteArray) (c : Nat) (x : SS) (h : 0 < (joinS x).hi) (hst : (joinS x).steps = x.steps) : iterS s (c + 1) x = iterS s (c + 1) (joinS x) := by
  show iterS s c (stepS s x) = iterS s c (stepS s (joinS x))
  rw [step_join s x h hst]

theorem getD_mid (pre : List Nat) (v : Nat) (post : List Nat) : (pre ++ v :: post).getD pre.length 0 = v := by
  simp [List.getD_eq_getElem?_getD]
theorem set_mid (pre : List Nat) (v u : Nat) (post : List Nat) : (pre ++ v :: post).set pre.length u = pre ++ u :: post := by
  rw [List.set_append_right (h := Nat.le_refl _), Nat.sub_self]; rfl

theorem lay_run (s : ByteArray) : ∀ (A D E : List Nat) (x : SS) (pre B post : List Nat), x.ord = pre ++ (D ++ A) ++ B ++ post → x.lo = pre.length → x.mid = x.lo + D.length + A.length → 0 < x.hi → x.asd = D ++ E → x.laid = D.length → A.length ≤ E.length →
    iterS s A.length x = { x with asd := D ++ A ++ E.drop A.length, laid := D.length + A.length, steps := x.steps + A.length }
  | [], D, E, x, pre, B, post, _, _, _, _, h5, h6, _ => by
    simp only [iterS, List.length_nil, List.append_nil, List.drop_zero, Nat.add_zero]
    rw [← h5, ← h6]
  | a :: A, D, [], x, pre, B, post, _, _, _, _, _, _, h7 => by simp at h7
  | a :: A, D, e :: E, x, pre, B, post, h1, h2, h3, h4, h5, h6, h7 => by
    simp only [List.length_cons] at *
    have hst : stepS s x = { x with asd := (D ++ [a]) ++ E, laid := x.laid + 1, steps := x.steps + 1 } := by
      have hg : x.ord.getD (x.lo + x.laid) 0 = a := by
        rw [h1, h2, h6, show pre ++ (D ++ a :: A) ++ B ++ post = (pre ++ D) ++ a :: (A ++ B ++ post) by simp, ← List.length_append]
        exact getD_mid _ _ _
      unfold stepS
      rw [join_in h4]
      unfold actS
      rw [if_pos h4, if_pos (by omega)]
      unfold layS
      rw [hg, h5, h6, set_mid]
      simp
    show iterS s A.length (stepS s x) = _
    rw [hst]
    rw [lay_run s A (D ++ [a]) E { x with asd := (D ++ [a]) ++ E, laid := x.laid + 1, steps := x.steps + 1 } pre B post (by simp [h1]) h2 (by simp only [List.length_append, List.length_cons, List.length_nil]; omega) h4 rfl (by simp [h6]) (by omega)]
    simp [Nat.add_assoc, Nat.add_comm, Nat.add_left_comm]

theorem merge_run (s : ByteArray) (k : Nat → Nat × Nat) : ∀ (c : Nat) (x : SS) (pre P J B post D A E : List Nat), A.length + B.length = c → 0 < c → (∀ a, k a = keyS s x.reach x.cls a) →
    x.ord = pre ++ P ++ J ++ B ++ post → x.asd = D ++ A ++ E → J.length = A.length → x.lo = pre.length → x.hi = x.lo + P.length + J.length + B.length → x.two + B.length = x.hi → x.one = D.length → x.laid = D.length + A.length → x.mid = x.lo + x.laid → x.mid ≤ x.two → P.length = x.one + (x.two - x.mid) → 0 < x.laid →
    (P ++ A).Pairwise (Rk k) → (P ++ B).Pairwise (Rk k) → (∀ a ∈ A, ∀ b ∈ B, k a = k b → a < b) →
    ∃ Q one two, Q.Perm (A ++ B) ∧ (P ++ Q).Pairwise (Rk k) ∧ iterS s c x = { x with ord := pre ++ P ++ Q ++ post, lo := 0, mid := 0, hi := 0, one := one, two := two, steps := x.steps + c }
  | 0, _, _, _, _, _, _, _, _, _, _, h0, _, _, _, _, _, _, _, _, _, _, _, _, _, _, _, _ => absurd h0 (Nat.lt_irrefl 0)
  | c + 1, x, pre, P, J, B, post, D, A, E, hc, _, hk, h1, h2, h3, h4, h5, h6, h7, h8, h9, h10, h11, h12, pA, pB, cr => by
    have hto : toS x = (pre ++ P).length := by unfold toS; rw [List.length_append]; omega
    have hhi : 0 < x.hi := by omega
    have hstep : stepS s x = { putS s x with steps := x.steps + 1 } := by
      unfold stepS
      rw [join_in hhi]
      unfold actS
      rw [if_pos hhi, if_neg (by omega)]
    have ga : ∀ a A', A = a :: A' → x.asd.getD x.one 0 = a := by
      intro a A' e
      rw [h2, h7, e, show D ++ a :: A' ++ E = D ++ a :: (A' ++ E) by simp]
      exact getD_mid _ _ _
    have gb : ∀ b B', B = b :: B' → x.ord.getD x.two 0 = b := by
      intro b B' e
      have : x.two = (pre ++ P ++ J).length := by simp only [List.length_append]; omega
      rw [h1, e, this, show pre ++ P ++ J ++ b :: B' ++ post = (pre ++ P ++ J) ++ b :: (B' ++ post) by simp]
      exact getD_mid _ _ _
    have hend : (toS x + 1 == x.hi) = decide (c = 0) := by
      rw [hto, Bool.eq_iff_iff, beq_iff_eq, decide_eq_true_iff, List.length_append]; omega
    -- what is put if it comes of the first part
    have first : ∀ a A', A = a :: A' → takeS s x = true → (∀ b ∈ B, Rk k a b) → ∃ Q one two, Q.Perm (A ++ B) ∧ (P ++ Q).Pairwise (Rk k) ∧ iterS s (c + 1) x = { x with ord := pre ++ P ++ Q ++ post, lo := 0, mid := 0, hi := 0, one := one, two := two, steps := x.steps + (c + 1) } := by
      intro a A' eA ht hab
      obtain ⟨j, J', eJ⟩ : ∃ j J', J = j :: J' := by
        cases J with
        | nil => rw [eA] at h3; simp at h3
        | cons j J' => exact ⟨j, J', rfl⟩
      subst eA eJ
      simp only [List.length_cons] at *
      have hset : x.ord.set (toS x) a = pre ++ (P ++ [a]) ++ J' ++ B ++ post := by
        rw [hto, h1, show pre ++ P ++ j :: J' ++ B ++ post = (pre ++ P) ++ j :: (J' ++ B ++ post) by simp, set_mid]; simp
      have hput : putS s x = endS { x with ord := pre ++ (P ++ [a]) ++ J' ++ B ++ post, one := x.one + 1 } (decide (c = 0)) := by
        unfold putS; rw [if_pos ht, ga a A' rfl, hset, hend]
      have pA' : ((P ++ [a]) ++ A').Pairwise (Rk k) := by simpa using pA
      have pB' : ((P ++ [a]) ++ B).Pairwise (Rk k) := by
        rw [List.pairwise_append] at pA pB ⊢
        refine ⟨?_, pB.2.1, fun p hp b hb => ?_⟩
        · rw [List.pairwise_append]
          exact ⟨pB.1, by simp, fun p hp q hq => pA.2.2 p hp q (by simp at hq; simp [hq])⟩
        · rw [List.mem_append] at hp
          rcases hp with hp | hp
          · exact pB.2.2 p hp b hb
          · simp at hp; subst hp; exact hab b hb
      show ∃ Q one two, _ ∧ _ ∧ iterS s c (stepS s x) = _
      rw [hstep, hput]
      cases c with
      | zero =>
        have e1 : A' = [] := List.eq_nil_of_length_eq_zero (by omega)
        have e2 : B = [] := List.eq_nil_of_length_eq_zero (by omega)
        subst e1 e2
        have e3 : J' = [] := List.eq_nil_of_length_eq_zero (by simpa using h3)
        subst e3
        refine ⟨[a], x.one + 1, x.two, by simp, by simpa using pA', ?_⟩
        simp [iterS, endS]
      | succ c =>
        rw [show decide (c + 1 = 0) = false by simp]
        obtain ⟨Q, one, two, q1, q2, q3⟩ := merge_run s k (c + 1) { x with ord := pre ++ (P ++ [a]) ++ J' ++ B ++ post, one := x.one + 1, steps := x.steps + 1 } pre (P ++ [a]) J' B post (D ++ [a]) A' E (by omega) (by omega) hk rfl (by simp [h2]) (by omega) h4 (by simp only [List.length_append, List.length_cons, List.length_nil]; omega) h6 (by simp [h7]) (by simp only [List.length_append, List.length_cons, List.length_nil]; omega) h9 h10 (by simp only [List.length_append, List.length_cons, List.length_nil]; omega) h12 pA' pB' (fun u hu => cr u (List.mem_cons_of_mem _ hu))
        refine ⟨a :: Q, one, two, by simpa using q1.cons a, by simpa using q2, ?_⟩
        show iterS s (c + 1) _ = _
        rw [show ({ endS { x with ord := pre ++ (P ++ [a]) ++ J' ++ B ++ post, one := x.one + 1 } false with steps := x.steps + 1 } : SS) = { x with ord := pre ++ (P ++ [a]) ++ J' ++ B ++ post, one := x.one + 1, steps := x.steps + 1 } from rfl, q3]
        simp [Nat.add_assoc, Nat.add_comm, Nat.add_left_comm]
    have second : ∀ b B', B = b :: B' → takeS s x = false → (∀ a ∈ A, Rk k b a) → ∃ Q one two, Q.Perm (A ++ B) ∧ (P ++ Q).Pairwise (Rk k) ∧ iterS s (c + 1) x = { x with ord := pre ++ P ++ Q ++ post, lo := 0, mid := 0, hi := 0, one := one, two := two, steps := x.steps + (c + 1) } := by
      intro b B' eB ht hab
      subst eB
      simp only [List.length_cons] at *
      obtain ⟨J', eJ, hJ'⟩ : ∃ J', x.ord.set (toS x) b = pre ++ (P ++ [b]) ++ J' ++ B' ++ post ∧ J'.length = J.length := by
        cases J with
        | nil => exact ⟨[], by rw [hto, h1, show pre ++ P ++ [] ++ b :: B' ++ post = (pre ++ P) ++ b :: (B' ++ post) by simp, set_mid]; simp, rfl⟩
        | cons j J' => exact ⟨J' ++ [b], by rw [hto, h1, show pre ++ P ++ j :: J' ++ b :: B' ++ post = (pre ++ P) ++ j :: (J' ++ b :: B' ++ post) by simp, set_mid]; simp, by simp⟩
      have hput : putS s x = endS { x with ord := pre ++ (P ++ [b]) ++ J' ++ B' ++ post, two := x.two + 1 } (decide (c = 0)) := by
        unfold putS; rw [if_neg (by simp [ht]), gb b B' rfl, eJ, hend]
      have pB' : ((P ++ [b]) ++ B').Pairwise (Rk k) := by simpa using pB
      have pA' : ((P ++ [b]) ++ A).Pairwise (Rk k) := by
        rw [List.pairwise_append] at pA pB ⊢
        refine ⟨?_, pA.2.1, fun p hp a ha => ?_⟩
        · rw [List.pairwise_append]
          exact ⟨pA.1, by simp, fun p hp q hq => pB.2.2 p hp q (by simp at hq; simp [hq])⟩
        · rw [List.mem_append] at hp
          rcases hp with hp | hp
          · exact pA.2.2 p hp a ha
          · simp at hp; subst hp; exact hab a ha
      show ∃ Q one two, _ ∧ _ ∧ iterS s c (stepS s x) = _
      rw [hstep, hput]
      cases c with
      | zero =>
        have e1 : A = [] := List.eq_nil_of_length_eq_zero (by omega)
        have e2 : B' = [] := List.eq_nil_of_length_eq_zero (by omega)
        subst e1 e2
        have e3 : J' = [] := List.eq_nil_of_length_eq_zero (by rw [hJ']; simpa using h3)
        subst e3
        refine ⟨[b], x.one, x.two + 1, by simp, by simpa using pB', ?_⟩
        simp [iterS, endS]
      | succ c =>
        rw [show decide (c + 1 = 0) = false by simp]
        obtain ⟨Q, one, two, q1, q2, q3⟩ := merge_run s k (c + 1) { x with ord := pre ++ (P ++ [b]) ++ J' ++ B' ++ post, two := x.two + 1, steps := x.steps + 1 } pre (P ++ [b]) J' B' post D A E (by omega) (by omega) hk rfl h2 (by omega) h4 (by simp only [List.length_append, List.length_cons, List.length_nil]; omega) (by simp only; omega) h7 h8 h9 (by simp only; omega) (by simp only [List.length_append, List.length_cons, List.length_nil]; omega) h12 pA' pB' (fun u hu v hv => cr u hu v (List.mem_cons_of_mem _ hv))
        refine ⟨b :: Q, one, two, ((q1.cons b).trans List.perm_middle.symm), by simpa using q2, ?_⟩
        show iterS s (c + 1) _ = _
        rw [show ({ endS { x with ord := pre ++ (P ++ [b]) ++ J' ++ B' ++ post, two := x.two + 1 } false with steps := x.steps + 1 } : SS) = { x with ord := pre ++ (P ++ [b]) ++ J' ++ B' ++ post, two := x.two + 1, steps := x.steps + 1 } from rfl, q3]
        simp [Nat.add_assoc, Nat.add_comm, Nat.add_left_comm]
    cases hB : B with
    | nil =>
      cases hA : A with
      | nil => rw [hA, hB] at hc; simp at hc
      | cons a A' =>
        rw [← hA, ← hB]
        refine first a A' hA ?_ (by rw [hB]; simp)
        unfold takeS
        rw [show (x.two == x.hi) = true by rw [hB] at h6; simpa using h6]; rfl
    | cons b B' =>
      have h2l : (x.two == x.hi) = false := by rw [hB] at h6; simp at h6 ⊢; omega
      rw [← hB]
      cases hA : A with
      | nil =>
        rw [← hA]
        refine second b B' hB ?_ (by rw [hA]; simp)
        unfold takeS
        rw [h2l, Bool.false_or]
        rw [show decide (x.one < x.laid) = false by rw [hA] at h8; simp at h8 ⊢; omega]; rfl
      | cons a A' =>
        rw [← hA]
        have habs : abS s x (x.asd.getD x.one 0) (x.ord.getD x.two 0) = gtP (k a) (k b) := by unfold abS; rw [ga a A' hA, gb b B' hB, hk, hk]
        have htk : takeS s x = !gtP (k a) (k b) := by
          unfold takeS
          rw [h2l, Bool.false_or, show decide (x.one < x.laid) = true by rw [hA] at h8; simp at h8 ⊢; omega, Bool.true_and, habs]
        rw [List.pairwise_append] at pA pB
        have sB := pB.2.1
        have sA := pA.2.1
        rw [hB, List.pairwise_cons] at sB
        rw [hA, List.pairwise_cons] at sA
        cases hg : gtP (k a) (k b) with
        | false =>
          refine first a A' hA (by rw [htk, hg]; rfl) fun v hv => ?_
          have hx := cr a (by rw [hA]; simp) v hv
          rw [hB, List.mem_cons] at hv
          rcases hv with rfl | hv
          · rw [gtP_not] at hg
            rcases hg with hg | hg
            · exact .inl hg
            · exact .inr ⟨hg, hx hg⟩
          · rw [gtP_not, gtP_iff, Prod.ext_iff] at hg
            have h5 := sB.1 v hv
            unfold Rk at h5 ⊢
            rw [gtP_iff, Prod.ext_iff] at h5 ⊢
            by_cases he : k a = k v
            · rw [Prod.ext_iff] at he; exact .inr ⟨he, hx (Prod.ext he.1 he.2)⟩
            · rw [Prod.ext_iff] at he; left; omega
        | true =>
          refine second b B' hB (by rw [htk, hg]; rfl) fun v hv => ?_
          rw [hA, List.mem_cons] at hv
          rcases hv with rfl | hv
          · exact .inl hg
          · have h5 := sA.1 v hv
            unfold Rk at h5 ⊢
            rw [gtP_iff] at hg
            rw [gtP_iff, Prod.ext_iff] at h5 ⊢
            left; omega

theorem perm_pw {R : Nat → Nat → Prop} {a a' b b' : List Nat} (h : (a ++ b).Pairwise R) (ha : a'.Perm a) (hb : b'.Perm b) : ∀ u ∈ a', ∀ v ∈ b', R u v := by
  rw [List.pairwise_append] at h
  exact fun u hu v hv => h.2.2 u (ha.mem_iff.1 hu) v (hb.mem_iff.1 hv)

theorem sort_run (s : ByteArray) (k : Nat → Nat × Nat) : ∀ (f m : Nat), m ≤ f → ∀ (x : SS) (pre seg post : List Nat) (rest : List (Nat × Nat × Nat)), seg.length = m → (∀ a, k a = keyS s x.reach x.cls a) → x.ord = pre ++ seg ++ post → x.asd.length = x.ord.length → x.stk = (pre.length, 0, pre.length + m) :: rest → x.hi = 0 →
    seg.Pairwise (fun a b => k a = k b → a < b) →
    ∃ seg' asd' lo mid laid one two, seg'.Perm seg ∧ seg'.Pairwise (Rk k) ∧ asd'.length = x.asd.length ∧ iterS s (costT m) x = { x with ord := pre ++ seg' ++ post, asd := asd', stk := rest, lo := lo, mid := mid, hi := 0, laid := laid, one := one, two := two, steps := x.steps + costT m }
  | f, m, hf, x, pre, seg, post, rest, hl, hk, h1, h2, h3, h4, hst => by
    have hj : joinS x = x := by unfold joinS; rw [h3]; simp
    by_cases hm : m < 2
    · rw [costT_small hm]
      refine ⟨seg, x.asd, x.lo, x.mid, x.laid, x.one, x.two, List.Perm.refl _, ?_, rfl, ?_⟩
      · match seg, hl with
        | [], _ => exact List.Pairwise.nil
        | [a], _ => exact List.pairwise_singleton _ _
        | a :: b :: r, hl => simp at hl; omega
      · show iterS s 0 (stepS s x) = _
        show stepS s x = _
        unfold stepS
        rw [hj]
        unfold actS
        rw [if_neg (by omega), h3]
        simp only
        unfold beginS
        rw [h3]
        simp only
        rw [if_pos (by omega), ← h1, ← h4]
    · match f, hf with
      | 0, hf => omega
      | f + 1, hf =>
        have hm1 : 1 ≤ m / 2 := by omega
        rw [costT_big (by omega)]
        obtain ⟨A, B, hA, hB, hseg⟩ : ∃ A B, A.length = m / 2 ∧ B.length = m - m / 2 ∧ seg = A ++ B := ⟨seg.take (m / 2), seg.drop (m / 2), by rw [List.length_take]; omega, by rw [List.length_drop]; omega, (List.take_append_drop _ _).symm⟩
        subst hseg
        have hst0 := hst
        rw [List.pairwise_append] at hst
        have hs1 : stepS s x = { x with stk := (pre.length, 0, pre.length + m / 2) :: ((pre ++ A).length, 0, (pre ++ A).length + (m - m / 2)) :: (pre.length, pre.length + m / 2, pre.length + m) :: rest, steps := x.steps + 1 } := by
          unfold stepS
          rw [hj]
          unfold actS
          rw [if_neg (by omega), h3]
          simp only
          unfold beginS
          rw [h3]
          simp only
          rw [if_neg (by omega), show (pre.length + (pre.length + m)) / 2 = pre.length + m / 2 by omega, List.length_append, hA, show pre.length + m / 2 + (m - m / 2) = pre.length + m by omega]
        rw [show 1 + costT (m / 2) + costT (m - m / 2) + m / 2 + m = 1 + (costT (m / 2) + (costT (m - m / 2) + (m / 2 + m))) by omega, iter_add]
        show ∃ seg' asd' lo mid laid one two, _ ∧ _ ∧ _ ∧ iterS s _ (stepS s x) = _
        rw [hs1, iter_add]
        obtain ⟨A', asd1, lo1, mid1, laid1, one1, two1, a1, a2, a3, a4⟩ := sort_run s k f (m / 2) (by omega) { x with stk := (pre.length, 0, pre.length + m / 2) :: ((pre ++ A).length, 0, (pre ++ A).length + (m - m / 2)) :: (pre.length, pre.length + m / 2, pre.length + m) :: rest, steps := x.steps + 1 } pre A (B ++ post) _ hA hk (by simp [h1]) h2 rfl h4 hst.1
        rw [a4, iter_add]
        obtain ⟨B', asd2, lo2, mid2, laid2, one2, two2, b1, b2, b3, b4⟩ := sort_run s k f (m - m / 2) (by omega) { x with ord := pre ++ A' ++ (B ++ post), asd := asd1, stk := ((pre ++ A).length, 0, (pre ++ A).length + (m - m / 2)) :: (pre.length, pre.length + m / 2, pre.length + m) :: rest, lo := lo1, mid := mid1, hi := 0, laid := laid1, one := one1, two := two1, steps := x.steps + 1 + costT (m / 2) } (pre ++ A') B post ((pre.length, pre.length + m / 2, pre.length + m) :: rest) hB hk (by simp) (by
            have := a1.length_eq
            simp only [List.length_append] at *; rw [a3, h2, h1]; simp only [List.length_append]; omega) (by simp only [List.length_append, a1.length_eq]) rfl hst.2.1
        simp only [List.append_assoc] at b4 ⊢
        rw [b4]
        have lA := a1.length_eq
        have lB := b1.length_eq
        have hlen : asd2.length = (pre ++ (A' ++ B' ++ post)).length := by
          rw [b3]; simp only [a3, h2, h1, List.length_append]; omega
        -- the parts are joined, and the first one is laid aside
        rw [show m / 2 + m = (m / 2 - 1) + 1 + m by omega, iter_add]
        have hjn : ∀ (y : SS), y.hi = 0 → y.stk = (pre.length, pre.length + m / 2, pre.length + m) :: rest → joinS y = { y with lo := pre.length, mid := pre.length + m / 2, hi := pre.length + m, stk := rest, laid := 0, one := 0, two := pre.length + m / 2 } := by
          intro y e1 e2
          unfold joinS
          rw [e2]
          simp only
          rw [if_pos ⟨e1, by omega⟩]
        rw [iter_join s (m / 2 - 1) _ (by rw [hjn _ rfl rfl]; simp only; omega) (by rw [hjn _ rfl rfl])]
        rw [hjn _ rfl rfl]
        rw [show m / 2 - 1 + 1 = A'.length by omega]
        rw [lay_run s A' [] asd2 { x with ord := pre ++ (A' ++ (B' ++ post)), asd := asd2, stk := rest, lo := pre.length, mid := pre.length + m / 2, hi := pre.length + m, laid := 0, one := 0, two := pre.length + m / 2, steps := x.steps + 1 + costT (m / 2) + costT (m - m / 2) } pre B' post (by simp) rfl (by simp only [List.length_nil]; omega) (by simp only; omega) rfl rfl (by rw [hlen]; simp only [List.length_append]; omega)]
        obtain ⟨Q, one3, two3, c1, c2, c3⟩ := merge_run s k m { x with ord := pre ++ (A' ++ (B' ++ post)), asd := [] ++ A' ++ asd2.drop A'.length, stk := rest, lo := pre.length, mid := pre.length + m / 2, hi := pre.length + m, laid := [].length + A'.length, one := 0, two := pre.length + m / 2, steps := x.steps + 1 + costT (m / 2) + costT (m - m / 2) + A'.length } pre [] A' B' post [] A' (asd2.drop A'.length) (by omega) (by omega) hk (by simp) rfl rfl rfl (by simp only [List.length_nil]; omega) (by simp only; omega) rfl (by simp) (by simp only [List.length_nil]; omega) (by simp only; omega) (by simp) (by simp only [List.length_nil]; omega) (by simpa using a2) (by simpa using b2) (perm_pw hst0 a1 b1)
        rw [c3]
        refine ⟨Q, A' ++ asd2.drop A'.length, 0, 0, A'.length, one3, two3, c1.trans (a1.append b1), by simpa using c2, ?_, ?_⟩
        · rw [List.length_append, List.length_drop, hlen, h2, h1]; simp only [List.length_append]; omega
        · rw [show x.steps + 1 + costT (m / 2) + costT (m - m / 2) + A'.length + m = x.steps + (1 + (costT (m / 2) + (costT (m - m / 2) + (A'.length + m)))) by omega]
          simp
end Sp
end Go.Proofs.YtcehhgppfahbkaaGreatDoor

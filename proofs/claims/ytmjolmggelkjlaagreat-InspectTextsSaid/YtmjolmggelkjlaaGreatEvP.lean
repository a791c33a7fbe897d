/- What the second form yields the first one yields. No program in sight. -/
import Derived.Test.YtmjolmggelkjlaaGreatEvO
import Derived.Test.YtmjolmggelkjlaaGreatHj
namespace Go.Proofs.YtmjolmggelkjlaaGreat.Ev
set_option linter.unusedVariables false
set_option linter.unusedSimpArgs false
open Go

theorem Sub.nil (s1 : S) : Sub [] s1 := fun t v h => by cases h
theorem at_cons (d : Nat) (v : Value) (s : Fr) (t : Nat) : Fr.at_ ((d, v) :: s) t = if d = t then some v else s.at_ t := by
  show (match Nat.beq d t with | true => some v | false => s.at_ t) = _
  by_cases e : d = t
  · subst e
    rw [Nat.beq_refl, if_pos rfl]
  · have : Nat.beq d t = false := Bool.eq_false_iff.2 fun q => e (Nat.eq_of_beq_eq_true q)
    rw [this, if_neg e]
theorem Sub.cons {s : Fr} {s1 : S} (hs : Sub s s1) {d : Nat} {v : Value} (h : s1.get d = v) : Sub ((d, v) :: s) s1 := fun t u hu => by
  rw [at_cons] at hu
  by_cases e : d = t
  · rw [if_pos e] at hu; cases hu; rw [← e]; exact h
  · rw [if_neg e] at hu; exact hs t u hu
theorem Sub.put {s : Fr} {s1 : S} (hs : Sub s s1) {nt : Nat} {dst : Option Tmp} (hd : ∀ d, dst = some d → d < nt ∧ d < 1023) (v : Value) : ∃ s2, putS nt s1 dst v = some s2 ∧ Sub (putF s dst v) s2 := by
  cases dst with
  | none => exact ⟨s1, rfl, hs⟩
  | some d =>
    obtain ⟨h1, h2⟩ := hd d rfl
    refine ⟨s1.put d v, by unfold putS; simp [h1, h2], fun t u hu => ?_⟩
    rw [S.get_put _ _ _ _ h2]
    have hu : Fr.at_ ((d, v) :: s) t = some u := hu
    rw [at_cons] at hu
    by_cases e : d = t
    · rw [if_pos e] at hu; rw [if_pos e.symm]; cases hu; rfl
    · rw [if_neg e] at hu; rw [if_neg (fun q => e q.symm)]; exact hs t u hu
theorem keep_at (s : Fr) : ∀ (G : List Nat) (t : Nat) (v : Value), (s.keep G).at_ t = some v → s.at_ t = some v
  | [], t, v, h => by cases h
  | g :: G, t, v, h => by
    unfold Fr.keep at h
    split at h
    · rename_i u hu
      rw [at_cons] at h
      by_cases e : g = t
      · rw [if_pos e] at h; cases h; rw [← e]; exact hu
      · rw [if_neg e] at h; exact keep_at s G t v h
    · exact keep_at s G t v h
theorem Sub.keep {s : Fr} {s1 : S} (hs : Sub s s1) (G : List Nat) : Sub (s.keep G) s1 := fun t v h => hs t v (keep_at s G t v h)
theorem Sub.out {s : Fr} {s1 : S} (hs : Sub s s1) (G : Hint) (id : Nat) : Sub (G.out id s) s1 := by
  unfold Hint.out
  split
  · exact hs.keep _
  · exact hs

section
variable {P : Program} {kn : List FuncId} {rec : FuncId → Array Value → M Value} (hrec : ∀ f args h n v h1 n1 L, rec f args h n = some ⟨v, h1, n1, L⟩ → Does (fun fuel => evCall P kn fuel f args) h n v h1 n1 L)
set_option linter.unusedSectionVars false
include hrec

theorem val_step {ops : Array Oper} {o : Oper} {s : Fr} {s1 : S} {β : Type} {k : Value → M β} {h : H} {n : Nat} {r : Out β} (hw : Region.wanted o (yields ops s1) = true) (hs : Sub s s1) (hr : opQ P rec s o k h n = some r) :
    ∃ v h1 n1 L1 L2, Does (fun fuel => inside (evVal P (evCall P kn fuel) ops o s1)) h n v h1 n1 L1 ∧ k v h1 n1 = some ⟨r.val, r.h, r.n, L2⟩ ∧ r.log = L1 ++ L2 := by
  obtain ⟨v, h1, n1, L1, L2, e1, e2, e3⟩ := op2_ok hrec hs (opQ_sub hr)
  refine ⟨v, h1, n1, L1, L2, e1.map fun fuel => ?_, e2, e3⟩
  rw [evVal_wanted hw]
  rfl
theorem idle_step {ops : Array Oper} {o : Oper} {s1 : S} {h : H} {n : Nat} (hw : Region.wanted o (yields ops s1) = false) : Does (fun fuel => inside (evVal P (evCall P kn fuel) ops o s1)) h n undef h n [] := by
  refine ⟨0, fun fuel _ => ?_⟩
  show inside (evVal P (evCall P kn fuel) ops o s1) h n = _
  unfold evVal
  rw [if_neg (by rw [hw]; exact Bool.false_ne_true)]
  rfl
theorem ifV_some {β : Type} {v : Value} {x y : M β} {h : H} {n : Nat} {r : Out β} (hr : ifV v x y h n = some r) : (v = .bool true ∧ x h n = some r) ∨ (v = .bool false ∧ y h n = some r) := by
  unfold ifV at hr
  split at hr
  · exact .inl ⟨rfl, hr⟩
  · exact .inr ⟨rfl, hr⟩
  · cases hr
theorem opers_step {nt : Nat} {ops : Array Oper} {o : Oper} {l : List Oper} {s1 s2 : S} {h h1 h2 : H} {n n1 n2 : Nat} {v : Value} {L1 L2 : List En} {y : S × List Tk} (e1 : Does (fun fuel => inside (evVal P (evCall P kn fuel) ops o s1)) h n v h1 n1 L1)
    (hp : putS nt s1 o.dst v = some s2) (e2 : Does (fun fuel => evOpers P (evCall P kn fuel) nt ops l s2) h1 n1 y h2 n2 L2) : Does (fun fuel => evOpers P (evCall P kn fuel) nt ops (o :: l) s1) h n (y.1, ⟨n, n1, L1⟩ :: y.2) h2 n2 (L1 ++ L2) := by
  obtain ⟨f0, e1⟩ := e1
  obtain ⟨f1, e2⟩ := e2
  refine ⟨max f0 f1, fun fuel hf => ?_⟩
  have g1 := timed_run (e1 fuel (by omega))
  have g2 := e2 fuel (by omega)
  show evOpers P (evCall P kn fuel) nt ops (o :: l) s1 h n = _
  unfold evOpers
  refine bind_run g1 ?_
  simp only [hp, lift_some_eq, bind_ret]
  have := bind_run (f := fun y : S × List Tk => M.ret (y.1, (⟨n, n1, L1⟩ : Tk) :: y.2)) g2 (h2 := h2) (n2 := n2) (L2 := []) (b := (y.1, (⟨n, n1, L1⟩ : Tk) :: y.2)) rfl
  rw [List.append_nil] at this
  exact this

theorem hasI_mem {j : Nat} : ∀ {l : List Nat}, hasI j l = true → j ∈ l
  | [], h => by cases h
  | i :: r, h => by
    unfold hasI at h
    cases hb : Nat.beq i j with
    | true => rw [Nat.eq_of_beq_eq_true hb]; simp
    | false => rw [hb] at h; exact List.mem_cons_of_mem _ (hasI_mem h)
def Idle (ops : Array Oper) (s1 : S) (idl : List Nat) : Prop := ∀ j ∈ idl, yields ops s1 j = none
theorem Idle.put {ops : Array Oper} {s1 s2 : S} {nt : Nat} {dst : Option Tmp} {v : Value} : ∀ {idl : List Nat}, Idle ops s1 idl → putS nt s1 dst v = some s2 → Idle ops s2 (dropI ops dst idl)
  | [], _, _ => fun j hj => by cases hj
  | i :: r, h, hp => by
    have hr : Idle ops s2 (dropI ops dst r) := Idle.put (fun j hj => h j (List.mem_cons_of_mem _ hj)) hp
    have hi := h i (by simp)
    have get : ∀ t, dst ≠ some t → s2.get t = s1.get t := by
      intro t ht
      cases dst with
      | none => simp only [putS, Option.some.injEq] at hp; rw [hp]
      | some d =>
        unfold putS at hp
        simp only at hp
        split at hp
        · rename_i hd
          simp only [Bool.and_eq_true, decide_eq_true_eq] at hd
          cases hp
          rw [S.get_put _ _ _ _ hd.2, if_neg (fun e => ht (by rw [e]))]
        · cases hp
    have keep : (∀ t, (ops[i]?).bind (·.dst) = some t → dst ≠ some t) → Idle ops s2 (i :: dropI ops dst r) := by
      intro hk j hj
      rcases List.mem_cons.1 hj with rfl | hj
      · unfold yields at hi ⊢
        cases ht : (ops[j]?).bind (·.dst) with
        | none => rfl
        | some t =>
          rw [ht] at hi
          simp only at hi ⊢
          rw [get t (hk t ht)]
          exact hi
      · exact hr j hj
    unfold dropI
    cases ht : (ops[i]?).bind (·.dst) with
    | none => exact keep fun t h => by rw [ht] at h; cases h
    | some t =>
      cases dst with
      | none => exact keep fun t h e => by cases e
      | some d =>
        simp only
        cases hb : Nat.beq t d with
        | true => exact hr
        | false =>
          refine keep fun t' h => ?_
          rw [ht] at h
          cases h
          rintro ⟨⟩
          rw [Nat.beq_refl] at hb
          cases hb
theorem Idle.add {ops : Array Oper} {s1 s2 : S} {nt : Nat} {o : Oper} {i : Nat} (hi : ops[i]? = some o) {idl : List Nat} (h : Idle ops s2 idl) (hp : putS nt s1 o.dst undef = some s2) : Idle ops s2 (i :: idl) := by
  intro j hj
  rcases List.mem_cons.1 hj with rfl | hj
  · unfold yields
    rw [hi]
    simp only [Option.bind_some]
    cases hd : o.dst with
    | none => rfl
    | some d =>
      rw [hd] at hp
      unfold putS at hp
      simp only at hp
      split at hp
      · rename_i hdd
        simp only [Bool.and_eq_true, decide_eq_true_eq] at hdd
        cases hp
        simp only
        rw [S.get_put _ _ _ _ hdd.2, if_pos rfl]
        rfl
      · cases hp
  · exact h j hj

theorem opsK_ok {β : Type} {nt : Nat} {ops : Array Oper} : ∀ (l : List Oper) (_ : ∀ o ∈ l, ∀ d, o.dst = some d → d < nt ∧ d < 1023) (i : Nat) (_ : ∀ q o, l[q]? = some o → ops[i + q]? = some o) (idl : List Nat) (s : Fr) (s1 : S) (_ : Idle ops s1 idl) (k : Fr → M β) (h : H) (n : Nat) (r : Out β), Sub s s1 → opsK P rec ops l i idl s k h n = some r →
    ∃ s' y h1 n1 L1 L2, Does (fun fuel => evOpers P (evCall P kn fuel) nt ops l s1) h n y h1 n1 L1 ∧ Sub s' y.1 ∧ k s' h1 n1 = some ⟨r.val, r.h, r.n, L2⟩ ∧ r.log = L1 ++ L2 := by
  intro l
  induction l with
  | nil =>
    intro _ i _ idl s s1 _ k h n r hs hr
    exact ⟨s, (s1, []), h, n, [], r.log, Does.of rfl, hs, hr, rfl⟩
  | cons o l ih =>
    intro hd i hpos idl s s1 hidl k h n r hs hr
    have hd0 := hd o (by simp)
    have hdl : ∀ o ∈ l, ∀ d, o.dst = some d → d < nt ∧ d < 1023 := fun o' ho => hd o' (by simp [ho])
    have hio : ops[i]? = some o := by have := hpos 0 o rfl; rwa [Nat.add_zero] at this
    have hpl : ∀ q o', l[q]? = some o' → ops[i + 1 + q]? = some o' := fun q o' hq => by
      have := hpos (q + 1) o' (by simpa using hq)
      rwa [show i + 1 + q = i + (q + 1) by omega]
    have go : ∀ (s : Fr), Sub s s1 → Region.wanted o (yields ops s1) = true → opQ P rec s o (fun v => opsK P rec ops l (i + 1) (dropI ops o.dst idl) (putF s o.dst v) k) h n = some r →
        ∃ s' y h1 n1 L1 L2, Does (fun fuel => evOpers P (evCall P kn fuel) nt ops (o :: l) s1) h n y h1 n1 L1 ∧ Sub s' y.1 ∧ k s' h1 n1 = some ⟨r.val, r.h, r.n, L2⟩ ∧ r.log = L1 ++ L2 := by
      intro s hs hw hr
      obtain ⟨v, h1, n1, L1, L2, e1, e2, e3⟩ := val_step hrec hw hs hr
      obtain ⟨s2, hp, hs2⟩ := hs.put hd0 v
      obtain ⟨s', y, h3, n3, L3, L4, e4, e5, e6, e7⟩ := ih hdl _ hpl _ _ s2 (Idle.put hrec hidl hp) k h1 n1 _ hs2 e2
      exact ⟨s', _, h3, n3, _, L4, opers_step hrec e1 hp e4, e5, e6, by rw [e3]; simp only at e7; rw [e7, List.append_assoc]⟩
    have idle : ∀ (s : Fr), Sub s s1 → Region.wanted o (yields ops s1) = false → opsK P rec ops l (i + 1) (i :: dropI ops o.dst idl) (putF s o.dst undef) k h n = some r →
        ∃ s' y h1 n1 L1 L2, Does (fun fuel => evOpers P (evCall P kn fuel) nt ops (o :: l) s1) h n y h1 n1 L1 ∧ Sub s' y.1 ∧ k s' h1 n1 = some ⟨r.val, r.h, r.n, L2⟩ ∧ r.log = L1 ++ L2 := by
      intro s hs hw hr
      obtain ⟨s2, hp, hs2⟩ := hs.put hd0 undef
      obtain ⟨s', y, h3, n3, L3, L4, e4, e5, e6, e7⟩ := ih hdl _ hpl _ _ s2 (Idle.add hrec hio (Idle.put hrec hidl hp) hp) k h n _ hs2 hr
      exact ⟨s', _, h3, n3, _, L4, opers_step hrec (idle_step hrec hw) hp e4, e5, e6, e7⟩
    unfold opsK at hr
    cases hg : o.guard with
    | none =>
      rw [hg] at hr
      exact go s hs (by unfold Region.wanted; rw [hg]) hr
    | some jw =>
      obtain ⟨j, want⟩ := jw
      rw [hg] at hr
      simp only at hr
      cases hI : hasI j idl with
      | true =>
        rw [hI] at hr
        refine idle s hs ?_ hr
        unfold Region.wanted
        rw [hg]
        simp only
        rw [hidl j (hasI_mem hrec hI)]
        rfl
      | false =>
      rw [hI] at hr
      simp only at hr
      cases ht : (ops[j]?).bind (·.dst) with
      | none => rw [ht] at hr; cases hr
      | some t =>
        rw [ht] at hr
        simp only at hr
        obtain ⟨g, hgv, hr⟩ := optK_some hr
        have hget := hs t g hgv
        have hy : ∀ b, g = .bool b → yields ops s1 j = some b := fun b hb => by
          unfold yields
          rw [ht]
          simp only [hget, hb]
        rcases ifV_some hrec hr with ⟨hb, hr⟩ | ⟨hb, hr⟩
        · have hs' : Sub ((t, .bool true) :: s) s1 := hs.cons (by rw [hget, hb])
          cases want with
          | true => exact go _ hs' (by unfold Region.wanted; rw [hg]; simp only; rw [hy _ hb]; rfl) hr
          | false => exact idle _ hs' (by unfold Region.wanted; rw [hg]; simp only; rw [hy _ hb]; rfl) hr
        · have hs' : Sub ((t, .bool false) :: s) s1 := hs.cons (by rw [hget, hb])
          cases want with
          | true => exact idle _ hs' (by unfold Region.wanted; rw [hg]; simp only; rw [hy _ hb]; rfl) hr
          | false => exact go _ hs' (by unfold Region.wanted; rw [hg]; simp only; rw [hy _ hb]; rfl) hr
end

end Go.Proofs.YtmjolmggelkjlaaGreat.Ev

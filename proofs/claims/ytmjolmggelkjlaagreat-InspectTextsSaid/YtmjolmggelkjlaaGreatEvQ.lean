/- What the second form yields the first one yields: regions in doubtful order, code, calls. No program in sight. -/
import Derived.Test.YtmjolmggelkjlaaGreatEvP
namespace Go.Proofs.YtmjolmggelkjlaaGreat.Ev
set_option linter.unusedVariables false
set_option linter.unusedSimpArgs false
open Go

theorem ret_run_inv {α : Type} {a c : α} {h h2 : H} {n n2 : Nat} {L : List En} (hr : (M.ret a) h n = some ⟨c, h2, n2, L⟩) : c = a ∧ h2 = h ∧ n2 = n ∧ L = [] := by
  simp only [M.ret, Option.some.injEq, Out.mk.injEq] at hr
  exact ⟨hr.1.symm, hr.2.1.symm, hr.2.2.1.symm, hr.2.2.2.symm⟩
def Match : List Oper → List Tk → List Tk → Prop
  | [], [], [] => True
  | o :: l, t' :: ts', t :: ts => (kind o.op = 0 ∨ t' = t) ∧ Match l ts' ts
  | _, _, _ => False
theorem Match.get : ∀ {l : List Oper} {ts' ts : List Tk}, Match l ts' ts → ∀ (i : Nat) (o : Oper) (t : Tk), l[i]? = some o → ts[i]? = some t → ∃ t', ts'[i]? = some t' ∧ (kind o.op = 0 ∨ t' = t)
  | [], [], [], _, i, o, t, h, _ => by simp at h
  | o :: l, t' :: ts', t :: ts, h, 0, o', u, h1, h2 => by
    simp at h1 h2; subst h1 h2
    exact ⟨t', rfl, h.1⟩
  | o :: l, t' :: ts', t :: ts, h, i + 1, o', u, h1, h2 => by
    simpa using Match.get h.2 i o' u (by simpa using h1) (by simpa using h2)
theorem dynAll_at {ops : Array Oper} {bef : List Nat} {j : Nat} {oj : Oper} {tj : Tk} : ∀ (l : List Oper) (ts : List Tk) (k : Nat), dynAll bef ops j oj tj k l ts = true → ∀ i o t, l[i]? = some o → ts[i]? = some t → dynPair bef ops j oj tj (k + i) o t = true := by
  intro l
  induction l with
  | nil => intro ts k _ i o t h; simp at h
  | cons o l ih =>
    intro ts k h i o' t' hi ht
    cases ts with
    | nil => simp at ht
    | cons t ts =>
      unfold dynAll at h
      simp only [Bool.and_eq_true] at h
      cases i with
      | zero => simp at hi ht; subst hi ht; exact h.1
      | succ i =>
        rw [show k + (i + 1) = k + 1 + i by omega]
        exact ih ts (k + 1) h.2 i o' t' (by simpa using hi) (by simpa using ht)
theorem dynPairs_at {ops : Array Oper} {bef : List Nat} : ∀ (l : List Oper) (ts : List Tk) (j : Nat), dynPairs bef ops j l ts = true → ∀ p q op oq tp tq, p < q → l[p]? = some op → l[q]? = some oq → ts[p]? = some tp → ts[q]? = some tq → dynPair bef ops (j + p) op tp (j + q) oq tq = true := by
  intro l
  induction l with
  | nil => intro ts j _ p q op oq tp tq _ h; simp at h
  | cons o l ih =>
    intro ts j h p q op oq tp tq hpq h1 h2 h3 h4
    cases ts with
    | nil => simp at h3
    | cons t ts =>
      unfold dynPairs at h
      simp only [Bool.and_eq_true] at h
      cases q with
      | zero => omega
      | succ q =>
        cases p with
        | zero =>
          simp at h1 h3; subst h1 h3
          have := dynAll_at l ts (j + 1) h.1 q oq tq (by simpa using h2) (by simpa using h4)
          rw [show j + (q + 1) = j + 1 + q by omega, Nat.add_zero]
          exact this
        | succ p =>
          have := ih ts (j + 1) h.2 p q op oq tp tq (by omega) (by simpa using h1) (by simpa using h2) (by simpa using h3) (by simpa using h4)
          rw [show j + (q + 1) = j + 1 + q by omega, show j + (p + 1) = j + 1 + p by omega]
          exact this
theorem fits_zero {i j : Nat} (h : fits i j = false) : i ≠ 0 ∧ j ≠ 0 := by
  unfold fits at h
  simp only [Bool.or_eq_false_iff, beq_eq_false_iff_ne] at h
  exact ⟨h.1.1.1.1, h.1.1.1.2⟩
theorem dyn_pairs {ops : Array Oper} {ts' ts : List Tk} {n m : Nat} (x : TksOk n ops.toList ts m) (hm : Match ops.toList ts' ts) (h : dynPairs (befores ops.toList []) ops 0 ops.toList ts' = true) : pairsOk ops (befores ops.toList []) (tagged 0 ts) = true := by
  refine pairs_of ops.toList ts n m 0 x (getD_of_list ops) fun p q op oq tp tq hpq h1 h2 h3 h4 => ?_
  obtain ⟨tp', g1, g2⟩ := hm.get p op tp h1 h3
  obtain ⟨tq', g3, g4⟩ := hm.get q oq tq h2 h4
  have := dynPairs_at _ _ 0 h p q op oq tp' tq' hpq h1 h2 g1 g3
  unfold dynPair at this
  simp only [Bool.or_eq_true, Bool.and_eq_true, Bool.not_eq_true'] at this
  rcases this with g | ⟨gs, g⟩
  · exact .inl g
  · refine .inr ⟨?_, gs⟩
    cases hf : fits (kind op.op) (kind oq.op) with
    | true => exact .inl rfl
    | false =>
      rw [hf] at g
      obtain ⟨z1, z2⟩ := fits_zero hf
      rcases g2 with g2 | g2
      · exact absurd g2 z1
      · rcases g4 with g4 | g4
        · exact absurd g4 z2
        · subst g2 g4
          exact .inr (by rw [← clash3_eq]; simpa using g)

section
variable {P : Program} {kn : List FuncId} {rec : FuncId → Array Value → M Value} (hrec : ∀ f args h n v h1 n1 L, rec f args h n = some ⟨v, h1, n1, L⟩ → Does (fun fuel => evCall P kn fuel f args) h n v h1 n1 L)
set_option linter.unusedSectionVars false
include hrec
theorem opsT_ok {β : Type} {nt : Nat} {ops : Array Oper} : ∀ (l : List Oper) (_ : ∀ o ∈ l, ∀ d, o.dst = some d → d < nt ∧ d < 1023) (i : Nat) (_ : ∀ q o, l[q]? = some o → ops[i + q]? = some o) (idl : List Nat) (s : Fr) (s1 : S) (_ : Idle ops s1 idl) (acc : List Tk) (k : Fr → List Tk → M β) (h : H) (n : Nat) (r : Out β), Sub s s1 → opsT P rec ops l i idl s acc k h n = some r →
    ∃ s' y ts h1 n1 L1 L2, Does (fun fuel => evOpers P (evCall P kn fuel) nt ops l s1) h n y h1 n1 L1 ∧ Sub s' y.1 ∧ k s' (acc.reverse ++ ts) h1 n1 = some ⟨r.val, r.h, r.n, L2⟩ ∧ r.log = L1 ++ L2 ∧ Match l ts y.2 := by
  intro l
  induction l with
  | nil =>
    intro _ i _ idl s s1 _ acc k h n r hs hr
    exact ⟨s, (s1, []), [], h, n, [], r.log, Does.of rfl, hs, by rw [List.append_nil]; exact hr, rfl, trivial⟩
  | cons o l ih =>
    intro hd i hpos idl s s1 hidl acc k h n r hs hr
    have hd0 := hd o (by simp)
    have hdl : ∀ o ∈ l, ∀ d, o.dst = some d → d < nt ∧ d < 1023 := fun o' ho => hd o' (by simp [ho])
    have hio : ops[i]? = some o := by have := hpos 0 o rfl; rwa [Nat.add_zero] at this
    have hpl : ∀ q o', l[q]? = some o' → ops[i + 1 + q]? = some o' := fun q o' hq => by
      have := hpos (q + 1) o' (by simpa using hq)
      rwa [show i + 1 + q = i + (q + 1) by omega]
    have go : ∀ (s : Fr), Sub s s1 → Region.wanted o (yields ops s1) = true →
        (match kind o.op with
          | 0 => opQ P rec s o fun v => opsT P rec ops l (i + 1) (dropI ops o.dst idl) (putF s o.dst v) (⟨0, 0, []⟩ :: acc) k
          | _ => (timed (opQ P rec s o M.ret)).bind fun x => opsT P rec ops l (i + 1) (dropI ops o.dst idl) (putF s o.dst x.1) (x.2 :: acc) k) h n = some r →
        ∃ s' y ts h1 n1 L1 L2, Does (fun fuel => evOpers P (evCall P kn fuel) nt ops (o :: l) s1) h n y h1 n1 L1 ∧ Sub s' y.1 ∧ k s' (acc.reverse ++ ts) h1 n1 = some ⟨r.val, r.h, r.n, L2⟩ ∧ r.log = L1 ++ L2 ∧ Match (o :: l) ts y.2 := by
      intro s hs hw hr
      by_cases hk : kind o.op = 0
      · simp only [hk] at hr
        obtain ⟨v, h1, n1, L1, L2, e1, e2, e3⟩ := val_step hrec hw hs hr
        obtain ⟨s2, hp, hs2⟩ := hs.put hd0 v
        obtain ⟨s', y, ts, h3, n3, L3, L4, e4, e5, e6, e7, e8⟩ := ih hdl _ hpl _ _ s2 (Idle.put hrec hidl hp) _ k h1 n1 _ hs2 e2
        refine ⟨s', _, (⟨0, 0, []⟩ : Tk) :: ts, h3, n3, _, L4, opers_step hrec e1 hp e4, e5, ?_, by rw [e3]; simp only at e7; rw [e7, List.append_assoc], ?_⟩
        · rw [List.reverse_cons, List.append_assoc] at e6
          exact e6
        · exact ⟨.inl hk, e8⟩
      · have hr : ((timed (opQ P rec s o M.ret)).bind fun x => opsT P rec ops l (i + 1) (dropI ops o.dst idl) (putF s o.dst x.1) (x.2 :: acc) k) h n = some r := by
          revert hr
          generalize kind o.op = kk at hk
          intro hr
          match kk, hk with
          | kk + 1, _ => exact hr
        obtain ⟨c, hc, nc, Lc⟩ := r
        obtain ⟨x, h1, n1, L1, L2, e1, e2, e3⟩ := bind_some hr
        obtain ⟨g1, g2⟩ := timed_inv e1
        obtain ⟨v, h1', n1', L1', L2', q1, q2, q3⟩ := val_step hrec hw hs g1
        obtain ⟨rfl, rfl, rfl, rfl⟩ := ret_run_inv q2
        simp only [List.append_nil] at q3
        subst q3
        obtain ⟨s2, hp, hs2⟩ := hs.put hd0 x.1
        obtain ⟨s', y, ts, h3, n3, L3, L4, e4, e5, e6, e7, e8⟩ := ih hdl _ hpl _ _ s2 (Idle.put hrec hidl hp) _ k _ _ _ hs2 e2
        refine ⟨s', _, x.2 :: ts, h3, n3, _, L4, opers_step hrec q1 hp e4, e5, ?_, by rw [e3]; simp only at e7; rw [e7, List.append_assoc], ?_⟩
        · rw [List.reverse_cons, List.append_assoc] at e6
          exact e6
        · exact ⟨.inr g2, e8⟩
    have idle : ∀ (s : Fr), Sub s s1 → Region.wanted o (yields ops s1) = false → (passT (kind o.op) fun tk => opsT P rec ops l (i + 1) (i :: dropI ops o.dst idl) (putF s o.dst undef) (tk :: acc) k) h n = some r →
        ∃ s' y ts h1 n1 L1 L2, Does (fun fuel => evOpers P (evCall P kn fuel) nt ops (o :: l) s1) h n y h1 n1 L1 ∧ Sub s' y.1 ∧ k s' (acc.reverse ++ ts) h1 n1 = some ⟨r.val, r.h, r.n, L2⟩ ∧ r.log = L1 ++ L2 ∧ Match (o :: l) ts y.2 := by
      intro s hs hw hr
      obtain ⟨c, hc, nc, Lc⟩ := r
      have hr : ∃ tk, (kind o.op = 0 ∨ tk = ⟨n, n, []⟩) ∧ opsT P rec ops l (i + 1) (i :: dropI ops o.dst idl) (putF s o.dst undef) (tk :: acc) k h n = some ⟨c, hc, nc, Lc⟩ := by
        revert hr
        generalize kind o.op = kk
        intro hr
        match kk, hr with
        | 0, hr => exact ⟨_, .inl rfl, hr⟩
        | kk + 1, hr =>
          have hr : ((timed (M.ret undef)).bind fun x => opsT P rec ops l (i + 1) (i :: dropI ops o.dst idl) (putF s o.dst undef) (x.2 :: acc) k) h n = some ⟨c, hc, nc, Lc⟩ := hr
          obtain ⟨x, h1, n1, L1, L2, e1, e2, e3⟩ := bind_some hr
          obtain ⟨g1, g2⟩ := timed_inv e1
          obtain ⟨-, rfl, rfl, rfl⟩ := ret_run_inv g1
          refine ⟨x.2, .inr g2, ?_⟩
          simp only [List.nil_append] at e3
          rw [e3]
          exact e2
      obtain ⟨tk, htk, hr⟩ := hr
      obtain ⟨s2, hp, hs2⟩ := hs.put hd0 undef
      obtain ⟨s', y, ts, h3, n3, L3, L4, e4, e5, e6, e7, e8⟩ := ih hdl _ hpl _ _ s2 (Idle.add hrec hio (Idle.put hrec hidl hp) hp) _ k _ _ _ hs2 hr
      refine ⟨s', _, tk :: ts, h3, n3, _, L4, opers_step hrec (idle_step hrec hw) hp e4, e5, ?_, by simp only at e7; rw [e7]; simp, ?_⟩
      · rw [List.reverse_cons, List.append_assoc] at e6
        exact e6
      · exact ⟨htk, e8⟩
    unfold opsT at hr
    cases hg : o.guard with
    | none =>
      rw [hg] at hr
      exact go s hs (by unfold Region.wanted; rw [hg]) hr
    | some jw =>
      obtain ⟨j, want⟩ := jw
      rw [hg] at hr
      simp only at hr
      cases hI : hasI j idl with
      | true =>
        rw [hI] at hr
        refine idle s hs ?_ hr
        unfold Region.wanted
        rw [hg]
        simp only
        rw [hidl j (hasI_mem hrec hI)]
        rfl
      | false =>
      rw [hI] at hr
      simp only at hr
      cases ht : (ops[j]?).bind (·.dst) with
      | none => rw [ht] at hr; cases hr
      | some t =>
        rw [ht] at hr
        simp only at hr
        obtain ⟨g, hgv, hr⟩ := optK_some hr
        have hget := hs t g hgv
        have hy : ∀ b, g = .bool b → yields ops s1 j = some b := fun b hb => by
          unfold yields
          rw [ht]
          simp only [hget, hb]
        rcases ifV_some hrec hr with ⟨hb, hr⟩ | ⟨hb, hr⟩
        · have hs' : Sub ((t, .bool true) :: s) s1 := hs.cons (by rw [hget, hb])
          cases want with
          | true => exact go _ hs' (by unfold Region.wanted; rw [hg]; simp only; rw [hy _ hb]; rfl) hr
          | false => exact idle _ hs' (by unfold Region.wanted; rw [hg]; simp only; rw [hy _ hb]; rfl) hr
        · have hs' : Sub ((t, .bool false) :: s) s1 := hs.cons (by rw [hget, hb])
          cases want with
          | true => exact idle _ hs' (by unfold Region.wanted; rw [hg]; simp only; rw [hy _ hb]; rfl) hr
          | false => exact go _ hs' (by unfold Region.wanted; rw [hg]; simp only; rw [hy _ hb]; rfl) hr
theorem regK_ok {β : Type} {nt : Nat} {ops : Array Oper} {draw : Bool} (hd : ∀ o ∈ ops.toList, ∀ d, o.dst = some d → d < nt ∧ d < 1023) {s : Fr} {s1 : S} {k : Fr → M β} {h : H} {n : Nat} {r : Out β} (hs : Sub s s1) (hr : regK P rec ops draw s k h n = some r) :
    ∃ s' s2 h1 n1 L1 L2, Does (fun fuel => evRegion P (evCall P kn fuel) nt ops draw s1) h n s2 h1 n1 L1 ∧ Sub s' s2 ∧ k s' h1 n1 = some ⟨r.val, r.h, r.n, L2⟩ ∧ r.log = L1 ++ L2 := by
  have fin : ∀ {y : S × List Tk} {h1 : H} {n1 : Nat} {L1 : List En}, Does (fun fuel => evOpers P (evCall P kn fuel) nt ops ops.toList s1) h n y h1 n1 L1 → (TksOk n ops.toList y.2 n1 → (!draw || (edgesOk ops && pairsOk ops (befores ops.toList []) (tagged 0 y.2))) = true) → Does (fun fuel => evRegion P (evCall P kn fuel) nt ops draw s1) h n y.1 h1 n1 L1 := by
    intro y h1 n1 L1 e1 hc
    have hc := hc (by
      obtain ⟨f0, e⟩ := e1
      exact opers_tks (fun f a => Loc.evCall P kn f0 f a) _ _ _ _ _ _ _ _ (e f0 (Nat.le_refl _)))
    obtain ⟨f0, e⟩ := e1
    refine ⟨f0, fun fuel hf => ?_⟩
    show evRegion P (evCall P kn fuel) nt ops draw s1 h n = _
    unfold evRegion
    have := bind_run (f := fun y : S × List Tk => if (!draw || (edgesOk ops && pairsOk ops (befores ops.toList []) (tagged 0 y.2))) = true then M.ret y.1 else .fail) (e fuel hf) (L2 := []) (b := y.1) (h2 := h1) (n2 := n1) (by rw [if_pos hc]; rfl)
    rw [List.append_nil] at this
    exact this
  unfold regK at hr
  cases hst : (!draw || staticOk ops) with
  | true =>
    simp only [hst] at hr
    obtain ⟨s', y, h1, n1, L1, L2, e1, e2, e3, e4⟩ := opsK_ok hrec ops.toList hd 0 (fun q o hq => by rw [Nat.zero_add, ← Array.getElem?_toList]; exact hq) [] s s1 (fun j hj => by cases hj) k h n r hs hr
    refine ⟨s', y.1, h1, n1, L1, L2, fin e1 fun x => ?_, e2, e3, e4⟩
    simp only [Bool.or_eq_true, Bool.not_eq_true'] at hst
    rcases hst with g | g
    · rw [g]; rfl
    · obtain ⟨g1, g2⟩ := static_pairs x g
      rw [g1, g2]; simp
  | false =>
    simp only [hst] at hr
    cases he : edgesOk ops with
    | false => simp only [he] at hr; cases hr
    | true =>
      simp only [he] at hr
      obtain ⟨s', y, ts, h1, n1, L1, L2, e1, e2, e3, e4, e5⟩ := opsT_ok hrec ops.toList hd 0 (fun q o hq => by rw [Nat.zero_add, ← Array.getElem?_toList]; exact hq) [] s s1 (fun j hj => by cases hj) [] _ h n r hs hr
      simp only [List.reverse_nil, List.nil_append] at e3
      cases hc : dynPairs (befores ops.toList []) ops 0 ops.toList ts with
      | false => rw [hc] at e3; cases e3
      | true =>
        rw [hc] at e3
        exact ⟨s', y.1, h1, n1, L1, L2, fin e1 fun x => by rw [he, dyn_pairs x e5 hc]; simp, e2, e3, e4⟩

def DoesC (kn : List FuncId) (P : Program) (nt : Nat) (c : Code) (s1 : S) (h : H) (n : Nat) (x : Ex × S) (h1 : H) (n1 : Nat) (L : List En) : Prop := ∃ f0, ∀ fr, f0 ≤ fr → ∀ f, f0 ≤ f → evCode P (evCall P kn fr) nt f c s1 h n = some ⟨x, h1, n1, L⟩
def Runs (kn : List FuncId) (P : Program) (nt : Nat) (c : Code) (s1 : S) {β : Type} (k : Ex → Fr → M β) (h : H) (n : Nat) (r : Out β) : Prop :=
  ∃ e s' s2 h1 n1 L1 L2, DoesC kn P nt c s1 h n (e, s2) h1 n1 L1 ∧ Sub s' s2 ∧ k e s' h1 n1 = some ⟨r.val, r.h, r.n, L2⟩ ∧ r.log = L1 ++ L2

theorem codeK_ok {β : Type} {nt : Nat} {G : Hint} {lf : Nat} : ∀ (c : Code) (_ : dstOk nt c = true) (s : Fr) (s1 : S) (k : Ex → Fr → M β) (h : H) (n : Nat) (r : Out β), Sub s s1 → codeK P rec G lf c s k h n = some r → Runs kn P nt c s1 k h n r := by
  intro c
  induction c with
  | skip => intro _ s s1 k h n r hs hr; exact ⟨.normal, s, s1, h, n, [], r.log, ⟨1, fun fr _ f hf => by match f, hf with | f + 1, _ => rfl⟩, hs, hr, rfl⟩
  | label l => intro _ s s1 k h n r hs hr; exact ⟨.normal, s, s1, h, n, [], r.log, ⟨1, fun fr _ f hf => by match f, hf with | f + 1, _ => rfl⟩, hs, hr, rfl⟩
  | region id ops draw =>
    intro hd s s1 k h n r hs hr
    unfold dstOk at hd
    rw [Array.all_eq_true_iff_forall_mem] at hd
    obtain ⟨s', s2, h1, n1, L1, L2, ⟨f0, e1⟩, e2, e3, e4⟩ := regK_ok hrec (fun o ho d hod => by
      have := hd o (by simpa using ho)
      rw [hod] at this
      simpa using this) hs hr
    refine ⟨.normal, s'.keep G.1, s2, h1, n1, L1, L2, ⟨f0 + 1, fun fr hfr f hf => ?_⟩, e2.keep G.1, e3, e4⟩
    match f, hf with
    | f + 1, _ =>
      unfold evCode
      have := bind_run (f := fun s1 => M.ret (Ex.normal, s1)) (e1 fr (by omega)) (L2 := []) (h2 := h1) (n2 := n1) (b := (Ex.normal, s2)) rfl
      rw [List.append_nil] at this
      exact this
  | seq a b iha ihb =>
    intro hd s s1 k h n r hs hr
    unfold dstOk at hd
    simp only [Bool.and_eq_true] at hd
    obtain ⟨e, s', s2, h1, n1, L1, L2, ⟨f0, d1⟩, d2, d3, d4⟩ := iha hd.1 s s1 _ h n r hs hr
    cases e with
    | normal =>
      obtain ⟨e, s3, s4, h3, n3, L3, L4, ⟨f1, q1⟩, q2, q3, q4⟩ := ihb hd.2 s' s2 k h1 n1 _ d2 d3
      refine ⟨e, s3, s4, h3, n3, L1 ++ L3, L4, ⟨max f0 f1 + 1, fun fr hfr f hf => ?_⟩, q2, q3, by rw [d4]; simp only at q4; rw [q4, List.append_assoc]⟩
      match f, hf with
      | f + 1, _ =>
        unfold evCode
        exact bind_run (d1 fr (by omega) f (by omega)) (q1 fr (by omega) f (by omega))
    | ret =>
      refine ⟨.ret, s', s2, h1, n1, L1, L2, ⟨f0 + 1, fun fr hfr f hf => ?_⟩, d2, d3, d4⟩
      match f, hf with
      | f + 1, _ =>
        unfold evCode
        rw [← List.append_nil L1]
        exact bind_run (d1 fr (by omega) f (by omega)) rfl
    | exit i =>
      refine ⟨.exit i, s', s2, h1, n1, L1, L2, ⟨f0 + 1, fun fr hfr f hf => ?_⟩, d2, d3, d4⟩
      match f, hf with
      | f + 1, _ =>
        unfold evCode
        rw [← List.append_nil L1]
        exact bind_run (d1 fr (by omega) f (by omega)) rfl
  | cond c a b iha ihb =>
    intro hd s s1 k h n r hs hr
    unfold dstOk at hd
    simp only [Bool.and_eq_true] at hd
    obtain ⟨v, hv, hr⟩ := optK_some hr
    have hc := hs.evo hv
    rcases ifV_some hrec hr with ⟨rfl, hr⟩ | ⟨rfl, hr⟩
    · obtain ⟨e, s', s2, h1, n1, L1, L2, ⟨f0, d1⟩, d2, d3, d4⟩ := iha hd.1 s s1 k h n r hs hr
      refine ⟨e, s', s2, h1, n1, L1, L2, ⟨f0 + 1, fun fr hfr f hf => ?_⟩, d2, d3, d4⟩
      match f, hf with
      | f + 1, _ =>
        unfold evCode
        simp only [hc, if_true]
        exact d1 fr (by omega) f (by omega)
    · obtain ⟨e, s', s2, h1, n1, L1, L2, ⟨f0, d1⟩, d2, d3, d4⟩ := ihb hd.2 s s1 k h n r hs hr
      refine ⟨e, s', s2, h1, n1, L1, L2, ⟨f0 + 1, fun fr hfr f hf => ?_⟩, d2, d3, d4⟩
      match f, hf with
      | f + 1, _ =>
        unfold evCode
        simp only [hc, Bool.false_eq_true, if_false]
        exact d1 fr (by omega) f (by omega)
  | block id c ih =>
    intro hd s s1 k h n r hs hr
    unfold dstOk at hd
    obtain ⟨e, s', s2, h1, n1, L1, L2, ⟨f0, d1⟩, d2, d3, d4⟩ := ih hd s s1 _ h n r hs hr
    have fin : ∀ e' : Ex, (∀ fr, f0 ≤ fr → ∀ f, f0 ≤ f → evCode P (evCall P kn fr) nt (f + 1) (.block id c) s1 h n = some ⟨(e', s2), h1, n1, L1⟩) → k e' s' h1 n1 = some ⟨r.val, r.h, r.n, L2⟩ → Runs kn P nt (.block id c) s1 k h n r := by
      intro e' hrun hk
      refine ⟨e', s', s2, h1, n1, L1, L2, ⟨f0 + 1, fun fr hfr f hf => ?_⟩, d2, hk, d4⟩
      match f, hf with
      | f + 1, _ => exact hrun fr (by omega) f (by omega)
    cases e with
    | normal => exact fin .normal (fun fr hfr f hf => by unfold evCode; rw [← List.append_nil L1]; exact bind_run (d1 fr hfr f hf) rfl) d3
    | ret => exact fin .ret (fun fr hfr f hf => by unfold evCode; rw [← List.append_nil L1]; exact bind_run (d1 fr hfr f hf) rfl) d3
    | exit i =>
      cases hi : Nat.beq i id with
      | true =>
        have hii : i = id := Nat.eq_of_beq_eq_true hi
        simp only [blockK, hi] at d3
        exact fin .normal (fun fr hfr f hf => by unfold evCode; rw [← List.append_nil L1]; exact bind_run (d1 fr hfr f hf) (by simp only [if_pos hii]; rfl)) d3
      | false =>
        have hii : ¬ i = id := by rintro rfl; rw [Nat.beq_refl] at hi; cases hi
        simp only [blockK, hi] at d3
        exact fin (.exit i) (fun fr hfr f hf => by unfold evCode; rw [← List.append_nil L1]; exact bind_run (d1 fr hfr f hf) (by simp only [if_neg hii]; rfl)) d3
  | loop c ih =>
    intro hd s s1 k h n r hs hr
    have hd' : dstOk nt c = true := by unfold dstOk at hd; exact hd
    have key : ∀ (lf' : Nat) (keys : List Nat) (s : Fr) (s1 : S) (h : H) (n : Nat) (r : Out β), Sub s s1 → loopK (fun s1 k1 => codeK P rec G lf c s1 k1) keys lf' s k h n = some r → Runs kn P nt (.loop c) s1 k h n r := by
      intro lf'
      induction lf' with
      | zero => intro keys s s1 h n r _ hr; cases hr
      | succ lf' ihl =>
        intro keys s s1 h n r hs hr
        unfold loopK at hr
        obtain ⟨e, s', s2, h1, n1, L1, L2, ⟨f0, d1⟩, d2, d3, d4⟩ := ih hd' s s1 _ h n r hs hr
        cases e with
        | normal =>
          obtain ⟨e, s3, s4, h3, n3, L3, L4, ⟨f1, q1⟩, q2, q3, q4⟩ := ihl keys _ s2 h1 n1 _ (d2.keep keys) d3
          refine ⟨e, s3, s4, h3, n3, L1 ++ L3, L4, ⟨max f0 f1 + 1, fun fr hfr f hf => ?_⟩, q2, q3, by rw [d4]; simp only at q4; rw [q4, List.append_assoc]⟩
          match f, hf with
          | f + 1, _ =>
            unfold evCode
            exact bind_run (d1 fr (by omega) f (by omega)) (q1 fr (by omega) f (by omega))
        | ret =>
          refine ⟨.ret, s', s2, h1, n1, L1, L2, ⟨f0 + 1, fun fr hfr f hf => ?_⟩, d2, d3, d4⟩
          match f, hf with
          | f + 1, _ =>
            unfold evCode
            rw [← List.append_nil L1]
            exact bind_run (d1 fr (by omega) f (by omega)) rfl
        | exit i =>
          refine ⟨.exit i, s', s2, h1, n1, L1, L2, ⟨f0 + 1, fun fr hfr f hf => ?_⟩, d2, d3, d4⟩
          match f, hf with
          | f + 1, _ =>
            unfold evCode
            rw [← List.append_nil L1]
            exact bind_run (d1 fr (by omega) f (by omega)) rfl
    exact key lf s.keys s s1 h n r hs hr
  | exit id => intro _ s s1 k h n r hs hr; exact ⟨.exit id, _, s1, h, n, [], r.log, ⟨1, fun fr _ f hf => by match f, hf with | f + 1, _ => rfl⟩, hs.out G id, hr, rfl⟩
  | ret => intro _ s s1 k h n r hs hr; exact ⟨.ret, _, s1, h, n, [], r.log, ⟨1, fun fr _ f hf => by match f, hf with | f + 1, _ => rfl⟩, hs.keep _, hr, rfl⟩
  | rangeFunc _ _ _ _ => intro _ s s1 k h n r hs hr; cases hr
  | scope _ => intro _ s s1 k h n r hs hr; cases hr
  | goto _ => intro _ s s1 k h n r hs hr; cases hr
  | refuse _ => intro _ s s1 k h n r hs hr; cases hr
end

theorem resK_ok {P : Program} {s : Fr} {s1 : S} (hs : Sub s s1) : ∀ (l : List ResultVar) (k : List Value → M Value) (h : H) (n : Nat) (r : Out Value), resK P s l k h n = some r → ∃ vs h1 n1 L1 L2, evResults P s1 l h n = some ⟨vs, h1, n1, L1⟩ ∧ k vs h1 n1 = some ⟨r.val, r.h, r.n, L2⟩ ∧ r.log = L1 ++ L2 := by
  intro l
  induction l with
  | nil => intro k h n r hr; exact ⟨[], h, n, [], r.log, rfl, hr, rfl⟩
  | cons x l ih =>
    intro k h n r hr
    cases x with
    | tmp t =>
      obtain ⟨v, hv, hr⟩ := optK_some hr
      obtain ⟨vs, h1, n1, L1, L2, e1, e2, e3⟩ := ih _ h n r hr
      refine ⟨v :: vs, h1, n1, L1, L2, ?_, e2, e3⟩
      unfold evResults
      rw [hs t v hv, ← List.append_nil L1]
      exact bind_run e1 rfl
    | cell a t =>
      obtain ⟨v, hv, hr⟩ := optK_some hr
      obtain ⟨c, hc, nc, Lc⟩ := r
      obtain ⟨u, h1, n1, L1, L2, e1, e2, e3⟩ := bind_some (loadQ_sub hr)
      obtain ⟨L', e7, e8⟩ := inside_inv e1
      obtain ⟨rfl, _⟩ := Q1.load P t v _ _ _ _ _ _ e7
      rw [List.filter_eq_self.2 (fun x _ => by simp; omega)] at e8
      subst e8
      have e1 := e7
      obtain ⟨vs, h3, n3, L3, L4, e4, e5, e6⟩ := ih _ h1 n1 _ e2
      refine ⟨u :: vs, h3, n3, L1 ++ L3, L4, ?_, e5, by rw [e3]; simp only at e6; rw [e6, List.append_assoc]⟩
      unfold evResults
      rw [hs a v hv]
      refine bind_run e1 ?_
      rw [← List.append_nil L3]
      exact bind_run e4 rfl
theorem argF_sub : ∀ (l : List Value) (i : Nat) (s : S), i + l.length < 1023 → Sub (argF i l) (argS i l s) := by
  intro l
  induction l with
  | nil => intro i s _; exact Sub.nil _
  | cons v l ih =>
    intro i s h
    simp only [List.length_cons] at h
    show Sub ((i, v) :: argF (i + 1) l) (argS (i + 1) l (s.put i v))
    refine (ih (i + 1) (s.put i v) (by omega)).cons ?_
    rw [argS_get _ _ _ _ (by omega), if_neg (by omega), S.get_put _ _ _ _ (by omega), if_pos rfl]
theorem callN_ok {P : Program} {kn : List FuncId} (hd : okDsts P = true) {gt : Nat → Hint} {lf : Nat} : ∀ (d : Nat) (f : FuncId) (args : Array Value) (h : H) (n : Nat) (v : Value) (h1 : H) (n1 : Nat) (L : List En), evCallN kn P gt lf d f args h n = some ⟨v, h1, n1, L⟩ → Does (fun fuel => evCall P kn fuel f args) h n v h1 n1 L := by
  intro d
  induction d with
  | zero => intro f args h n v h1 n1 L hr; cases hr
  | succ d ih =>
    intro f args h n v h1 n1 L hr
    unfold evCallN at hr
    cases hkn : kn.contains f with
    | true =>
      rw [hkn] at hr
      simp only at hr
      cases hnat : natOf f with
      | some k =>
        rw [hnat] at hr
        refine ⟨1, fun fuel hf => ?_⟩
        match fuel, hf with
        | fuel + 1, hf =>
          show evCall P kn (fuel + 1) f args h n = _
          unfold evCall
          rw [if_pos hkn, hnat]
          exact hr
      | none =>
      rw [hnat] at hr
      simp only at hr
      cases hz : (decide (args.size = 0) && noPar P f) with
      | false => rw [hz] at hr; cases hr
      | true =>
        rw [hz] at hr
        refine ⟨1, fun fuel hf => ?_⟩
        match fuel, hf with
        | fuel + 1, hf =>
          show evCall P kn (fuel + 1) f args h n = _
          unfold evCall
          rw [if_pos hkn, hnat]
          show (if (decide (args.size = 0) && noPar P f) = true then _ else _ : M Value) h n = _
          rw [if_pos hz]
          exact hr
    | false =>
    rw [hkn] at hr
    simp only at hr
    unfold evStep at hr
    cases hfn : P.funcs[f]? with
    | none => rw [hfn] at hr; cases hr
    | some fn =>
      rw [hfn] at hr
      simp only at hr
      cases hc : fn.body with
      | none => rw [hc] at hr; cases hr
      | some c =>
        rw [hc] at hr
        simp only at hr
        cases hcond : (decide (args.size ≤ fn.ntmps) && decide (fn.ntmps < 1000)) with
        | false => rw [hcond] at hr; cases hr
        | true =>
          rw [hcond] at hr
          simp only at hr
          have hcond' := hcond
          simp only [Bool.and_eq_true, decide_eq_true_eq] at hcond
          obtain ⟨L', hr, hL⟩ := inside_inv hr
          have hdc : dstOk fn.ntmps c = true := by
            unfold okDsts at hd
            rw [Array.all_eq_true_iff_forall_mem] at hd
            have := hd fn (Array.mem_of_getElem? hfn)
            rw [hc] at this
            exact this
          obtain ⟨e, s', s2, h2, n2, L1, L2, ⟨f0, d1⟩, d2, d3, d4⟩ := codeK_ok ih c hdc _ (argS 0 args.toList .nil) _ h n _ (argF_sub _ 0 _ (by simp; omega)) hr
          have fin : ∀ (hn : e = .normal ∨ e = .ret), resK P s' fn.results.toList outK h2 n2 = some ⟨v, h1, n1, L2⟩ → Does (fun fuel => evCall P kn fuel f args) h n v h1 n1 L := by
            intro hn hres
            obtain ⟨vs, h3, n3, L3, L4, r1, r2, r3⟩ := resK_ok d2 _ _ _ _ _ hres
            simp only at r2 r3
            unfold outK at r2
            obtain ⟨rfl, rfl, rfl, rfl⟩ := ret_run_inv r2
            rw [List.append_nil] at r3
            subst r3
            simp only at d4
            refine ⟨f0 + 1, fun fuel hf => ?_⟩
            match fuel, hf with
            | fuel + 1, hf =>
              show evCall P kn (fuel + 1) f args h n = _
              unfold evCall
              rw [if_neg (by rw [hkn]; simp)]
              simp only [hfn, hc]
              rw [if_pos hcond']
              rw [hL, d4]
              refine inside_run (bind_run (d1 fuel (by omega) fuel (by omega)) ?_)
              rcases hn with rfl | rfl
              · show ((evResults P s2 fn.results.toList).bind _) h2 n2 = _
                rw [← List.append_nil L2]
                exact bind_run r1 rfl
              · show ((evResults P s2 fn.results.toList).bind _) h2 n2 = _
                rw [← List.append_nil L2]
                exact bind_run r1 rfl
          cases e with
          | normal => exact fin (.inl rfl) d3
          | ret => exact fin (.inr rfl) d3
          | exit i => cases d3
theorem call2_ok {P : Program} (hd : okDsts P = true) {gt : Nat → Hint} {lf : Nat} (d : Nat) (f : FuncId) (args : Array Value) (h : H) (n : Nat) (v : Value) (h1 : H) (n1 : Nat) (L : List En) (e : evCall2 P gt lf d f args h n = some ⟨v, h1, n1, L⟩) : Does (fun fuel => evCall P KN fuel f args) h n v h1 n1 L := callN_ok hd d f args h n v h1 n1 L e

end Go.Proofs.YtmjolmggelkjlaaGreat.Ev

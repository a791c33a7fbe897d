/- Operations in any order that the edges leave open. No program in sight. -/
import Derived.Test.YtmjolmggelkjlaaGreatEvD
namespace Go.Proofs.YtmjolmggelkjlaaGreat.Ev
set_option linter.unusedVariables false
set_option linter.unusedSimpArgs false
open Go Go.RowKit

/-! the edges' order -/
def Good (ops : Array Oper) (acc : List Nat) : Prop := ∀ k, k < acc.length → ∀ j, (acc.getD k 0).testBit j = true → ∃ o, ops[k]? = some o ∧ ∃ e ∈ o.after, Region.binds .any e = true ∧ (j = e.on ∨ (acc.getD e.on 0).testBit j = true)
theorem getD_append_left {l l' : List Nat} {k : Nat} (h : k < l.length) : (l ++ l').getD k 0 = l.getD k 0 := by
  simp [List.getD_eq_getElem?_getD, List.getElem?_append_left h]
theorem fold_bit (acc : List Nat) (j : Nat) : ∀ (es : List Edge) (s : Nat), (es.foldl (fun s e => if Region.binds .any e then s ||| 2 ^ e.on ||| acc.getD e.on 0 else s) s).testBit j = true →
    s.testBit j = true ∨ ∃ e ∈ es, Region.binds .any e = true ∧ (j = e.on ∨ (acc.getD e.on 0).testBit j = true) := by
  intro es
  induction es with
  | nil => intro s h; exact .inl h
  | cons e es ih =>
    intro s h
    simp only [List.foldl_cons] at h
    rcases ih _ h with h1 | ⟨e', he', h1⟩
    · by_cases hb : Region.binds .any e = true
      · rw [if_pos hb] at h1
        simp only [Nat.testBit_or, Bool.or_eq_true] at h1
        rcases h1 with (h1 | h1) | h1
        · exact .inl h1
        · rw [Nat.testBit_two_pow] at h1
          exact .inr ⟨e, by simp, hb, .inl (by simpa using Eq.symm (of_decide_eq_true h1))⟩
        · exact .inr ⟨e, by simp, hb, .inr h1⟩
      · rw [if_neg hb] at h1; exact .inl h1
    · exact .inr ⟨e', by simp [he'], h1⟩
theorem befores_good (ops : Array Oper) : ∀ (l : List Oper) (acc : List Nat), (∀ i o, l[i]? = some o → ops[acc.length + i]? = some o) → Good ops acc → Good ops (befores l acc) ∧ (befores l acc).length = acc.length + l.length := by
  intro l
  induction l with
  | nil => intro acc _ h; exact ⟨h, by simp [befores]⟩
  | cons o r ih =>
    intro acc hl h
    unfold befores
    generalize hB : (o.after.toList.foldl (fun s e => if Region.binds .any e then s ||| 2 ^ e.on ||| acc.getD e.on 0 else s) 0) = B
    have := ih (acc ++ [B]) (fun i o' ho' => by
      have := hl (i + 1) o' (by simpa using ho')
      simp only [List.length_append, List.length_singleton]
      rw [show acc.length + 1 + i = acc.length + (i + 1) by omega]
      exact this) ?_
    · exact ⟨this.1, by rw [this.2]; simp; omega⟩
    · intro k hk j hj
      by_cases hk2 : k < acc.length
      · rw [getD_append_left hk2] at hj
        obtain ⟨o', h1, e, h2, h3, h4⟩ := h k hk2 j hj
        refine ⟨o', h1, e, h2, h3, ?_⟩
        rcases h4 with h4 | h4
        · exact .inl h4
        · refine .inr ?_
          by_cases he : e.on < acc.length
          · rw [getD_append_left he]; exact h4
          · rw [List.getD_eq_getElem?_getD, List.getElem?_eq_none (by omega)] at h4
            simp at h4
      · have hk3 : k = acc.length := by simp at hk; omega
        subst hk3
        have hB2 : (acc ++ [B]).getD acc.length 0 = B := by simp [List.getD_eq_getElem?_getD]
        rw [hB2, ← hB] at hj
        rcases fold_bit acc j _ _ hj with h1 | ⟨e, he, hb, h1⟩
        · simp at h1
        · refine ⟨o, by simpa using hl 0 o rfl, e, by simpa using he, hb, ?_⟩
          rcases h1 with h1 | h1
          · exact .inl h1
          · refine .inr ?_
            by_cases he : e.on < acc.length
            · rw [getD_append_left he]; exact h1
            · rw [List.getD_eq_getElem?_getD, List.getElem?_eq_none (by omega)] at h1
              simp at h1
/-- what stands before an operation is done when those that its edges name are -/
theorem before_done {ops : Array Oper} {bef : List Nat} (hg : Good ops bef) (hlen : bef.length = ops.size) (he : ∀ k o, ops[k]? = some o → ∀ e ∈ o.after, Region.binds .any e = true → e.on < k) {D : Nat → Prop}
    (hc : ∀ k o, D k → ops[k]? = some o → ∀ e ∈ o.after, Region.binds .any e = true → D e.on) : ∀ (k : Nat), (∀ o, ops[k]? = some o → ∀ e ∈ o.after, Region.binds .any e = true → D e.on) → ∀ j, (bef.getD k 0).testBit j = true → D j := by
  intro k
  induction k using Nat.strongRecOn with
  | _ k ih =>
    intro hk j hj
    by_cases hlt : k < bef.length
    · obtain ⟨o, ho, e, hme, hbi, h1⟩ := hg k hlt j hj
      have hd := hk o ho e hme hbi
      rcases h1 with rfl | h1
      · exact hd
      · exact ih e.on (he k o ho e hme hbi) (fun o' ho' => hc e.on o' hd ho') j h1
    · rw [List.getD_eq_getElem?_getD, List.getElem?_eq_none (by omega)] at hj
      simp at hj

theorem pairsOk_at {ops : Array Oper} {bef : List Nat} : ∀ (l : List (Nat × Tk)), pairsOk ops bef l = true → ∀ (p q : Nat) (x y : Nat × Tk), p < q → l[p]? = some x → l[q]? = some y → (bef.getD y.1 0).testBit x.1 = true ∨ (x.2.clash y.2 = false ∧ slotClash ops (ops.getD x.1 default) (ops.getD y.1 default) = false) := by
  intro l
  induction l with
  | nil => intro _ p q x y _ hp; simp at hp
  | cons a l ih =>
    intro h p q x y hpq hp hq
    obtain ⟨ja, ta⟩ := a
    unfold pairsOk at h
    simp only [Bool.and_eq_true] at h
    cases q with
    | zero => omega
    | succ q =>
      cases p with
      | zero =>
        simp at hp
        subst hp
        have := List.all_eq_true.1 h.1 y (List.mem_of_getElem? (by simpa using hq))
        simpa using this
      | succ p => exact ih h.2 p q x y (by omega) (by simpa using hp) (by simpa using hq)
theorem tagged_at : ∀ (ts : List Tk) (b i : Nat), (tagged b ts)[i]? = (ts[i]?).map fun t => (b + i, t) := by
  intro ts
  induction ts with
  | nil => intro b i; simp [tagged]
  | cons t ts ih =>
    intro b i
    cases i with
    | zero => simp [tagged]
    | succ i =>
      simp only [tagged, List.getElem?_cons_succ, ih]
      congr 1
      funext x
      rw [show b + 1 + i = b + (i + 1) by omega]
theorem clash_spec {a b : Tk} (h : a.clash b = false) :
    (∀ x ∈ a.log, ∀ y ∈ b.log, (x.wr = true ∨ y.wr = true) → x.b = y.b → (x.k = y.k ∨ x.k = none ∨ y.k = none) → False) ∧ (∀ x ∈ a.log, ¬ (b.n ≤ x.b ∧ x.b < b.n1)) ∧ (∀ x ∈ b.log, ¬ (a.n ≤ x.b ∧ x.b < a.n1)) := by
  unfold Tk.clash at h
  simp only [Bool.or_eq_false_iff] at h
  obtain ⟨⟨⟨h1, h2⟩, h3⟩, h4⟩ := h
  refine ⟨fun x hx y hy hw hb hk => ?_, fun x hx hi => ?_, fun x hx hi => ?_⟩
  · have hm : x.meets y = true ∧ y.meets x = true := by
      unfold En.meets
      rcases hk with hk | hk | hk <;> simp [hb, hk]
    rcases hw with hw | hw
    · have := (List.any_eq_false.1 h1) x hx
      simp only [hw, Bool.true_and] at this
      exact (List.any_eq_false.1 (by simpa using this)) y hy hm.1
    · have := (List.any_eq_false.1 h2) y hy
      simp only [hw, Bool.true_and] at this
      exact (List.any_eq_false.1 (by simpa using this)) x hx hm.2
  · have := (List.any_eq_false.1 h3) x hx
    simp at this
    omega
  · have := (List.any_eq_false.1 h4) x hx
    simp at this
    omega

theorem or3 {a b : Option Nat} (h : a = b ∨ a = none ∨ b = none) : b = a ∨ b = none ∨ a = none := by
  rcases h with h | h | h
  · exact .inl h.symm
  · exact .inr (.inr h)
  · exact .inr (.inl h)
section
variable {P : Program} {base : Nat} {rec : FuncId → Array Value → M Value} {nt : Nat} {ops : Array Oper} {Q : Exit → Act → World → Prop}
/-- that operation j touches a cell by writing -/
def Wr (n : Nat → Nat) (L : Nat → List En) (j b c : Nat) : Prop := wrote (L j) b c ∨ (n j ≤ b ∧ b < n (j + 1))
def Dn (listed : Array Bool) (j : Nat) : Prop := listed.getD j false = true
structure Inv (P : Program) (base nt : Nat) (ops : Array Oper) (s : Nat → S) (h : Nat → H) (n : Nat → Nat) (L : Nat → List En) (m0 : Mp) (w0 : World) (listed : Array Bool) (m : Mp) (sD : S) (hD : H) (a : Act) (w : World) : Prop where
  sz : listed.size = ops.size
  closed : ∀ k o, Dn listed k → ops[k]? = some o → ∀ e ∈ o.after, Region.binds .any e = true → Dn listed e.on
  mem : ∀ b c i, i ≤ ops.size → (∀ j, j < ops.size → Wr n L j b c → (Dn listed j ↔ j < i)) → agrS hD (h i) b c
  slot : ∀ t i, i ≤ ops.size → (∀ j o, ops[j]? = some o → o.dst = some t → (Dn listed j ↔ j < i)) → sD.get t = (s i).get t
  le : Le m0 m
  out : ∀ b, (∀ j, j < ops.size → Dn listed j → ¬ (n j ≤ b ∧ b < n (j + 1))) → m b = m0 b
  wr : WR P m base hD w.heap
  below : Below base w0 w
  sr : SR m nt sD a
theorem dn_set {listed : Array Bool} {k j : Nat} (hk : k < listed.size) : Dn (listed.setIfInBounds k true) j ↔ (j = k ∨ Dn listed j) := by
  unfold Dn
  by_cases e : j = k
  · subst e; simp [hk]
  · simp [e, Array.getElem?_setIfInBounds_ne (Ne.symm e), Array.getD_eq_getD_getElem?]
theorem undone_all {listed : Array Bool} (he : ∀ k o, ops[k]? = some o → ∀ e ∈ o.after, Region.binds .any e = true → e.on < k) (hsz : listed.size = ops.size) (hr : Region.ready .any ops listed = []) : ∀ k, k < ops.size → Dn listed k := by
  intro k
  induction k using Nat.strongRecOn with
  | _ k ih =>
    intro hk
    cases hd : listed.getD k true with
    | true =>
      unfold Dn
      simpa [Array.getD_eq_getD_getElem?, hsz ▸ hk, Array.getElem?_eq_getElem (hsz ▸ hk : k < listed.size)] using hd
    | false =>
      have : k ∈ Region.ready .any ops listed := mem_ready.2 ⟨hd, ops[k], by simp [hk], fun e hm hb => ih e.on (he k ops[k] (by simp [hk]) e hm hb) (by
        have := he k ops[k] (by simp [hk]) e hm hb
        omega)⟩
      rw [hr] at this
      cases this
theorem any_sim (hop : OpSim P base) (hrec : CallSim P base rec) (hrl : ∀ f a, Loc (rec f a)) (hok : ∀ o ∈ ops, okOper P o = true) {s : Nat → S} {h : Nat → H} {n : Nat → Nat} {v : Nat → Value} {L : Nat → List En}
    (C : Chain P rec nt ops ops.toList s h n v L) (he : ∀ k o, ops[k]? = some o → ∀ e ∈ o.after, Region.binds .any e = true → e.on < k)
    {bef : List Nat} (hg : Good ops bef) (hlen : bef.length = ops.size)
    (hpair : ∀ j k, j < k → k < ops.size → (bef.getD k 0).testBit j = true ∨ ((⟨n j, n (j + 1), L j⟩ : Tk).clash ⟨n k, n (k + 1), L k⟩ = false ∧ slotClash ops (ops.getD j default) (ops.getD k default) = false))
    {m0 : Mp} {w0 : World} (hf : Fresh m0 (n 0) (n ops.size)) (hmono : ∀ i, i < ops.size → n i ≤ n (i + 1)) (hb : base ≤ w0.heap.size) (g : Gl P m0)
    (hR : ∀ m' a' w', Post P m0 base (n 0) (n ops.size) w0 (h ops.size) m' w' → SR m' nt (s ops.size) a' → Q .normal a' w') :
    ∀ (fuel : Nat) (listed : Array Bool) (m : Mp) (sD : S) (hD : H) (a : Act) (w : World), listed.toList.countP (fun b => !b) = fuel → Inv P base nt ops s h n L m0 w0 listed m sD hD a w → wpAny P .any ops Q fuel listed a w := by
  have hm2 : ∀ i j, i ≤ j → j ≤ ops.size → n i ≤ n j := by
    intro i j hij
    induction hij with
    | refl => intro _; exact Nat.le_refl _
    | step hij ih => intro hj; exact Nat.le_trans (ih (by omega)) (hmono _ (by omega))
  have hloc : ∀ k o, ops[k]? = some o → LocAt (inside (evVal P rec ops o (s k))) (h k) (n k) (v k) (h (k + 1)) (n (k + 1)) (L k) := fun k o ho =>
    Loc.inside (Loc.evVal hrl ops o (s k)) _ _ _ _ _ _ (C.step k o (by simpa using ho))
  -- between the writers of a cell it stays
  have hframe : ∀ b c i j, i ≤ j → j ≤ ops.size → (∀ p, i ≤ p → p < j → ¬ Wr n L p b c) → agrS (h j) (h i) b c := by
    intro b c i j hij
    induction hij with
    | refl => intro _ _; exact agrS.refl _ _ _
    | @step j hij ih =>
      intro hj hp
      have hj2 : j < ops.size := by omega
      have A := hloc j ops[j] (by simp [hj2])
      have hw := hp j hij (by omega)
      exact (A.frame b c (fun x => hw (.inl x)) (fun x => hw (.inr x))).trans (ih (by omega) fun p h1 h2 => hp p h1 (by omega))
  have hsframe : ∀ t i j, i ≤ j → j ≤ ops.size → (∀ p o, i ≤ p → p < j → ops[p]? = some o → o.dst ≠ some t) → (s j).get t = (s i).get t := by
    intro t i j hij
    induction hij with
    | refl => intro _ _; rfl
    | @step j hij ih =>
      intro hj hp
      have hj2 : j < ops.size := by omega
      have hput := C.put j ops[j] (by simp [hj2])
      have hd := hp j ops[j] hij (by omega) (by simp [hj2])
      rw [← ih (by omega) fun p o h1 h2 => hp p o h1 (by omega)]
      unfold putS at hput
      cases hdst : (ops[j]).dst with
      | none => rw [hdst] at hput; have hq : s j = s (j + 1) := Option.some.inj hput; rw [hq]
      | some d =>
        rw [hdst] at hput hd
        simp only at hput
        split at hput
        · rename_i hc
          simp only [Bool.and_eq_true, decide_eq_true_eq] at hc
          have hq := Option.some.inj hput
          rw [← hq, S.get_put _ _ _ _ hc.2, if_neg (fun e => hd (by rw [e]))]
        · cases hput
  have fin : ∀ listed m sD hD a w, Inv P base nt ops s h n L m0 w0 listed m sD hD a w → Region.ready .any ops listed = [] → Q .normal a w := by
    intro listed m sD hD a w I hr
    have hall := undone_all he I.sz hr
    refine hR m a w ⟨I.le, fun b hb => I.out b fun j hj _ hi => hb ⟨Nat.le_trans (hm2 0 j (by omega) (by omega)) hi.1, Nat.lt_of_lt_of_le hi.2 (hm2 (j + 1) ops.size (by omega) (by omega))⟩, I.wr.of_get fun b => ?_, I.below⟩ ⟨I.sr.df, I.sr.sz, fun t => ?_⟩
    · exact (get_of_agrS fun c => I.mem b c ops.size (Nat.le_refl _) fun j hj _ => ⟨fun _ => hj, fun _ => hall j hj⟩).symm
    · rw [← I.slot t ops.size (Nat.le_refl _) fun j o ho _ => ⟨fun _ => (Array.getElem?_eq_some_iff.1 ho).1, fun hj => hall j hj⟩]
      exact I.sr.at_ t
  intro fuel
  induction fuel with
  | zero =>
    intro listed m sD hD a w hfu I
    have hnil : Region.ready .any ops listed = [] := by
      apply List.eq_nil_iff_forall_not_mem.2
      intro k hk
      obtain ⟨h1, o, ho, _⟩ := mem_ready.1 hk
      have hlt : k < listed.size := by rw [I.sz]; exact (Array.getElem?_eq_some_iff.1 ho).1
      have h2 : listed[k] = false := by simpa [Array.getD_eq_getD_getElem?, hlt] using h1
      have := List.countP_eq_zero.1 hfu listed[k] (by simp)
      rw [h2] at this
      exact this rfl
    exact ⟨hnil, fin _ _ _ _ _ _ I hnil⟩
  | succ fuel ih =>
    intro listed m sD hD a w hfu I
    refine ⟨fin _ _ _ _ _ _ I, fun k hk => ?_⟩
    obtain ⟨h1, o, ho, hpre⟩ := mem_ready.1 hk
    have hks : k < ops.size := (Array.getElem?_eq_some_iff.1 ho).1
    have hlt : k < listed.size := by rw [I.sz]; exact hks
    have hkf : listed[k] = false := by simpa [Array.getD_eq_getD_getElem?, hlt] using h1
    have hnk : ¬ Dn listed k := by unfold Dn; simp [Array.getD_eq_getD_getElem?, hlt, hkf]
    have hbef : ∀ j, (bef.getD k 0).testBit j = true → Dn listed j := before_done hg hlen he I.closed k fun o' ho' e hm hb' => by
      rw [ho] at ho'; cases ho'
      exact hpre e hm hb'
    have haft : ∀ j, Dn listed j → (bef.getD j 0).testBit k = true → False := fun j hj hb' => hnk (before_done hg hlen he I.closed j (fun o' ho' => I.closed j o' hj ho') k hb')
    -- which operations may be apart of k
    have hapart : ∀ j, j < ops.size → j ≠ k → ¬ (Dn listed j ↔ j < k) → ((∀ x ∈ L j, ∀ y ∈ L k, (x.wr = true ∨ y.wr = true) → x.b = y.b → (x.k = y.k ∨ x.k = none ∨ y.k = none) → False) ∧ (∀ x ∈ L j, ¬ (n k ≤ x.b ∧ x.b < n (k + 1))) ∧ (∀ x ∈ L k, ¬ (n j ≤ x.b ∧ x.b < n (j + 1)))) ∧
        ∀ oj, ops[j]? = some oj → (∀ d, oj.dst = some d → d ∉ o.looksAt ops) ∧ (∀ d, oj.dst = some d → o.dst ≠ some d) := by
      intro j hj hjk hiff
      have gk : ops.getD k default = o := by simp [Array.getD_eq_getD_getElem?, ho]
      have gj : ∀ oj, ops[j]? = some oj → ops.getD j default = oj := fun oj h' => by simp [Array.getD_eq_getD_getElem?, h']
      rcases Nat.lt_or_ge j k with h' | h'
      · rcases hpair j k h' hks with hbit | ⟨hcl, hsl⟩
        · exact absurd ⟨fun _ => h', fun _ => hbef j hbit⟩ hiff
        · obtain ⟨c1, c2, c3⟩ := clash_spec hcl
          refine ⟨⟨c1, c2, c3⟩, fun oj hoj => ?_⟩
          rw [gk, gj oj hoj] at hsl
          obtain ⟨a1, a2, a3⟩ := Oper.apart_spec (by unfold slotClash at hsl; simpa using hsl)
          exact ⟨a1, a2⟩
      · have h'' : k < j := by omega
        have hdj : Dn listed j := by
          by_cases hd : Dn listed j
          · exact hd
          · exact absurd ⟨fun x => absurd x hd, fun x => by omega⟩ hiff
        rcases hpair k j h'' hj with hbit | ⟨hcl, hsl⟩
        · exact (haft j hdj hbit).elim
        · obtain ⟨c1, c2, c3⟩ := clash_spec hcl
          refine ⟨⟨fun x hx y hy hw hb' hk' => c1 y hy x hx hw.symm hb'.symm (or3 hk'), c3, c2⟩, fun oj hoj => ?_⟩
          rw [gk, gj oj hoj] at hsl
          obtain ⟨a1, a2, a3⟩ := Oper.apart_spec (by unfold slotClash at hsl; simpa using hsl)
          exact ⟨a3, fun d hd e => a2 d e hd⟩
    have A := hloc k o ho
    -- the slots that it looks at are as in the text's order
    have hsl : ∀ t ∈ o.looksAt ops, sD.get t = (s k).get t := fun t ht => I.slot t k (by omega) fun j oj hoj hdst => by
      by_cases hjk : j = k
      · subst hjk; exact ⟨fun x => absurd x hnk, fun x => by omega⟩
      · by_cases hiff : (Dn listed j ↔ j < k)
        · exact hiff
        · exact absurd ht (((hapart j (Array.getElem?_eq_some_iff.1 hoj).1 hjk hiff).2 oj hoj).1 t hdst)
    -- and so is what it touches
    obtain ⟨h1', hrun, hwr⟩ := A.det hD fun e hme hni => agrE.of_all fun c hc => (I.mem e.b c k (by omega) fun j hj hw => by
      by_cases hjk : j = k
      · subst hjk; exact ⟨fun x => absurd x hnk, fun x => by omega⟩
      · by_cases hiff : (Dn listed j ↔ j < k)
        · exact hiff
        · obtain ⟨⟨c1, c2, c3⟩, _⟩ := hapart j hj hjk hiff
          rcases hw with ⟨x, hx, hxw, hxb, hxk⟩ | hw
          · exact (c1 x hx e hme (.inl hxw) hxb (by
              rcases hxk with q | q
              · exact .inr (.inl q)
              · rcases hc with r | r
                · exact .inr (.inr r)
                · exact .inl (by rw [q, r]))).elim
          · exact (c3 e hme hw).elim).symm
    have A' := Loc.inside (Loc.evVal hrl ops o (s k)) _ _ _ _ _ _ hrun
    rw [← evVal_congr (s := sD) hsl] at hrun
    obtain ⟨L', hv⟩ := inside_some hrun
    have hput := C.put k o (by simpa using ho)
    have hout : ∀ b, n k ≤ b → b < n (k + 1) → m b = none := fun b hb1 hb2 => by
      have q1 := hm2 0 k (by omega) (by omega)
      have q2 := hm2 (k + 1) ops.size (by omega) (by omega)
      rw [I.out b fun j hj hd hi => ?_]
      · exact hf b (by omega) (by omega)
      · by_cases hjk : j = k
        · subst hjk; exact hnk hd
        · rcases Nat.lt_or_ge j k with h' | h'
          · have := hm2 (j + 1) k (by omega) (by omega); omega
          · have := hm2 (k + 1) j (by omega) (by omega); omega
    refine evVal_sim (nt := nt) hop hrec hrl ho (hok o (Array.mem_of_getElem? ho)) I.wr (Below.le I.below hb) (g.mono I.le) I.sr hv hout fun m' w' v' hp2 hv' => ?_
    -- the slots behind it
    have hsD : ∃ sD', putS nt sD o.dst (v k) = some sD' ∧ ∀ t, sD'.get t = if o.dst = some t then (s (k + 1)).get t else sD.get t := by
      unfold putS at hput ⊢
      cases hdst : o.dst with
      | none => exact ⟨sD, rfl, fun t => by simp⟩
      | some d =>
        rw [hdst] at hput
        simp only at hput ⊢
        split at hput
        · rename_i hc
          rw [if_pos hc]
          simp only [Bool.and_eq_true, decide_eq_true_eq] at hc
          have hq := Option.some.inj hput
          rw [← hq]
          refine ⟨_, rfl, fun t => ?_⟩
          rw [S.get_put _ _ _ _ hc.2, S.get_put _ _ _ _ hc.2]
          by_cases e : t = d
          · subst e; simp
          · rw [if_neg e, if_neg e]
            simp [Ne.symm e]
        · cases hput
    obtain ⟨sD', hput', hget'⟩ := hsD
    refine ih (listed.setIfInBounds k true) m' sD' h1' _ w' ?_ ⟨by simp [I.sz], ?_, ?_, ?_, I.le.trans hp2.le, ?_, hp2.wr, I.below.trans hp2.below, putS_at (I.sr.mono hp2.le) hv' hput'⟩
    · have hc := List.countP_set (p := fun b => !b) (l := listed.toList) (i := k) (a := true) (by simpa using hlt)
      have e1 : listed.toList[k] = false := by simpa using hkf
      rw [Array.toList_setIfInBounds, hc, hfu, e1]
      simp
    · intro j oj hd hoj e hme hb'
      rw [dn_set hlt] at hd ⊢
      rcases hd with rfl | hd
      · rw [ho] at hoj; cases hoj
        exact .inr (hpre e hme hb')
      · exact .inr (I.closed j oj hd hoj e hme hb')
    · intro b c i hi hiff
      by_cases hw : Wr n L k b c
      · have hki : k < i := (hiff k hks hw).1 ((dn_set hlt).2 (.inl rfl))
        have h2 : agrS (h i) (h (k + 1)) b c := hframe b c (k + 1) i (by omega) hi fun p hp1 hp2' hwp => by
          have hdp : Dn listed p := by
            rcases (dn_set hlt).1 ((hiff p (by omega) hwp).2 hp2') with q | q
            · omega
            · exact q
          obtain ⟨⟨c1, c2, c3⟩, _⟩ := hapart p (by omega) (by omega) (by intro q; have := q.1 hdp; omega)
          rcases hwp with ⟨x, hx, hxw, hxb, hxk⟩ | hwp
          · rcases hw with ⟨y, hy, hyw, hyb, hyk⟩ | hw
            · exact c1 x hx y hy (.inl hxw) (by rw [hxb, hyb]) (by
                rcases hxk with q | q
                · exact .inr (.inl q)
                · rcases hyk with r | r
                  · exact .inr (.inr r)
                  · exact .inl (by rw [q, r]))
            · exact c2 x hx (by rw [hxb]; exact hw)
          · rcases hw with ⟨y, hy, hyw, hyb, hyk⟩ | hw
            · exact c3 y hy (by rw [hyb]; exact hwp)
            · have := hm2 (k + 1) p (by omega) (by omega); omega
        exact (hwr b c hw).trans h2.symm
      · refine (A'.frame b c (fun x => hw (.inl x)) (fun x => hw (.inr x))).trans (I.mem b c i hi fun j hj hwj => ?_)
        have hjk : j ≠ k := fun e => hw (e ▸ hwj)
        rw [← hiff j hj hwj, dn_set hlt]
        exact ⟨.inr, fun q => q.resolve_left hjk⟩
    · intro t i hi hiff
      rw [hget' t]
      by_cases hd : o.dst = some t
      · rw [if_pos hd]
        have hki : k < i := (hiff k o ho hd).1 ((dn_set hlt).2 (.inl rfl))
        refine (hsframe t (k + 1) i (by omega) hi fun p op hp1 hp2' hop' hdp' => ?_).symm
        have hdp : Dn listed p := by
          rcases (dn_set hlt).1 ((hiff p op hop' hdp').2 hp2') with q | q
          · omega
          · exact q
        obtain ⟨_, c⟩ := hapart p (by omega) (by omega) (by intro q; have := q.1 hdp; omega)
        exact (c op hop').2 t hdp' hd
      · rw [if_neg hd]
        refine I.slot t i hi fun j oj hoj hdst => ?_
        have hjk : j ≠ k := fun e => hd (by subst e; rw [ho] at hoj; cases hoj; exact hdst)
        rw [← hiff j oj hoj hdst, dn_set hlt]
        exact ⟨.inr, fun q => q.resolve_left hjk⟩
    · intro b hbo
      rw [hp2.out b (hbo k hks ((dn_set hlt).2 (.inl rfl)))]
      exact I.out b fun j hj hd => hbo j hj ((dn_set hlt).2 (.inr hd))
end

end Go.Proofs.YtmjolmggelkjlaaGreat.Ev

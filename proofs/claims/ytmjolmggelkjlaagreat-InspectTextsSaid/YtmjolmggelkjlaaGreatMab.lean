/- Operations in any order that the edges leave open. No program in sight. -/
import Derived.Test.YtmjolmggelkjlaaGreatMaa
import Derived.Laws.Sem
import Derived.Laws.Append
import Derived.Laws.MakeOwn
import Derived.Laws.BytesString
namespace Go.Proofs.YtmjolmggelkjlaaGreat.Ev
set_option linter.unusedVariables false
set_option linter.unusedSimpArgs false
open Go Go.RowKit

def Good (ops : Array Oper) (acc : List Nat) : Prop := ∀ k, k < acc.length → ∀ j, (acc.getD k 0).testBit j = true → ∃ o, ops[k]? = some o ∧ ∃ e ∈ o.after, Region.binds .any e = true ∧ (j = e.on ∨ (acc.getD e.on 0).testBit j = true)
theorem getD_append_left {l l' : List Nat} {k : Nat} (h : k < l.length) : (l ++ l').getD k 0 = l.getD k 0 := by
  simp [List.getD_eq_getElem?_getD, List.getElem?_append_left h]
theorem fold_bit (acc : List Nat) (j : Nat) : ∀ (es : List Edge) (s : Nat), (es.foldl (fun s e => if Region.binds .any e then s ||| 2 ^ e.on ||| acc.getD e.on 0 else s) s).testBit j = true →
    s.testBit j = true ∨ ∃ e ∈ es, Region.binds .any e = true ∧ (j = e.on ∨ (acc.getD e.on 0).testBit j = true) := by
  intro es
  induction es with
  | nil => intro s h; exact .inl h
  | cons e es ih =>
    intro s h
    simp only [List.foldl_cons] at h
    rcases ih _ h with h1 | ⟨e', he', h1⟩
    · by_cases hb : Region.binds .any e = true
      · rw [if_pos hb] at h1
        simp only [Nat.testBit_or, Bool.or_eq_true] at h1
        rcases h1 with (h1 | h1) | h1
        · exact .inl h1
        · rw [Nat.testBit_two_pow] at h1
          exact .inr ⟨e, by simp, hb, .inl (by simpa using Eq.symm (of_decide_eq_true h1))⟩
        · exact .inr ⟨e, by simp, hb, .inr h1⟩
      · rw [if_neg hb] at h1; exact .inl h1
    · exact .inr ⟨e', by simp [he'], h1⟩
theorem befores_good (ops : Array Oper) : ∀ (l : List Oper) (acc : List Nat), (∀ i o, l[i]? = some o → ops[acc.length + i]? = some o) → Good ops acc → Good ops (befores l acc) ∧ (befores l acc).length = acc.length + l.length := by
  intro l
  induction l with
  | nil => intro acc _ h; exact ⟨h, by simp [befores]⟩
  | cons o r ih =>
    intro acc hl h
    unfold befores
    generalize hB : (o.after.toList.foldl (fun s e => if Region.binds .any e then s ||| 2 ^ e.on ||| acc.getD e.on 0 else s) 0) = B
    have := ih (acc ++ [B]) (fun i o' ho' => by
      have := hl (i + 1) o' (by simpa using ho')
      simp only [List.length_append, List.length_singleton]
      rw [show acc.length + 1 + i = acc.length + (i + 1) by omega]
      exact this) ?_
    · exact ⟨this.1, by rw [this.2]; simp; omega⟩
    · intro k hk j hj
      by_cases hk2 : k < acc.length
      · rw [getD_append_left hk2] at hj
        obtain ⟨o', h1, e, h2, h3, h4⟩ := h k hk2 j hj
        refine ⟨o', h1, e, h2, h3, ?_⟩
        rcases h4 with h4 | h4
        · exact .inl h4
        · refine .inr ?_
          by_cases he : e.on < acc.length
          · rw [getD_append_left he]; exact h4
          · rw [List.getD_eq_getElem?_getD, List.getElem?_eq_none (by omega)] at h4
            simp at h4
      · have hk3 : k = acc.length := by simp at hk; omega
        subst hk3
        have hB2 : (acc ++ [B]).getD acc.length 0 = B := by simp [List.getD_eq_getElem?_getD]
        rw [hB2, ← hB] at hj
        rcases fold_bit acc j _ _ hj with h1 | ⟨e, he, hb, h1⟩
        · simp at h1
        · refine ⟨o, by simpa using hl 0 o rfl, e, by simpa using he, hb, ?_⟩
          rcases h1 with h1 | h1
          · exact .inl h1
          · refine .inr ?_
            by_cases he : e.on < acc.length
            · rw [getD_append_left he]; exact h1
            · rw [List.getD_eq_getElem?_getD, List.getElem?_eq_none (by omega)] at h1
              simp at h1
/-- what stands before an operation is done when those that its edges name are -/
theorem before_done {ops : Array Oper} {bef : List Nat} (hg : Good ops bef) (hlen : bef.length = ops.size) (he : ∀ k o, ops[k]? = some o → ∀ e ∈ o.after, Region.binds .any e = true → e.on < k) {D : Nat → Prop}
    (hc : ∀ k o, D k → ops[k]? = some o → ∀ e ∈ o.after, Region.binds .any e = true → D e.on) : ∀ (k : Nat), (∀ o, ops[k]? = some o → ∀ e ∈ o.after, Region.binds .any e = true → D e.on) → ∀ j, (bef.getD k 0).testBit j = true → D j := by
  intro k
  induction k using Nat.strongRecOn with
  | _ k ih =>
    intro hk j hj
    by_cases hlt : k < bef.length
    · obtain ⟨o, ho, e, hme, hbi, h1⟩ := hg k hlt j hj
      have hd := hk o ho e hme hbi
      rcases h1 with rfl | h1
      · exact hd
      · exact ih e.on (he k o ho e hme hbi) (fun o' ho' => hc e.on o' hd ho') j h1
    · rw [List.getD_eq_getElem?_getD, List.getElem?_eq_none (by omega)] at hj
      simp at hj

theorem pairsOk_at {ops : Array Oper} {bef : List Nat} : ∀ (l : List (Nat × Tk)), pairsOk ops bef l = true → ∀ (p q : Nat) (x y : Nat × Tk), p < q → l[p]? = some x → l[q]? = some y → (bef.getD y.1 0).testBit x.1 = true ∨ (x.2.clash y.2 = false ∧ slotClash ops (ops.getD x.1 default) (ops.getD y.1 default) = false) := by
  intro l
  induction l with
  | nil => intro _ p q x y _ hp; simp at hp
  | cons a l ih =>
    intro h p q x y hpq hp hq
    obtain ⟨ja, ta⟩ := a
    unfold pairsOk at h
    simp only [Bool.and_eq_true] at h
    cases q with
    | zero => omega
    | succ q =>
      cases p with
      | zero =>
        simp at hp
        subst hp
        have := List.all_eq_true.1 h.1 y (List.mem_of_getElem? (by simpa using hq))
        simpa using this
      | succ p => exact ih h.2 p q x y (by omega) (by simpa using hp) (by simpa using hq)
theorem tagged_at : ∀ (ts : List Tk) (b i : Nat), (tagged b ts)[i]? = (ts[i]?).map fun t => (b + i, t) := by
  intro ts
  induction ts with
  | nil => intro b i; simp [tagged]
  | cons t ts ih =>
    intro b i
    cases i with
    | zero => simp [tagged]
    | succ i =>
      simp only [tagged, List.getElem?_cons_succ, ih]
      congr 1
      funext x
      rw [show b + 1 + i = b + (i + 1) by omega]
theorem clash_spec {a b : Tk} (h : a.clash b = false) :
    (∀ x ∈ a.log, ∀ y ∈ b.log, (x.wr = true ∨ y.wr = true) → x.b = y.b → (x.k = y.k ∨ x.k = none ∨ y.k = none) → False) ∧ (∀ x ∈ a.log, ¬ (b.n ≤ x.b ∧ x.b < b.n1)) ∧ (∀ x ∈ b.log, ¬ (a.n ≤ x.b ∧ x.b < a.n1)) := by
  unfold Tk.clash at h
  simp only [Bool.or_eq_false_iff] at h
  obtain ⟨⟨⟨h1, h2⟩, h3⟩, h4⟩ := h
  refine ⟨fun x hx y hy hw hb hk => ?_, fun x hx hi => ?_, fun x hx hi => ?_⟩
  · have hm : x.meets y = true ∧ y.meets x = true := by
      unfold En.meets
      rcases hk with hk | hk | hk <;> simp [hb, hk]
    rcases hw with hw | hw
    · have := (List.any_eq_false.1 h1) x hx
      simp only [hw, Bool.true_and] at this
      exact (List.any_eq_false.1 (by simpa using this)) y hy hm.1
    · have := (List.any_eq_false.1 h2) y hy
      simp only [hw, Bool.true_and] at this
      exact (List.any_eq_false.1 (by simpa using this)) x hx hm.2
  · have := (List.any_eq_false.1 h3) x hx
    simp at this
    omega
  · have := (List.any_eq_false.1 h4) x hx
    simp at this
    omega

theorem or3 {a b : Option Nat} (h : a = b ∨ a = none ∨ b = none) : b = a ∨ b = none ∨ a = none := by
  rcases h with h | h | h
  · exact .inl h.symm
  · exact .inr (.inr h)
  · exact .inr (.inl h)
section
variable {P : Program} {base : Nat} {rec : FuncId → Array Value → M Value} {nt : Nat} {ops : Array Oper} {Q : Exit → Act → World → Prop}
/-- that operation j touches a cell by writing -/
def Wr (n : Nat → Nat) (L : Nat → List En) (j b c : Nat) : Prop := wrote (L j) b c ∨ (n j ≤ b ∧ b < n (j + 1))
def Dn (listed : Array Bool) (j : Nat) : Prop := listed.getD j false = true
structure Inv (P : Program) (base nt : Nat) (ops : Array Oper) (s : Nat → S) (h : Nat → H) (n : Nat → Nat) (L : Nat → List En) (m0 : Mp) (w0 : World) (listed : Array Bool) (m : Mp) (sD : S) (hD : H) (a : Act) (w : World) : Prop where
  sz : listed.size = ops.size
  closed : ∀ k o, Dn listed k → ops[k]? = some o → ∀ e ∈ o.after, Region.binds .any e = true → Dn listed e.on
  mem : ∀ b c i, i ≤ ops.size → (∀ j, j < ops.size → Wr n L j b c → (Dn listed j ↔ j < i)) → agrS hD (h i) b c
  slot : ∀ t i, i ≤ ops.size → (∀ j o, ops[j]? = some o → o.dst = some t → (Dn listed j ↔ j < i)) → sD.get t = (s i).get t
  le : Le m0 m
  out : ∀ b, (∀ j, j < ops.size → Dn listed j → ¬ (n j ≤ b ∧ b < n (j + 1))) → m b = m0 b
  wr : WR P m base hD w.heap
  below : Below base w0 w
  sr : SR m nt sD a
theorem dn_set {listed : Array Bool} {k j : Nat} (hk : k < listed.size) : Dn (listed.setIfInBounds k true) j ↔ (j = k ∨ Dn listed j) := by
  unfold Dn
  by_cases e : j = k
  · subst e; simp [hk]
  · simp [e, Array.getElem?_setIfInBounds_ne (Ne.symm e), Array.getD_eq_getD_getElem?]
theorem undone_all {listed : Array Bool} (he : ∀ k o, ops[k]? = some o → ∀ e ∈ o.after, Region.binds .any e = true → e.on < k) (hsz : listed.size = ops.size) (hr : Region.ready .any ops listed = []) : ∀ k, k < ops.size → Dn listed k := by
  intro k
  induction k using Nat.strongRecOn with
  | _ k ih =>
    intro hk
    cases hd : listed.getD k true with
    | true =>
      unfold Dn
      simpa [Array.getD_eq_getD_getElem?, hsz ▸ hk, Array.getElem?_eq_getElem (hsz ▸ hk : k < listed.size)] using hd
    | false =>
      have : k ∈ Region.ready .any ops listed := mem_ready.2 ⟨hd, ops[k], by simp [hk], fun e hm hb => ih e.on (he k ops[k] (by simp [hk]) e hm hb) (by
        have := he k ops[k] (by simp [hk]) e hm hb
        omega)⟩
      rw [hr] at this
      cases this
theorem any_sim (hop : OpSim P base) (hrec : CallSim P base rec) (hrl : ∀ f a, Loc (rec f a)) (hok : ∀ o ∈ ops, okOper P o = true) {s : Nat → S} {h : Nat → H} {n : Nat → Nat} {v : Nat → Value} {L : Nat → List En}
    (C : Chain P rec nt ops ops.toList s h n v L) (he : ∀ k o, ops[k]? = some o → ∀ e ∈ o.after, Region.binds .any e = true → e.on < k)
    {bef : List Nat} (hg : Good ops bef) (hlen : bef.length = ops.size)
    (hpair : ∀ j k, j < k → k < ops.size → (bef.getD k 0).testBit j = true ∨ ((⟨n j, n (j + 1), L j⟩ : Tk).clash ⟨n k, n (k + 1), L k⟩ = false ∧ slotClash ops (ops.getD j default) (ops.getD k default) = false))
    {m0 : Mp} {w0 : World} (hf : Fresh m0 (n 0) (n ops.size)) (hmono : ∀ i, i < ops.size → n i ≤ n (i + 1)) (hb : base ≤ w0.heap.size) (g : Gl P m0)
    (hR : ∀ m' a' w', Post P m0 base (n 0) (n ops.size) w0 (h ops.size) m' w' → SR m' nt (s ops.size) a' → Q .normal a' w') :
    ∀ (fuel : Nat) (listed : Array Bool) (m : Mp) (sD : S) (hD : H) (a : Act) (w : World), listed.toList.countP (fun b => !b) = fuel → Inv P base nt ops s h n L m0 w0 listed m sD hD a w → wpAny P .any ops Q fuel listed a w := by
  have hm2 : ∀ i j, i ≤ j → j ≤ ops.size → n i ≤ n j := by
    intro i j hij
    induction hij with
    | refl => intro _; exact Nat.le_refl _
    | step hij ih => intro hj; exact Nat.le_trans (ih (by omega)) (hmono _ (by omega))
  have hloc : ∀ k o, ops[k]? = some o → LocAt (inside (evVal P rec ops o (s k))) (h k) (n k) (v k) (h (k + 1)) (n (k + 1)) (L k) := fun k o ho =>
    Loc.inside (Loc.evVal hrl ops o (s k)) _ _ _ _ _ _ (C.step k o (by simpa using ho))
  -- between the writers of a cell it stays
  have hframe : ∀ b c i j, i ≤ j → j ≤ ops.size → (∀ p, i ≤ p → p < j → ¬ Wr n L p b c) → agrS (h j) (h i) b c := by
    intro b c i j hij
    induction hij with
    | refl => intro _ _; exact agrS.refl _ _ _
    | @step j hij ih =>
      intro hj hp
      have hj2 : j < ops.size := by omega
      have A := hloc j ops[j] (by simp [hj2])
      have hw := hp j hij (by omega)
      exact (A.frame b c (fun x => hw (.inl x)) (fun x => hw (.inr x))).trans (ih (by omega) fun p h1 h2 => hp p h1 (by omega))
  have hsframe : ∀ t i j, i ≤ j → j ≤ ops.size → (∀ p o, i ≤ p → p < j → ops[p]? = some o → o.dst ≠ some t) → (s j).get t = (s i).get t := by
    intro t i j hij
    induction hij with
    | refl => intro _ _; rfl
    | @step j hij ih =>
      intro hj hp
      have hj2 : j < ops.size := by omega
      have hput := C.put j ops[j] (by simp [hj2])
      have hd := hp j ops[j] hij (by omega) (by simp [hj2])
      rw [← ih (by omega) fun p o h1 h2 => hp p o h1 (by omega)]
      unfold putS at hput
      cases hdst : (ops[j]).dst with
      | none => rw [hdst] at hput; have hq : s j = s (j + 1) := Option.some.inj hput; rw [hq]
      | some d =>
        rw [hdst] at hput hd
        simp only at hput
        split at hput
        · rename_i hc
          simp only [Bool.and_eq_true, decide_eq_true_eq] at hc
          have hq := Option.some.inj hput
          rw [← hq, S.get_put _ _ _ _ hc.2, if_neg (fun e => hd (by rw [e]))]
        · cases hput
  have fin : ∀ listed m sD hD a w, Inv P base nt ops s h n L m0 w0 listed m sD hD a w → Region.ready .any ops listed = [] → Q .normal a w := by
    intro listed m sD hD a w I hr
    have hall := undone_all he I.sz hr
    refine hR m a w ⟨I.le, fun b hb => I.out b fun j hj _ hi => hb ⟨Nat.le_trans (hm2 0 j (by omega) (by omega)) hi.1, Nat.lt_of_lt_of_le hi.2 (hm2 (j + 1) ops.size (by omega) (by omega))⟩, I.wr.of_get fun b => ?_, I.below⟩ ⟨I.sr.df, I.sr.sz, fun t => ?_⟩
    · exact (get_of_agrS fun c => I.mem b c ops.size (Nat.le_refl _) fun j hj _ => ⟨fun _ => hj, fun _ => hall j hj⟩).symm
    · rw [← I.slot t ops.size (Nat.le_refl _) fun j o ho _ => ⟨fun _ => (Array.getElem?_eq_some_iff.1 ho).1, fun hj => hall j hj⟩]
      exact I.sr.at_ t
  intro fuel
  induction fuel with
  | zero =>
    intro listed m sD hD a w hfu I
    have hnil : Region.ready .any ops listed = [] := by
      apply List.eq_nil_iff_forall_not_mem.2
      intro k hk
      obtain ⟨h1, o, ho, _⟩ := mem_ready.1 hk
      have hlt : k < listed.size := by rw [I.sz]; exact (Array.getElem?_eq_some_iff.1 ho).1
      have h2 : listed[k] = false := by simpa [Array.getD_eq_getD_getElem?, hlt] using h1
      have := List.countP_eq_zero.1 hfu listed[k] (by simp)
      rw [h2] at this
      exact this rfl
    exact ⟨hnil, fin _ _ _ _ _ _ I hnil⟩
  | succ fuel ih =>
    intro listed m sD hD a w hfu I
    refine ⟨fin _ _ _ _ _ _ I, fun k hk => ?_⟩
    obtain ⟨h1, o, ho, hpre⟩ := mem_ready.1 hk
    have hks : k < ops.size := (Array.getElem?_eq_some_iff.1 ho).1
    have hlt : k < listed.size := by rw [I.sz]; exact hks
    have hkf : listed[k] = false := by simpa [Array.getD_eq_getD_getElem?, hlt] using h1
    have hnk : ¬ Dn listed k := by unfold Dn; simp [Array.getD_eq_getD_getElem?, hlt, hkf]
    have hbef : ∀ j, (bef.getD k 0).testBit j = true → Dn listed j := before_done hg hlen he I.closed k fun o' ho' e hm hb' => by
      rw [ho] at ho'; cases ho'
      exact hpre e hm hb'
    have haft : ∀ j, Dn listed j → (bef.getD j 0).testBit k = true → False := fun j hj hb' => hnk (before_done hg hlen he I.closed j (fun o' ho' => I.closed j o' hj ho') k hb')
    -- which operations may be apart of k
    have hapart : ∀ j, j < ops.size → j ≠ k → ¬ (Dn listed j ↔ j < k) → ((∀ x ∈ L j, ∀ y ∈ L k, (x.wr = true ∨ y.wr = true) → x.b = y.b → (x.k = y.k ∨ x.k = none ∨ y.k = none) → False) ∧ (∀ x ∈ L j, ¬ (n k ≤ x.b ∧ x.b < n (k + 1))) ∧ (∀ x ∈ L k, ¬ (n j ≤ x.b ∧ x.b < n (j + 1)))) ∧
        ∀ oj, ops[j]? = some oj → (∀ d, oj.dst = some d → d ∉ o.looksAt ops) ∧ (∀ d, oj.dst = some d → o.dst ≠ some d) := by
      intro j hj hjk hiff
      have gk : ops.getD k default = o := by simp [Array.getD_eq_getD_getElem?, ho]
      have gj : ∀ oj, ops[j]? = some oj → ops.getD j default = oj := fun oj h' => by simp [Array.getD_eq_getD_getElem?, h']
      rcases Nat.lt_or_ge j k with h' | h'
      · rcases hpair j k h' hks with hbit | ⟨hcl, hsl⟩
        · exact absurd ⟨fun _ => h', fun _ => hbef j hbit⟩ hiff
        · obtain ⟨c1, c2, c3⟩ := clash_spec hcl
          refine ⟨⟨c1, c2, c3⟩, fun oj hoj => ?_⟩
          rw [gk, gj oj hoj] at hsl
          obtain ⟨a1, a2, a3⟩ := Oper.apart_spec (by unfold slotClash at hsl; simpa using hsl)
          exact ⟨a1, a2⟩
      · have h'' : k < j := by omega
        have hdj : Dn listed j := by
          by_cases hd : Dn listed j
          · exact hd
          · exact absurd ⟨fun x => absurd x hd, fun x => by omega⟩ hiff
        rcases hpair k j h'' hj with hbit | ⟨hcl, hsl⟩
        · exact (haft j hdj hbit).elim
        · obtain ⟨c1, c2, c3⟩ := clash_spec hcl
          refine ⟨⟨fun x hx y hy hw hb' hk' => c1 y hy x hx hw.symm hb'.symm (or3 hk'), c3, c2⟩, fun oj hoj => ?_⟩
          rw [gk, gj oj hoj] at hsl
          obtain ⟨a1, a2, a3⟩ := Oper.apart_spec (by unfold slotClash at hsl; simpa using hsl)
          exact ⟨a3, fun d hd e => a2 d e hd⟩
    have A := hloc k o ho
    -- the slots that it looks at are as in the text's order
    have hsl : ∀ t ∈ o.looksAt ops, sD.get t = (s k).get t := fun t ht => I.slot t k (by omega) fun j oj hoj hdst => by
      by_cases hjk : j = k
      · subst hjk; exact ⟨fun x => absurd x hnk, fun x => by omega⟩
      · by_cases hiff : (Dn listed j ↔ j < k)
        · exact hiff
        · exact absurd ht (((hapart j (Array.getElem?_eq_some_iff.1 hoj).1 hjk hiff).2 oj hoj).1 t hdst)
    -- and so is what it touches
    obtain ⟨h1', hrun, hwr⟩ := A.det hD fun e hme hni => agrE.of_all fun c hc => (I.mem e.b c k (by omega) fun j hj hw => by
      by_cases hjk : j = k
      · subst hjk; exact ⟨fun x => absurd x hnk, fun x => by omega⟩
      · by_cases hiff : (Dn listed j ↔ j < k)
        · exact hiff
        · obtain ⟨⟨c1, c2, c3⟩, _⟩ := hapart j hj hjk hiff
          rcases hw with ⟨x, hx, hxw, hxb, hxk⟩ | hw
          · exact (c1 x hx e hme (.inl hxw) hxb (by
              rcases hxk with q | q
              · exact .inr (.inl q)
              · rcases hc with r | r
                · exact .inr (.inr r)
                · exact .inl (by rw [q, r]))).elim
          · exact (c3 e hme hw).elim).symm
    have A' := Loc.inside (Loc.evVal hrl ops o (s k)) _ _ _ _ _ _ hrun
    rw [← evVal_congr (s := sD) hsl] at hrun
    obtain ⟨L', hv⟩ := inside_some hrun
    have hput := C.put k o (by simpa using ho)
    have hout : ∀ b, n k ≤ b → b < n (k + 1) → m b = none := fun b hb1 hb2 => by
      have q1 := hm2 0 k (by omega) (by omega)
      have q2 := hm2 (k + 1) ops.size (by omega) (by omega)
      rw [I.out b fun j hj hd hi => ?_]
      · exact hf b (by omega) (by omega)
      · by_cases hjk : j = k
        · subst hjk; exact hnk hd
        · rcases Nat.lt_or_ge j k with h' | h'
          · have := hm2 (j + 1) k (by omega) (by omega); omega
          · have := hm2 (k + 1) j (by omega) (by omega); omega
    refine evVal_sim (nt := nt) hop hrec hrl ho (hok o (Array.mem_of_getElem? ho)) I.wr (Below.le I.below hb) (g.mono I.le) I.sr hv hout fun m' w' v' hp2 hv' => ?_
    -- the slots behind it
    have hsD : ∃ sD', putS nt sD o.dst (v k) = some sD' ∧ ∀ t, sD'.get t = if o.dst = some t then (s (k + 1)).get t else sD.get t := by
      unfold putS at hput ⊢
      cases hdst : o.dst with
      | none => exact ⟨sD, rfl, fun t => by simp⟩
      | some d =>
        rw [hdst] at hput
        simp only at hput ⊢
        split at hput
        · rename_i hc
          rw [if_pos hc]
          simp only [Bool.and_eq_true, decide_eq_true_eq] at hc
          have hq := Option.some.inj hput
          rw [← hq]
          refine ⟨_, rfl, fun t => ?_⟩
          rw [S.get_put _ _ _ _ hc.2, S.get_put _ _ _ _ hc.2]
          by_cases e : t = d
          · subst e; simp
          · rw [if_neg e, if_neg e]
            simp [Ne.symm e]
        · cases hput
    obtain ⟨sD', hput', hget'⟩ := hsD
    refine ih (listed.setIfInBounds k true) m' sD' h1' _ w' ?_ ⟨by simp [I.sz], ?_, ?_, ?_, I.le.trans hp2.le, ?_, hp2.wr, I.below.trans hp2.below, putS_at (I.sr.mono hp2.le) hv' hput'⟩
    · have hc := List.countP_set (p := fun b => !b) (l := listed.toList) (i := k) (a := true) (by simpa using hlt)
      have e1 : listed.toList[k] = false := by simpa using hkf
      rw [Array.toList_setIfInBounds, hc, hfu, e1]
      simp
    · intro j oj hd hoj e hme hb'
      rw [dn_set hlt] at hd ⊢
      rcases hd with rfl | hd
      · rw [ho] at hoj; cases hoj
        exact .inr (hpre e hme hb')
      · exact .inr (I.closed j oj hd hoj e hme hb')
    · intro b c i hi hiff
      by_cases hw : Wr n L k b c
      · have hki : k < i := (hiff k hks hw).1 ((dn_set hlt).2 (.inl rfl))
        have h2 : agrS (h i) (h (k + 1)) b c := hframe b c (k + 1) i (by omega) hi fun p hp1 hp2' hwp => by
          have hdp : Dn listed p := by
            rcases (dn_set hlt).1 ((hiff p (by omega) hwp).2 hp2') with q | q
            · omega
            · exact q
          obtain ⟨⟨c1, c2, c3⟩, _⟩ := hapart p (by omega) (by omega) (by intro q; have := q.1 hdp; omega)
          rcases hwp with ⟨x, hx, hxw, hxb, hxk⟩ | hwp
          · rcases hw with ⟨y, hy, hyw, hyb, hyk⟩ | hw
            · exact c1 x hx y hy (.inl hxw) (by rw [hxb, hyb]) (by
                rcases hxk with q | q
                · exact .inr (.inl q)
                · rcases hyk with r | r
                  · exact .inr (.inr r)
                  · exact .inl (by rw [q, r]))
            · exact c2 x hx (by rw [hxb]; exact hw)
          · rcases hw with ⟨y, hy, hyw, hyb, hyk⟩ | hw
            · exact c3 y hy (by rw [hyb]; exact hwp)
            · have := hm2 (k + 1) p (by omega) (by omega); omega
        exact (hwr b c hw).trans h2.symm
      · refine (A'.frame b c (fun x => hw (.inl x)) (fun x => hw (.inr x))).trans (I.mem b c i hi fun j hj hwj => ?_)
        have hjk : j ≠ k := fun e => hw (e ▸ hwj)
        rw [← hiff j hj hwj, dn_set hlt]
        exact ⟨.inr, fun q => q.resolve_left hjk⟩
    · intro t i hi hiff
      rw [hget' t]
      by_cases hd : o.dst = some t
      · rw [if_pos hd]
        have hki : k < i := (hiff k o ho hd).1 ((dn_set hlt).2 (.inl rfl))
        refine (hsframe t (k + 1) i (by omega) hi fun p op hp1 hp2' hop' hdp' => ?_).symm
        have hdp : Dn listed p := by
          rcases (dn_set hlt).1 ((hiff p op hop' hdp').2 hp2') with q | q
          · omega
          · exact q
        obtain ⟨_, c⟩ := hapart p (by omega) (by omega) (by intro q; have := q.1 hdp; omega)
        exact (c op hop').2 t hdp' hd
      · rw [if_neg hd]
        refine I.slot t i hi fun j oj hoj hdst => ?_
        have hjk : j ≠ k := fun e => hd (by subst e; rw [ho] at hoj; cases hoj; exact hdst)
        rw [← hiff j oj hoj hdst, dn_set hlt]
        exact ⟨.inr, fun q => q.resolve_left hjk⟩
    · intro b hbo
      rw [hp2.out b (hbo k hks ((dn_set hlt).2 (.inl rfl)))]
      exact I.out b fun j hj hd => hbo j hj ((dn_set hlt).2 (.inr hd))
end

end Go.Proofs.YtmjolmggelkjlaaGreat.Ev
/- Code and calls: what the evaluator finds holds of every run. No program in sight. -/
namespace Go.Proofs.YtmjolmggelkjlaaGreat.Ev
set_option linter.unusedVariables false
set_option linter.unusedSimpArgs false
open Go Go.RowKit

theorem exists_least {p : Nat → Prop} (h : ∃ n, p n) : ∃ n, p n ∧ ∀ k, p k → n ≤ k := by
  obtain ⟨n, hn⟩ := h
  induction n using Nat.strongRecOn with
  | _ n ih =>
    by_cases hx : ∃ k, k < n ∧ p k
    · obtain ⟨k, hk, hp⟩ := hx
      exact ih k hk hp
    · exact ⟨n, hn, fun k hk => by
        rcases Nat.lt_or_ge k n with h | h
        · exact absurd ⟨k, h, hk⟩ hx
        · exact h⟩
noncomputable def least (p : Nat → Prop) : Nat := open Classical in if h : ∃ n, p n then Classical.choose (exists_least h) else 0
theorem least_spec {p : Nat → Prop} (h : ∃ n, p n) : p (least p) ∧ ∀ k, p k → least p ≤ k := by
  unfold least
  rw [dif_pos h]
  exact Classical.choose_spec (exists_least h)

def cv : Ex → Exit
  | .normal => .normal
  | .ret => .ret
  | .exit id => .exit id

section
variable {P : Program} {base : Nat} {rec : FuncId → Array Value → M Value} {nt : Nat}
theorem region_sim (hop : OpSim P base) (hrec : CallSim P base rec) (hrl : ∀ f a, Loc (rec f a)) (hmix : P.follows .mixedOrders = true) {id : Nat} {ops : Array Oper} {draw : Bool} (hok : ∀ o ∈ ops, okOper P o = true)
    {Q : Exit → Act → World → Prop} {m : Mp} {s s1 : S} {a : Act} {w : World} {h h1 : H} {n n1 : Nat} {L : List En} (x : WR P m base h w.heap) (hb : base ≤ w.heap.size) (g : Gl P m) (hs : SR m nt s a)
    (hr : evRegion P rec nt ops draw s h n = some ⟨s1, h1, n1, L⟩) (hf : Fresh m n n1) (hQ : ∀ m' a' w', Post P m base n n1 w h1 m' w' → SR m' nt s1 a' → Q .normal a' w') : (Code.region id ops draw).wp P Q a w := by
  unfold evRegion at hr
  obtain ⟨y, h2, n2, L1, L2, e1, e2, _⟩ := bind_some hr
  obtain ⟨sf, hf', nf, vf, Lf, C, a1, a2, a3, a4, a5, a6, a7, a8⟩ := evOpers_chain _ _ _ _ _ _ _ _ e1
  have hlen : ops.toList.length = ops.size := by simp
  rw [hlen] at a4 a5 a6 a7 a8
  have hmono : ∀ i, i < ops.size → nf i ≤ nf (i + 1) := fun i hi =>
    (Loc.inside (Loc.evVal hrl ops ops[i] (sf i)) _ _ _ _ _ _ (C.step i ops[i] (by simp [hi]))).le
  split at e2
  · rename_i hcond
    obtain ⟨rfl, rfl, rfl⟩ := ret_some e2
    subst a1 a2 a3 a5 a6
    rw [← a4] at hQ
    cases draw with
    | false =>
      apply wp_region
      rw [List.range_eq_range']
      exact chain_sim hop hrec hrl hok C hf hmono hb g (fun _ _ => True) hQ ops.size 0 (by omega) m a w (Post.refl x) hs
    | true =>
      simp only [Bool.not_true, Bool.false_or, Bool.and_eq_true] at hcond
      obtain ⟨hedge, hpairs⟩ := hcond
      apply wp_region_any hmix
      have hgood := befores_good ops ops.toList [] (fun i o ho => by simpa using ho) (fun k hk => by simp at hk)
      refine any_sim hop hrec hrl hok C (fun k o ho e he hb' => ?_) hgood.1 (by simpa using hgood.2) (fun j k hjk hk => ?_) hf hmono (w0 := { w with drawn := w.drawn + 1 }) hb g (fun m' a' w' hp hs' => hQ m' a' w' ⟨hp.le, hp.out, hp.wr, (Below.drew (Below.refl base w)).trans hp.below⟩ hs') ops.size _ m (sf 0) (hf' 0) a _ ?_ ?_
      · unfold edgesOk at hedge
        rw [List.all_eq_true] at hedge
        have := hedge (o, k) (by
          rw [List.mem_iff_getElem?]
          exact ⟨k, by simp [List.getElem?_zipIdx, ho]⟩)
        simp only [Bool.and_eq_true] at this
        have h2 := this.1
        rw [Array.all_eq_true_iff_forall_mem] at h2
        have h3 := h2 e he
        simpa [hb'] using h3
      · have hj : j < ops.size := by omega
        have := pairsOk_at _ hpairs j k (j, ⟨nf j, nf (j + 1), Lf j⟩) (k, ⟨nf k, nf (k + 1), Lf k⟩) hjk (by rw [tagged_at, a8 j hj]; simp) (by rw [tagged_at, a8 k hk]; simp)
        exact this
      · simp [List.countP_replicate]
      · have hnd : ∀ j, ¬ Dn (Array.replicate ops.size false) j := by
          intro j hj
          unfold Dn at hj
          rw [Array.getD_eq_getD_getElem?, Array.getElem?_replicate] at hj
          split at hj <;> simp at hj
        refine ⟨by simp, fun k o hd => absurd hd (hnd k), fun b c i hi hiff => ?_, fun t i hi hiff => ?_, Le.refl _, fun _ _ => rfl, x, Below.refl _ _, hs⟩
        · -- no writer lies ahead of i
          have key : ∀ i, i ≤ ops.size → (∀ j, j < ops.size → Wr nf Lf j b c → ¬ j < i) → agrS (hf' 0) (hf' i) b c := by
            intro i
            induction i with
            | zero => intro _ _; exact agrS.refl _ _ _
            | succ i ih =>
              intro hi hno
              have A := Loc.inside (Loc.evVal hrl ops ops[i] (sf i)) _ _ _ _ _ _ (C.step i ops[i] (by simp [show i < ops.size by omega]))
              have hw : ¬ Wr nf Lf i b c := fun hw => hno i (by omega) hw (by omega)
              exact (ih (by omega) fun j hj hwj hlt => hno j hj hwj (by omega)).trans (A.frame b c (fun q => hw (.inl q)) (fun q => hw (.inr q))).symm
          exact key i hi fun j hj hw hlt => hnd j ((hiff j hj hw).2 hlt)
        · have key : ∀ i, i ≤ ops.size → (∀ j o, ops[j]? = some o → o.dst = some t → ¬ j < i) → (sf 0).get t = (sf i).get t := by
            intro i
            induction i with
            | zero => intro _ _; rfl
            | succ i ih =>
              intro hi hno
              have hi2 : i < ops.size := by omega
              rw [ih (by omega) fun j o ho hd hlt => hno j o ho hd (by omega)]
              have hput := C.put i ops[i] (by simp [hi2])
              have hd : (ops[i]).dst ≠ some t := fun hd => hno i ops[i] (by simp [hi2]) hd (by omega)
              unfold putS at hput
              cases hdst : (ops[i]).dst with
              | none => rw [hdst] at hput; have hq : sf i = sf (i + 1) := Option.some.inj hput; rw [hq]
              | some d =>
                rw [hdst] at hput hd
                simp only at hput
                split at hput
                · rename_i hc
                  simp only [Bool.and_eq_true, decide_eq_true_eq] at hc
                  have hq := Option.some.inj hput
                  rw [← hq, S.get_put _ _ _ _ hc.2, if_neg (fun e => hd (by rw [e]))]
                · cases hput
          exact key i hi fun j o ho hd hlt => hnd j ((hiff j o ho hd).2 hlt)
  · cases e2

theorem code_sim (hop : OpSim P base) (hrec : CallSim P base rec) (hrl : ∀ f a, Loc (rec f a)) (hmix : P.follows .mixedOrders = true) :
    ∀ (fuel : Nat) (c : Code) (_ : okCode P c = true) (Q : Exit → Act → World → Prop) (m : Mp) (s s1 : S) (a : Act) (w : World) (h h1 : H) (n n1 : Nat) (L : List En) (e : Ex), WR P m base h w.heap → base ≤ w.heap.size → Gl P m → SR m nt s a →
      evCode P rec nt fuel c s h n = some ⟨(e, s1), h1, n1, L⟩ → Fresh m n n1 → (∀ m' a' w', Post P m base n n1 w h1 m' w' → SR m' nt s1 a' → Q (cv e) a' w') → c.wp P Q a w := by
  intro fuel
  induction fuel using Nat.strongRecOn with
  | _ fuel ih =>
    intro c hok Q m s s1 a w h h1 n n1 L e x hb g hs hr hf hQ
    cases fuel with
    | zero => cases hr
    | succ f =>
      cases c with
      | skip =>
        obtain ⟨q, rfl, rfl⟩ := ret_some hr
        cases q
        exact wp_skip (hQ m a w (Post.refl x) hs)
      | label l =>
        obtain ⟨q, rfl, rfl⟩ := ret_some hr
        cases q
        exact wp_label (hQ m a w (Post.refl x) hs)
      | region id ops draw =>
        unfold evCode at hr
        obtain ⟨s2, h2, n2, L1, L2, e1, e2, _⟩ := bind_some hr
        obtain ⟨q, rfl, rfl⟩ := ret_some e2
        cases q
        refine region_sim hop hrec hrl hmix (fun o ho => ?_) x hb g hs e1 hf hQ
        unfold okCode at hok
        rw [Array.all_eq_true_iff_forall_mem] at hok
        exact hok o ho
      | seq c1 c2 =>
        unfold okCode at hok
        simp only [Bool.and_eq_true] at hok
        unfold evCode at hr
        obtain ⟨y, h2, n2, L1, L2, e1, e2, _⟩ := bind_some hr
        obtain ⟨e0, s2⟩ := y
        have A := Loc.evCode hrl f c1 s h n _ h2 n2 L1 e1
        apply wp_seq
        cases e0 with
        | normal =>
          have B := Loc.evCode hrl f c2 s2 h2 n2 _ h1 n1 L2 e2
          refine ih f (by omega) c1 hok.1 _ m s s2 a w h h2 n n2 L1 .normal x hb g hs e1 (hf.first B.le) fun m' a' w' hp hs' => ?_
          exact ih f (by omega) c2 hok.2 Q m' s2 s1 a' w' h2 h1 n2 n1 L2 e hp.wr (Below.le hp.below hb) (g.mono hp.le) hs' e2 (hf.after A.le hp) fun m'' a'' w'' hp2 hs2 => hQ m'' a'' w'' (hp.trans A.le B.le hp2) hs2
        | ret =>
          obtain ⟨q, rfl, rfl⟩ := ret_some e2
          cases q
          exact ih f (by omega) c1 hok.1 _ m s _ a w h _ n _ L1 .ret x hb g hs e1 hf fun m' a' w' hp hs' => hQ m' a' w' hp hs'
        | exit id =>
          obtain ⟨q, rfl, rfl⟩ := ret_some e2
          cases q
          exact ih f (by omega) c1 hok.1 _ m s _ a w h _ n _ L1 (.exit id) x hb g hs e1 hf fun m' a' w' hp hs' => hQ m' a' w' hp hs'
      | cond c0 c1 c2 =>
        unfold okCode at hok
        simp only [Bool.and_eq_true] at hok
        unfold evCode at hr
        simp only at hr
        generalize ht : ev s c0 = v0 at hr
        cases v0 with
        | bool t =>
          have hv := ev_at g hs hok.1.1
          rw [ht] at hv
          have hc : a.eval c0 = .bool t := by
            generalize a.eval c0 = u at hv
            cases hv; rfl
          refine wp_cond hc ?_
          refine ih f (by omega) _ ?_ Q m s s1 a w h h1 n n1 L e x hb g hs hr hf hQ
          cases t
          · exact hok.2
          · exact hok.1.2
        | _ => cases hr
      | block id c1 =>
        unfold okCode at hok
        unfold evCode at hr
        obtain ⟨y, h2, n2, L1, L2, e1, e2, _⟩ := bind_some hr
        obtain ⟨e0, s2⟩ := y
        apply wp_block
        cases e0 with
        | normal =>
          obtain ⟨q, rfl, rfl⟩ := ret_some e2
          cases q
          exact ih f (by omega) c1 hok _ m s _ a w h _ n _ L1 .normal x hb g hs e1 hf fun m' a' w' hp hs' => hQ m' a' w' hp hs'
        | ret =>
          obtain ⟨q, rfl, rfl⟩ := ret_some e2
          cases q
          exact ih f (by omega) c1 hok _ m s _ a w h _ n _ L1 .ret x hb g hs e1 hf fun m' a' w' hp hs' => hQ m' a' w' hp hs'
        | exit id' =>
          simp only at e2
          by_cases hid : id' = id
          · rw [if_pos hid] at e2
            obtain ⟨q, rfl, rfl⟩ := ret_some e2
            cases q
            refine ih f (by omega) c1 hok _ m s _ a w h _ n _ L1 (.exit id') x hb g hs e1 hf fun m' a' w' hp hs' => ?_
            show (if id' = id then _ else _)
            rw [if_pos hid]
            exact hQ m' a' w' hp hs'
          · rw [if_neg hid] at e2
            obtain ⟨q, rfl, rfl⟩ := ret_some e2
            cases q
            refine ih f (by omega) c1 hok _ m s _ a w h _ n _ L1 (.exit id') x hb g hs e1 hf fun m' a' w' hp hs' => ?_
            show (if id' = id then _ else _)
            rw [if_neg hid]
            exact hQ m' a' w' hp hs'
      | loop c1 =>
        have hok1 : okCode P c1 = true := by unfold okCode at hok; exact hok
        let J : Act → World → Nat → Prop := fun a' w' k => k ≤ f + 1 ∧ ∃ m' s' h' n' L', n ≤ n' ∧ n' ≤ n1 ∧ Post P m base n n' w h' m' w' ∧ SR m' nt s' a' ∧ evCode P rec nt k (.loop c1) s' h' n' = some ⟨(e, s1), h1, n1, L'⟩
        have hle := (Loc.evCode hrl (f + 1) (.loop c1) s h n _ h1 n1 L hr).le
        refine wp_loop (fun a' w' => ∃ k, J a' w' k) (fun a' w' => least (J a' w')) ⟨f + 1, Nat.le_refl _, m, s, h, n, L, Nat.le_refl _, hle, Post.refl x, hs, hr⟩ ?_
        intro a' w' hI
        obtain ⟨hJ, hmin⟩ := least_spec hI
        generalize hk : least (J a' w') = k at hJ
        obtain ⟨hkf, m', s', h', n', L', hn1, hn2, hp, hs', hr'⟩ := hJ
        cases k with
        | zero => cases hr'
        | succ k =>
          unfold evCode at hr'
          obtain ⟨y, h2, n2, L1, L2, e1, e2, _⟩ := bind_some hr'
          obtain ⟨e0, s2⟩ := y
          have A := Loc.evCode hrl k c1 s' h' n' _ h2 n2 L1 e1
          cases e0 with
          | normal =>
            have B := Loc.evCode hrl k (.loop c1) s2 h2 n2 _ h1 n1 L2 e2
            refine ih k (by omega) c1 hok1 _ m' s' s2 a' w' h' h2 n' n2 L1 .normal hp.wr (Below.le hp.below hb) (g.mono hp.le) hs' e1 (fun b q1 q2 => ?_) fun m'' a'' w'' hp2 hs2 => ?_
            · have := B.le
              rw [hp.out b (by omega)]
              exact hf b (by omega) (by omega)
            · have hJ2 : J a'' w'' k := ⟨by omega, m'', s2, h2, n2, L2, by have := A.le; omega, B.le, hp.trans hn1 A.le hp2, hs2, e2⟩
              exact ⟨⟨k, hJ2⟩, Nat.lt_succ_of_le ((least_spec ⟨k, hJ2⟩).2 k hJ2)⟩
          | ret =>
            obtain ⟨q, rfl, rfl⟩ := ret_some e2
            cases q
            refine ih k (by omega) c1 hok1 _ m' s' _ a' w' h' _ n' _ L1 .ret hp.wr (Below.le hp.below hb) (g.mono hp.le) hs' e1 (fun b q1 q2 => ?_) fun m'' a'' w'' hp2 hs2 => hQ m'' a'' w'' (hp.trans hn1 A.le hp2) hs2
            rw [hp.out b (by omega)]
            exact hf b (by omega) q2
          | exit id =>
            obtain ⟨q, rfl, rfl⟩ := ret_some e2
            cases q
            refine ih k (by omega) c1 hok1 _ m' s' _ a' w' h' _ n' _ L1 (.exit id) hp.wr (Below.le hp.below hb) (g.mono hp.le) hs' e1 (fun b q1 q2 => ?_) fun m'' a'' w'' hp2 hs2 => hQ m'' a'' w'' (hp.trans hn1 A.le hp2) hs2
            rw [hp.out b (by omega)]
            exact hf b (by omega) q2
      | exit id =>
        obtain ⟨q, rfl, rfl⟩ := ret_some hr
        cases q
        exact wp_exit (hQ m a w (Post.refl x) hs)
      | ret =>
        obtain ⟨q, rfl, rfl⟩ := ret_some hr
        cases q
        exact wp_ret (hQ m a w (Post.refl x) hs)
      | rangeFunc _ _ _ _ => cases hr
      | scope _ => cases hr
      | goto _ => cases hr
      | refuse _ => cases hr
end

theorem argS_get : ∀ (l : List Value) (i : Nat) (s : S) (t : Nat), i + l.length < 1023 → (argS i l s).get t = if i ≤ t ∧ t < i + l.length then l.getD (t - i) undef else s.get t := by
  intro l
  induction l with
  | nil => intro i s t _; rw [if_neg (by simp)]; rfl
  | cons v r ih =>
    intro i s t hl
    simp only [List.length_cons] at hl
    unfold argS
    rw [ih (i + 1) _ t (by omega)]
    by_cases h1 : i + 1 ≤ t ∧ t < i + 1 + r.length
    · rw [if_pos h1, if_pos (by simp; omega)]
      rw [show t - i = (t - (i + 1)) + 1 by omega]
      simp
    · rw [if_neg h1, S.get_put _ _ _ _ (by omega)]
      by_cases e : t = i
      · subst e; simp
      · rw [if_neg e, if_neg (by simp; omega)]
theorem S.get_nil (t : Nat) : S.get (.nil : S) t = undef := by unfold S.get; rw [Tr.get_nil]; rfl
theorem args_sr {m : Mp} {args args' : Array Value} {nt : Nat} (h : VRs m args.toList args'.toList) (h1 : args.size ≤ nt) (h2 : nt < 1000) : SR m nt (argS 0 args.toList .nil) { tmps := args' ++ Array.replicate (nt - args'.size) undef, defers := [] } := by
  have hl : args.size = args'.size := by simpa using h.length
  refine ⟨rfl, by simp; omega, fun t => ?_⟩
  rw [argS_get _ _ _ _ (by simp; omega)]
  by_cases ht : t < args.size
  · rw [if_pos (by simp; exact ht)]
    obtain ⟨v', hv', hr⟩ := h.get t (args.toList.getD (t - 0) undef) (by simp [List.getD_eq_getElem?_getD, ht])
    have : (args' ++ Array.replicate (nt - args'.size) undef).getD t undef = v' := by
      have ht' : t < args'.size := by omega
      rw [Array.getD_eq_getD_getElem?, Array.getElem?_append_left ht']
      simp at hv'
      simp [hv']
    show VR m _ ((args' ++ Array.replicate (nt - args'.size) undef).getD t undef)
    rw [this]
    exact hr
  · rw [if_neg (by simp; omega), S.get_nil]
    have : (args' ++ Array.replicate (nt - args'.size) undef).getD t undef = undef := by
      rw [Array.getD_eq_getD_getElem?, Array.getElem?_append_right (by omega), Array.getElem?_replicate]
      split <;> rfl
    show VR m _ ((args' ++ Array.replicate (nt - args'.size) undef).getD t undef)
    rw [this]
    exact VR.undef
end Go.Proofs.YtmjolmggelkjlaaGreat.Ev
/- Single operations, the part without append: what the evaluator finds holds of every run. No program in sight. -/
namespace Go.Proofs.YtmjolmggelkjlaaGreat.Ev
set_option linter.unusedVariables false
set_option linter.unusedSimpArgs false
open Go Go.RowKit

theorem pureRun_run {P : Program} : ∀ (s : Sem Next) (v : Value), pureRun P s = some v → ∀ w, s.run P w = .ok (.value v) w := by
  intro s
  induction s with
  | pure a =>
    intro v h w
    cases a <;> simp [pureRun] at h
    subst h; rfl
  | program k ih =>
    intro v h w
    exact ih P v (by simpa [pureRun] using h) w
  | _ => intro v h; simp [pureRun] at h
def Sound (P : Program) (base : Nat) (m : Mp) (w : World) (h : H) (n : Nat) (s : Sem Value) (r : Value) (h1 : H) (n1 : Nat) : Prop :=
  ∃ m' w' v', s.run P w = .ok v' w' ∧ Post P m base n n1 w h1 m' w' ∧ VR m' r v'
theorem size_info {P : Program} {e : TypeId} {n : Nat} (h : size? P e = some n) : ∃ i, P.info? e = some i ∧ i.size = n := by
  unfold size? at h
  cases hi : P.info? e with
  | none => rw [hi] at h; cases h
  | some i => rw [hi] at h; exact ⟨i, rfl, by simpa using h⟩
theorem zero_both {P : Program} {e : TypeId} {z : Value} (h : zero? P e = some z) : (∃ i, P.info? e = some i ∧ i.zero = some z) ∧ clean z = true := by
  unfold zero? at h
  cases hi : P.info? e with
  | none => rw [hi] at h; cases h
  | some i =>
    rw [hi] at h
    simp only [Option.bind_some] at h
    cases hz : i.zero with
    | none => rw [hz] at h; cases h
    | some u =>
      rw [hz] at h
      simp only at h
      split at h
      · rename_i hc
        cases h
        exact ⟨⟨i, rfl, hz⟩, hc⟩
      · cases h
theorem zero_info {P : Program} {e : TypeId} {z : Value} (h : zero? P e = some z) : ∃ i, P.info? e = some i ∧ i.zero = some z := (zero_both h).1
theorem zero_clean {P : Program} {e : TypeId} {z : Value} (h : zero? P e = some z) : clean z = true := (zero_both h).2
theorem run_sizeOf {P : Program} {e : TypeId} {n : Nat} (h : size? P e = some n) (w : World) : (sizeOf e).run P w = .ok n w := by
  obtain ⟨i, hi, rfl⟩ := size_info h
  simp [sizeOf, typeInfo, program, hi, Sem.run, bind, Sem.bind]
  rfl
theorem run_zeroValue {P : Program} {e : TypeId} {z : Value} (h : zero? P e = some z) (w : World) : (zeroValue e).run P w = .ok z w := by
  obtain ⟨i, hi, hz⟩ := zero_info h
  simp [zeroValue, typeInfo, program, hi, hz, Sem.run]
theorem agg_isAgg {P : Program} {t : TypeId} {b : Bool} (h : agg? P t = some b) (w : World) : (isAgg t).run P w = .ok b w := by
  unfold agg? at h
  cases hd : P.underlying t with
  | none => rw [hd] at h; cases h
  | some d =>
    rw [hd] at h
    unfold isAgg
    rw [Sem.run_bind, run_underlying hd]
    cases d <;> simp at h <;> subst h <;> rfl

section
variable {P : Program} {base : Nat} {m : Mp} {w : World} {h h1 : H} {n n1 : Nat} {r : Value} {L : List En}
theorem sound_alloc {e : TypeId} (x : WR P m base h w.heap) (hb : base ≤ w.heap.size) (hf : Fresh m n n1) (hr : evAlloc P e h n = some ⟨r, h1, n1, L⟩) : Sound P base m w h n (Instr.alloc e true (.tuple #[])) r h1 n1 := by
  unfold evAlloc at hr
  cases hz : zero? P e with
  | none => rw [hz] at hr; cases hr
  | some z =>
    rw [hz] at hr
    obtain ⟨id, h2, n2, L1, L2, e1, e2, _⟩ := bind_some hr
    obtain ⟨rfl, rfl, rfl⟩ := ret_some e2
    obtain ⟨i, hi, _⟩ := zero_info hz
    have hc := (VR.clean (m := m) (zero_clean hz)).cells
    obtain ⟨rfl, rfl, m', hm', hp⟩ := newB_at x e1 hf hb (cs' := z.cells) (by simp) (fun k v hk => by simpa using hc.get k v hk) (esz := i.size) (by simp [size?, hi])
    refine ⟨m', _, .pointer (some ⟨w.heap.size, 0, none⟩), ?_, hp, ?_⟩
    · simp only [Instr.alloc, Sem.run_bind, run_zeroValue hz, Result.andThen, newVar, newRow, newObj]
      rfl
    · exact VR.ptr hm'
theorem sound_box {e : TypeId} {v v' : Value} (hv : VR m v v') (x : WR P m base h w.heap) (hb : base ≤ w.heap.size) (hf : Fresh m n n1) (hr : evBox P e v h n = some ⟨r, h1, n1, L⟩) : Sound P base m w h n (Instr.box e v') r h1 n1 := by
  unfold evBox at hr
  cases hz : size? P e with
  | none => rw [hz] at hr; cases hr
  | some z =>
    rw [hz] at hr
    obtain ⟨id, h2, n2, L1, L2, e1, e2, _⟩ := bind_some hr
    obtain ⟨rfl, rfl, rfl⟩ := ret_some e2
    obtain ⟨rfl, rfl, m', hm', hp⟩ := newB_at x e1 hf hb (cs' := v'.cells) (by simp [hv.cells_size]) (fun k u hk => by simpa using hv.cells.get k u hk) hz
    exact ⟨m', _, .pointer (some ⟨w.heap.size, 0, none⟩), rfl, hp, VR.ptr hm'⟩
theorem setMany {cs cs' : Array Value} {off : Nat} : ∀ {us us' : List Value} (_ : VRs m us us') (i : Nat) {cs cs' : Array Value}, VRs m cs.toList cs'.toList →
    VRs m ((us.zipIdx i).foldl (fun (a : Array Value) (x : Value × Nat) => a.setIfInBounds (off + x.2) x.1) cs).toList ((us'.zipIdx i).foldl (fun (a : Array Value) (x : Value × Nat) => a.setIfInBounds (off + x.2) x.1) cs').toList := by
  intro us us' hu
  induction hu using VRs.rec (motive_1 := fun _ _ _ => True) with
  | nil => intro i cs cs' hc; exact hc
  | cons hv _ _ ih =>
    intro i cs cs' hc
    simp only [List.zipIdx_cons, List.foldl_cons]
    exact ih (i + 1) (by simpa using VRs.set (off + i) hc hv)
  | _ => trivial
theorem fill_at {place : Nat → Option (Nat × Nat)} : ∀ (parts parts' : List (Nat × Value)) (cs cs' out : Array Value), parts.map (·.1) = parts'.map (·.1) → VRs m (parts.map (·.2)) (parts'.map (·.2)) → VRs m cs.toList cs'.toList → Instr.fill place cs parts = some out →
    ∃ out', Instr.fill place cs' parts' = some out' ∧ VRs m out.toList out'.toList ∧ out.size = cs.size := by
  intro parts
  induction parts with
  | nil =>
    intro parts' cs cs' out h1 h2 h3 h4
    cases parts' with
    | nil => simp [Instr.fill] at h4; subst h4; exact ⟨cs', rfl, h3, rfl⟩
    | cons _ _ => simp at h1
  | cons p parts ih =>
    intro parts' cs cs' out h1 h2 h3 h4
    cases parts' with
    | nil => simp at h1
    | cons p' parts' =>
      obtain ⟨i, v⟩ := p
      obtain ⟨i', v'⟩ := p'
      simp at h1
      obtain ⟨rfl, h1⟩ := h1
      simp only [List.map_cons] at h2
      cases h2 with
      | cons hv ht =>
        unfold Instr.fill at h4 ⊢
        cases hp : place i with
        | none => rw [hp] at h4; cases h4
        | some os =>
          obtain ⟨off, sz⟩ := os
          rw [hp] at h4
          simp only at h4 ⊢
          have e1 : v'.cells.size = v.cells.size := hv.cells_size.symm
          have e2 : cs'.size = cs.size := by have := h3.length; simpa using this.symm
          rw [e1, e2]
          split at h4
          · cases h4
          · rename_i hc
            rw [if_neg hc]
            have hs := setMany (m := m) (cs := cs) (cs' := cs') (off := off) hv.cells 0 h3
            have e3 : ∀ (vs : Array Value) (a : Array Value), vs.zipIdx.foldl (fun cs (c, j) => cs.setIfInBounds (off + j) c) a = (vs.toList.zipIdx 0).foldl (fun (a : Array Value) (x : Value × Nat) => a.setIfInBounds (off + x.2) x.1) a := by
              intro vs a
              rw [← Array.foldl_toList, Array.toList_zipIdx]
            have e4 : ∀ (vs : List (Value × Nat)) (a : Array Value), (vs.foldl (fun (a : Array Value) (x : Value × Nat) => a.setIfInBounds (off + x.2) x.1) a).size = a.size := by
              intro vs
              induction vs with
              | nil => intro a; rfl
              | cons y ys ihy => intro a; rw [List.foldl_cons, ihy]; simp
            rw [e3] at h4 ⊢
            obtain ⟨out', a1, a2, a3⟩ := ih parts' _ _ out h1 ht hs h4
            exact ⟨out', a1, a2, by rw [a3, e4]⟩
theorem sound_build {t : TypeId} {parts parts' : List (Nat × Value)} (h1p : parts.map (·.1) = parts'.map (·.1)) (h2p : VRs m (parts.map (·.2)) (parts'.map (·.2))) (x : WR P m base h w.heap)
    (hr : evBuild P t parts h n = some ⟨r, h1, n1, L⟩) : Sound P base m w h n (Instr.build t parts'.toArray) r h1 n1 := by
  unfold evBuild at hr
  cases hz : zero? P t with
  | none => rw [hz] at hr; cases hr
  | some z =>
    rw [hz] at hr
    cases hu : P.underlying t with
    | none => rw [hu] at hr; cases hr
    | some d =>
      rw [hu] at hr
      cases d <;> try (cases hr; done)
      rename_i fs
      simp only at hr
      split at hr
      · rename_i hall
        cases hfl : Instr.fill (placeOf P fs) z.cells parts with
        | none => rw [hfl] at hr; cases hr
        | some cs =>
          rw [hfl] at hr
          obtain ⟨rfl, rfl, rfl⟩ := ret_some hr
          obtain ⟨cs', a1, a2, _⟩ := fill_at parts parts' _ _ cs h1p h2p (VR.clean (m := m) (zero_clean hz)).cells hfl
          refine ⟨m, w, .agg cs', ?_, Post.refl x, .agg a2⟩
          have hplaces : (fs.mapM fun f => do pure (f.offset, ← sizeOf f.type) : Sem (Array (Nat × Nat))).run P w = .ok (fs.map fun f => (f.offset, (size? P f.type).getD 0)) w := by
            rw [Array.mapM_eq_mapM_toList]
            have : ∀ l : List Field, (∀ f ∈ l, (size? P f.type).isSome = true) → (l.mapM (fun f => do pure (f.offset, ← sizeOf f.type)) : Sem (List (Nat × Nat))).run P w = .ok (l.map fun f => (f.offset, (size? P f.type).getD 0)) w := by
              intro l
              induction l with
              | nil => intro _; rfl
              | cons f l ih =>
                intro hl
                obtain ⟨k, hk⟩ := Option.isSome_iff_exists.1 (hl f (by simp))
                rw [List.mapM_cons]
                simp only [bind_assoc, pure_bind, Sem.run_bind, run_sizeOf hk, Result.andThen, ih fun f' hf' => hl f' (by simp [hf'])]
                simp [hk]
            have h3 := this fs.toList fun f hf' => (Array.all_eq_true_iff_forall_mem.1 hall) f (Array.mem_toList_iff.1 hf')
            simp only [map_eq_pure_bind, Sem.run_bind, h3, Result.andThen, Sem.run_pure]
            congr 1
            apply Array.ext'
            simp
          have hpl : ∀ i, (fs.map fun f => (f.offset, (size? P f.type).getD 0))[i]? = placeOf P fs i := by
            intro i
            unfold placeOf
            cases hfi : fs[i]? with
            | none => simp [hfi]
            | some f =>
              obtain ⟨k, hk⟩ := Option.isSome_iff_exists.1 ((Array.all_eq_true_iff_forall_mem.1 hall) f (Array.mem_of_getElem? hfi))
              simp [hfi, hk]
          have hpl2 : (fun i => (fs.map fun f => (f.offset, (size? P f.type).getD 0))[i]?) = placeOf P fs := funext hpl
          unfold Instr.build
          simp only [Sem.run_bind, run_zeroValue hz, run_underlying hu, Result.andThen, hplaces, hpl2, a1]
          rfl
      · cases hr
theorem zeros_at {e : TypeId} {z : Value} (hz : zero? P e = some z) (k : Nat) : VRs m (zeros z k).toList (zeros z k).toList := by
  unfold zeros
  rw [Array.toList_map]
  refine VRs.map _ fun i => ?_
  have hc := (VR.clean (m := m) (zero_clean hz)).cells
  by_cases hi : i % z.cells.size < z.cells.size
  · obtain ⟨v', hv', hr⟩ := hc.get (i % z.cells.size) z.cells[i % z.cells.size] (by simp [hi])
    have : v' = z.cells[i % z.cells.size] := by simpa [hi] using hv'.symm
    rw [this] at hr
    simpa [hi] using hr
  · rw [getElem!_neg z.cells _ hi]
    exact .bool _
theorem sound_buildSlice {t : TypeId} {len : Nat} {parts parts' : List (Nat × Value)} (h1p : parts.map (·.1) = parts'.map (·.1)) (h2p : VRs m (parts.map (·.2)) (parts'.map (·.2))) (x : WR P m base h w.heap) (hb : base ≤ w.heap.size) (hf : Fresh m n n1)
    (hr : evBuildSlice P t len parts h n = some ⟨r, h1, n1, L⟩) : Sound P base m w h n (Instr.buildSlice t len parts'.toArray) r h1 n1 := by
  unfold evBuildSlice at hr
  cases hu : P.underlying t with
  | none => rw [hu] at hr; cases hr
  | some d =>
    rw [hu] at hr
    cases d <;> try (cases hr; done)
    rename_i e
    simp only at hr
    cases hs : size? P e with
    | none => rw [hs] at hr; cases hr
    | some sz =>
      cases hz : zero? P e with
      | none => rw [hs, hz] at hr; cases hr
      | some z =>
        rw [hs, hz] at hr
        simp only at hr
        by_cases hzero : (len = 0 && parts.isEmpty) = true
        · rw [if_pos hzero] at hr
          simp only [Bool.and_eq_true, decide_eq_true_eq, List.isEmpty_iff] at hzero
          obtain ⟨rfl, rfl⟩ := hzero
          obtain ⟨id, h2, n2, L1, L2, e1, e2, _⟩ := bind_some hr
          obtain ⟨rfl, rfl, rfl⟩ := ret_some e2
          have hp0 : parts' = [] := by
            cases parts' with
            | nil => rfl
            | cons p ps => simp at h1p
          subst hp0
          obtain ⟨rfl, rfl, m', hm', hp⟩ := newB_at x e1 hf hb (cs' := #[]) (by simp) (fun k v hk => by simp at hk) hs
          refine ⟨m', _, .slice (some ⟨w.heap.size, 0, none⟩) 0 0, ?_, hp, VR.slc hm' (fun _ => rfl) (fun _ => rfl) (fun hcap => by simp [CAP] at hcap) (Nat.le_refl _) (by simp)⟩
          unfold Instr.buildSlice
          simp only [Sem.run_bind, run_underlying hu, Result.andThen, run_sizeOf hs, Nat.zero_mul, if_true, Sem.run_pure, pure_bind]
          have n0 : ¬ (0 > 2 ^ 24) := by omega
          simp only [if_neg n0, Instr.fill, Array.range_zero', Array.map_empty]
          rfl
        rw [if_neg hzero] at hr
        split at hr
        · rename_i hc
          simp only [Bool.and_eq_true, decide_eq_true_eq] at hc
          cases hfl : Instr.fill (fun i => some (i * sz, sz)) (zeros z (len * sz)) parts with
          | none => rw [hfl] at hr; cases hr
          | some cs =>
            rw [hfl] at hr
            simp only at hr
            obtain ⟨id, h2, n2, L1, L2, e1, e2, _⟩ := bind_some hr
            obtain ⟨rfl, rfl, rfl⟩ := ret_some e2
            obtain ⟨cs', a1, a2, a3⟩ := fill_at parts parts' _ _ cs h1p h2p (zeros_at (m := m) hz (len * sz)) hfl
            have hlen : cs.size = cs'.size := by have := a2.length; simpa using this
            obtain ⟨rfl, rfl, m', hm', hp⟩ := newB_at x e1 hf hb (cs' := cs') (by simp [hlen]) (fun k v hk => by simpa using a2.get k v hk) hs
            have hcs : cs'.size = len * sz := by rw [← hlen, a3]; simp [zeros]
            have hsz1 : 1 ≤ sz := by
              rcases Nat.eq_zero_or_pos sz with h0 | h0
              · subst h0; simp at hc
              · exact h0
            have hl : len ≤ len * sz := Nat.le_mul_of_pos_right _ hsz1
            refine ⟨m', _, .slice (some ⟨w.heap.size, 0, none⟩) len len, ?_, hp, VR.slc hm' (fun _ => rfl) (fun _ => rfl) (fun hcap => by simp [CAP] at hcap; omega) (Nat.le_refl _) (by simp [hcs])⟩
            unfold Instr.buildSlice
            have n0 : ¬ (len * sz > 2 ^ 24) := by omega
            have n1 : ¬ (len * sz = 0) := by omega
            simp only [Sem.run_bind, run_underlying hu, Result.andThen, run_sizeOf hs, if_neg n0, if_neg n1, run_zeroValue hz, Sem.run_pure, pure_bind]
            unfold zeros at a1
            rw [a1]
            rfl
        · cases hr
theorem ptr_at {b off : Nat} {v' : Value} (hv : VR m (.pointer (some ⟨b, off, none⟩)) v') : ∃ d, m b = some d ∧ v' = .pointer (some ⟨d.blk, d.sh + off, none⟩) := by
  cases hv with
  | ptr h => exact ⟨_, h, rfl⟩
theorem sound_load {t : TypeId} {a a' : Value} (ha : VR m a a') (x : WR P m base h w.heap) (hr : evLoad P t a h n = some ⟨r, h1, n1, L⟩) : Sound P base m w h n (Instr.loadAt t a') r h1 n1 := by
  unfold evLoad at hr
  split at hr
  · rename_i b off
    obtain ⟨d, hd, rfl⟩ := ptr_at ha
    cases hg : agg? P t with
    | none => rw [hg] at hr; cases hr
    | some g =>
      rw [hg] at hr
      cases g with
      | false =>
        simp only at hr
        obtain ⟨rfl, rfl, d', v', hd', hc, hv⟩ := rd_at x hr
        rw [hd] at hd'; cases hd'
        refine ⟨m, w, v', ?_, Post.refl x, hv⟩
        simp only [Instr.loadAt, Instr.sureAddr, pure_bind, loadVar, Sem.run_bind, agg_isAgg hg w, Result.andThen, Bool.false_eq_true, if_false]
        show (Sem.load _ _ _).run P w = _
        simp [Sem.run, hc]
      | true =>
        cases hs : size? P t with
        | none => rw [hs] at hr; cases hr
        | some k =>
          rw [hs] at hr
          simp only at hr
          obtain ⟨vs, h2, n2, L1, L2, e1, e2, _⟩ := bind_some hr
          obtain ⟨rfl, rfl, rfl⟩ := ret_some e2
          obtain ⟨rfl, rfl, hl, vs', hvs, hcs⟩ := rdN_at x hd e1
          refine ⟨m, w, .agg vs'.toArray, ?_, Post.refl x, .agg (by simpa using hvs)⟩
          have hlen : vs'.length = k := by rw [← hvs.length, hl]
          have := run_loadCells_of (P := P) hcs
          rw [hlen] at this
          simp only [Instr.loadAt, Instr.sureAddr, pure_bind, loadVar, Sem.run_bind, agg_isAgg hg w, Result.andThen, if_true, run_sizeOf hs, this]
          rfl
  · cases hr
theorem sound_store {t : TypeId} {a a' v v' : Value} (ha : VR m a a') (hv : VR m v v') (x : WR P m base h w.heap) (hr : evStore P t a v h n = some ⟨r, h1, n1, L⟩) : r = undef ∧ ∃ w', (Instr.storeAt t a' v').run P w = .ok () w' ∧ Post P m base n n1 w h1 m w' := by
  unfold evStore at hr
  split at hr
  · rename_i b off
    obtain ⟨d, hd, rfl⟩ := ptr_at ha
    cases hs : size? P t with
    | none => rw [hs] at hr; cases hr
    | some k =>
      rw [hs] at hr
      simp only at hr
      split at hr
      · rename_i hk
        obtain ⟨u, h2, n2, L1, L2, e1, e2, _⟩ := bind_some hr
        obtain ⟨rfl, rfl, rfl⟩ := ret_some e2
        cases u
        obtain ⟨rfl, w', hw', x2, hbl⟩ := wrN_at hd hv.cells (i := 0) (d.sh + off) (by omega) x e1
        refine ⟨rfl, w', ?_, ⟨Le.refl _, fun _ _ => rfl, x2, hbl⟩⟩
        have hk2 : v'.cells.size = k := by rw [← hv.cells_size]; exact hk
        simp only [Instr.storeAt, Instr.sureAddr, pure_bind, storeVar, Sem.run_bind, run_sizeOf hs, Result.andThen, hk2, ne_eq, not_true, if_false]
        exact hw'
      · cases hr
  · cases hr
theorem sound_nilCheck {v v' : Value} (hv : VR m v v') (x : WR P m base h w.heap) (hr : evNilCheck v h n = some ⟨r, h1, n1, L⟩) :
    h1 = h ∧ n1 = n ∧ VR m r v' ∧ ((∃ a, v' = .pointer (some a)) ∨ ∃ f a b, v' = .func (.func f) a b) := by
  unfold evNilCheck at hr
  split at hr
  · obtain ⟨rfl, rfl, rfl⟩ := ret_some hr
    refine ⟨rfl, rfl, hv, .inl ?_⟩
    cases hv with | ptr h => exact ⟨_, rfl⟩
  · obtain ⟨rfl, rfl, rfl⟩ := ret_some hr
    refine ⟨rfl, rfl, hv, .inr ?_⟩
    cases hv with | func fn h1 h2 => exact ⟨_, _, _, rfl⟩
  · cases hr
theorem bytesOf_at : ∀ (vs : List Value) (acc s : ByteArray), bytesOf vs acc = some s → ∃ ns : List Int, vs = ns.map (Value.int .u8) ∧ s = ns.foldl (fun r n => r.push (UInt8.ofNat n.toNat)) acc := by
  intro vs
  induction vs with
  | nil => intro acc s h; simp [bytesOf] at h; exact ⟨[], rfl, h.symm⟩
  | cons v vs ih =>
    intro acc s h
    cases v with
    | int k n =>
      cases k with
      | u8 =>
        obtain ⟨ns, rfl, hs⟩ := ih (acc.push (UInt8.ofNat n.toNat)) s (by simpa [bytesOf] using h)
        exact ⟨n :: ns, rfl, hs⟩
      | _ => simp [bytesOf] at h
    | _ => simp [bytesOf] at h
theorem VRs.ints {k : IntKind} : ∀ {ns : List Int} {vs' : List Value}, VRs m (ns.map (Value.int k)) vs' → vs' = ns.map (Value.int k)
  | [], _, .nil => rfl
  | _ :: _, _, .cons (.int _ _) t => by rw [VRs.ints t]; rfl
theorem sound_toStr {v v' : Value} (hv : VR m v v') (x : WR P m base h w.heap) (hr : evToStr v h n = some ⟨r, h1, n1, L⟩) : ∃ a l c, v' = .slice a l c ∧ Sound P base m w h n (Conv.bytesToString v') r h1 n1 := by
  unfold evToStr at hr
  split at hr
  · obtain ⟨rfl, rfl, rfl⟩ := ret_some hr
    cases hv
    exact ⟨_, _, _, rfl, m, w, .string .empty, by simp [Conv.bytesToString], Post.refl x, .string _⟩
  · rename_i b off len cap
    obtain ⟨vs, h2, n2, L1, L2, e1, e2, _⟩ := bind_some hr
    cases hbs : bytesOf vs .empty with
    | none => rw [hbs] at e2; cases e2
    | some s =>
      rw [hbs] at e2
      obtain ⟨rfl, rfl, rfl⟩ := ret_some e2
      cases hv with
      | @slc _ _ _ _ cap' o' d hd ho c1 c2 c3 c4 =>
        obtain ⟨rfl, rfl, hl, vs', hvs, hcs⟩ := rdN_at x hd e1
        obtain ⟨ns, rfl, hs⟩ := bytesOf_at _ _ _ hbs
        have hv2 := VRs.ints hvs
        subst hv2
        refine ⟨_, _, _, rfl, m, w, .string s, ?_, Post.refl x, .string _⟩
        rw [hs]
        apply run_bytesToString
        have hlen : (ns.map (Value.int .u8)).length = len := hl
        have := run_loadCells_of (P := P) hcs
        rw [hlen] at this
        by_cases h0 : 0 < len
        · rw [ho (.inl h0)]; exact this
        · have h00 : len = 0 := by omega
          subst h00
          have : ns = [] := by simpa using hlen
          subst this
          rfl
  · cases hr
theorem sound_toBytes {e : TypeId} {s : ByteArray} (hs1 : size? P e = some 1) (x : WR P m base h w.heap) (hb : base ≤ w.heap.size) (hf : Fresh m n n1) (hr : evToBytes e s h n = some ⟨r, h1, n1, L⟩) : Sound P base m w h n (Conv.stringToBytes e s) r h1 n1 := by
  unfold evToBytes at hr
  split at hr
  · rename_i hle
    obtain ⟨id, h2, n2, L1, L2, e1, e2, _⟩ := bind_some hr
    obtain ⟨rfl, rfl, rfl⟩ := ret_some e2
    obtain ⟨cap, hcap⟩ : ∃ cap, grownCap w s.size 0 e = cap := ⟨_, rfl⟩
    have hge : s.size ≤ cap := by rw [← hcap]; unfold grownCap Question.cut; exact Nat.le_add_right _ _
    obtain ⟨cs', hcs'⟩ : ∃ cs' : Array Value, (s.data.map fun b => Value.int .u8 b.toNat) ++ Array.replicate (cap - s.size) (.int .u8 0) = cs' := ⟨_, rfl⟩
    have hsz : cs'.size = cap := by rw [← hcs']; simp; have : s.data.size = s.size := rfl; omega
    obtain ⟨rfl, rfl, m', hm', hp⟩ := newB_at (w := w.drew) (P := P) (m := m) (base := base) x e1 hf hb (cs' := cs') (by rw [hsz]; simp; exact hge) (fun k v hk => by
      refine ⟨v, ?_, ?_⟩
      · rw [← hcs']
        have hk2 : k < s.data.size := by
          rcases Nat.lt_or_ge k s.data.size with q | q
          · exact q
          · rw [List.getElem?_eq_none (by simpa using q)] at hk; cases hk
        rw [Array.getElem?_append_left (by simpa using hk2)]
        simpa using hk
      · have : v ∈ (s.data.map fun b => Value.int .u8 b.toNat).toList := List.mem_of_getElem? hk
        simp at this
        obtain ⟨b, _, rfl⟩ := this
        exact .int _ _) hs1
    have hheap : ((w.drew.alloc (.cells cs' e)).freeze ⟨w.heap.size, cap, none⟩ 1).heap = (w.drew.alloc (.cells cs' e)).heap.modify w.heap.size (fun _ => .cells cs' e (cap, cap + 1)) := by
      unfold World.freeze
      simp only [Nat.one_ne_zero, if_false]
      apply Array.ext_getElem?
      intro i
      rw [Array.getElem?_modify, Array.getElem?_modify]
      by_cases hi : w.heap.size = i
      · subst hi
        have : (w.drew.alloc (.cells cs' e)).heap[w.heap.size]? = some (.cells cs' e (0, 0)) := heap_alloc_new w.drew _
        rw [if_pos rfl, if_pos rfl, this]
        simp
      · simp [hi]
    refine ⟨m', (w.drew.alloc (.cells cs' e)).freeze ⟨w.heap.size, cap, none⟩ 1, .slice (some ⟨w.heap.size, 0, none⟩) s.size cap, ?_, ⟨hp.le, hp.out, ?_, ?_⟩, ?_⟩
    · have hshape : (w.drew.alloc (.cells cs' e)).shape? w.heap.size = some (e, cap) := by
        unfold World.shape?
        rw [show (w.drew.alloc (.cells cs' e)).heap[w.heap.size]? = some (.cells cs' e (0, 0)) from heap_alloc_new w.drew _]
        simp [hsz]
      unfold Conv.stringToBytes
      simp only [choose, bind, Sem.bind, pure]
      show (Sem.choose _ _).run P w = _
      simp only [Sem.run, Question.forced, Bool.false_eq_true, if_false]
      have hc2 : Question.cut (.appendCap s.size 0 e) (w.tape w.drawn (.appendCap s.size 0 e)) = cap := hcap
      rw [hc2, hcs']
      simp only [newRow, newObj, bind, Sem.bind, pure, Sem.run, markStringish, shape]
      have hpush : ({ heap := w.heap.push (.cells cs' e), tape := w.tape, drawn := w.drawn + 1, os := w.os, output := w.output } : World) = w.drew.alloc (.cells cs' e) := rfl
      rw [hpush, hshape]
      rfl
    · have hwr := hp.wr
      constructor
      · intro b B hB
        obtain ⟨⟨dblk, dsh, dtot, desz, del⟩, cs, lo, hi, a1, a2, a3, a4, a7, a5, a6⟩ := hwr.live b B hB
        simp only at a2 a3 a4 a7 a5 a6
        rw [hheap]
        by_cases hbk : dblk = w.heap.size
        · have : (w.drew.alloc (.cells cs' e)).heap[w.heap.size]? = some (.cells cs' e (0, 0)) := heap_alloc_new w.drew _
          rw [hbk, this] at a2
          cases a2
          refine ⟨_, cs', cap, cap + 1, a1, ?_, a3, a4, a7, fun ho => ⟨(a5 ho).1, (a5 ho).2.1, fun k hk => by simp only at hk; omega⟩, a6⟩
          rw [hbk, Array.getElem?_modify, if_pos rfl, this]
          rfl
        · exact ⟨_, cs, lo, hi, a1, by rw [getElem?_modify_ne _ _ (Ne.symm hbk)]; exact a2, a3, a4, a7, a5, a6⟩
      · exact hwr.inj
    · have h1 := hp.below
      have h0 : Below base w w.drew := Below.drew (Below.refl _ _)
      have h2 : Below base (w.drew.alloc (.cells cs' e)) ((w.drew.alloc (.cells cs' e)).freeze ⟨w.heap.size, cap, none⟩ 1) := by
        refine ⟨?_, ?_, ?_, ?_, fun k hk => ?_⟩
        · unfold World.freeze; simp
        · unfold World.freeze; simp
        · unfold World.freeze; simp
        · rw [hheap]; simp
        · rw [hheap, getElem?_modify_ne _ _ (by omega)]
      exact (h0.trans h1).trans h2
    · exact VR.slc hm' (fun _ => rfl) (fun q => by simp [CAP] at q; omega) (fun _ => ⟨Nat.le_refl _, by omega⟩) hge (by simp [hsz])
  · cases hr
theorem sound_makeSlice {t : TypeId} {l c l' c' : Value} (hl : VR m l l') (hc : VR m c c') (x : WR P m base h w.heap) (hb : base ≤ w.heap.size) (hf : Fresh m n n1) (hr : evMakeSlice P t l c h n = some ⟨r, h1, n1, L⟩) : Sound P base m w h n (Instr.makeSlice t l' c') r h1 n1 := by
  unfold evMakeSlice at hr
  cases hu : P.underlying t with
  | none => rw [hu] at hr; cases hr
  | some d =>
    rw [hu] at hr
    cases d <;> try (cases hr; done)
    rename_i e
    cases hl <;> try (cases hr; done)
    rename_i kl l
    cases hc <;> try (cases hr; done)
    rename_i kc c
    simp only at hr
    cases hi : P.info? e with
    | none => rw [hi] at hr; cases hr
    | some ie =>
      cases hz : zero? P e with
      | none => rw [hi, hz] at hr; cases hr
      | some z =>
        rw [hi, hz] at hr
        simp only at hr
        split at hr
        · rename_i hcond
          simp only [Bool.and_eq_true, decide_eq_true_eq] at hcond
          obtain ⟨⟨⟨⟨⟨c1, c2⟩, c3⟩, c4⟩, c5⟩, c6⟩ := hcond
          obtain ⟨id, h2, n2, L1, L2, e1, e2, _⟩ := bind_some hr
          obtain ⟨rfl, rfl, rfl⟩ := ret_some e2
          obtain ⟨i2, hi2, hz2⟩ := zero_info hz
          rw [hi] at hi2; cases hi2
          have hzs := zeros_at (m := m) hz (c.toNat * ie.size)
          obtain ⟨rfl, rfl, m', hm', hp⟩ := newB_at x e1 hf hb (cs' := zeros z (c.toNat * ie.size)) (by simp) (fun k v hk => by simpa using hzs.get k v hk) (esz := ie.size) (by simp [size?, hi])
          refine ⟨m', _, .slice (some ⟨w.heap.size, 0, none⟩) l.toNat c.toNat, ?_, hp, VR.slc hm' (fun _ => rfl) (fun _ => rfl) (fun q => by simp [CAP] at q; omega) (by omega) (by simp [zeros])⟩
          have hbytes : (ie.bytes : Int) * c ≤ 281474976710656 := by
            have h1 : (ie.bytes : Int) * c ≤ 64 * c := Int.mul_le_mul_of_nonneg_right (by omega) (by omega)
            omega
          exact run_make w t e ie z hu hi hz2 kl kc l c c1 c2 hbytes (by omega)
        · cases hr

end
end Go.Proofs.YtmjolmggelkjlaaGreat.Ev
/- Single operations, append and the rest: what the evaluator finds holds of every run. No program in sight. -/
namespace Go.Proofs.YtmjolmggelkjlaaGreat.Ev
set_option linter.unusedVariables false
set_option linter.unusedSimpArgs false
open Go Go.RowKit

section
variable {P : Program} {base : Nat} {m : Mp} {w : World} {h h1 : H} {n n1 : Nat} {r : Value} {L : List En}
theorem part_at {t : TypeId} {cs cs' : Array Value} (hc : VRs m cs.toList cs'.toList) {off : Nat} (hr : partOf P t cs off = some r) (w : World) : ∃ v', (part t cs' off).run P w = .ok v' w ∧ VR m r v' := by
  unfold partOf at hr
  cases hg : agg? P t with
  | none => rw [hg] at hr; cases hr
  | some g =>
    rw [hg] at hr
    cases g with
    | true =>
      cases hs : size? P t with
      | none => rw [hs] at hr; cases hr
      | some k =>
        rw [hs] at hr
        simp only [Option.some.injEq] at hr
        subst hr
        refine ⟨.agg (cs'.extract off (off + k)), ?_, .agg ?_⟩
        · unfold part
          simp only [Sem.run_bind, agg_isAgg hg w, Result.andThen, if_true, run_sizeOf hs]
          rfl
        · have hl : cs.size = cs'.size := by simpa using hc.length
          refine VRs.of_get (by simp [hl]) fun j v hj => ?_
          simp only [Array.toList_extract, List.extract_eq_take_drop, List.getElem?_take, List.getElem?_drop] at hj ⊢
          split at hj
          · rename_i hlt
            rw [if_pos hlt]
            exact hc.get _ v hj
          · cases hj
    | false =>
      simp only at hr
      obtain ⟨v', hv', hr'⟩ := hc.get off r (by simpa using hr)
      refine ⟨v', ?_, hr'⟩
      unfold part
      have : cs'[off]? = some v' := by simpa using hv'
      simp only [Sem.run_bind, agg_isAgg hg w, Result.andThen, Bool.false_eq_true, if_false, this]
      rfl
theorem field_at {t : TypeId} {v v' : Value} {f : Nat} (hv : VR m v v') (hr : evField P t v f = some r) (w : World) : ∃ u, (Instr.field t v' f).run P w = .ok u w ∧ VR m r u := by
  unfold evField at hr
  cases hu : P.underlying t with
  | none => rw [hu] at hr; cases hr
  | some d =>
    rw [hu] at hr
    cases d <;> try (cases hr; done)
    rename_i fs
    cases hv <;> try (cases hr; done)
    rename_i cs cs' hc
    simp only at hr
    cases hf : fs[f]? with
    | none => rw [hf] at hr; cases hr
    | some fd =>
      rw [hf] at hr
      obtain ⟨u, hu2, hru⟩ := part_at hc hr w
      refine ⟨u, ?_, hru⟩
      unfold Instr.field
      simp only [Sem.run_bind, run_underlying hu, Result.andThen, hf, asAgg, Sem.run_pure]
      exact hu2
theorem fieldAddr_at {t : TypeId} {v v' : Value} {f : Nat} (hv : VR m v v') (hr : evFieldAddr P t v f = some r) (w : World) : ∃ u, (Instr.fieldAt t v' f).run P w = .ok u w ∧ VR m r u := by
  unfold evFieldAddr at hr
  cases hu : P.underlying t with
  | none => rw [hu] at hr; cases hr
  | some d =>
    rw [hu] at hr
    cases d <;> try (cases hr; done)
    rename_i fs
    cases hv <;> try (cases hr; done)
    rename_i b off d hd
    simp only at hr
    cases hf : fs[f]? with
    | none => rw [hf] at hr; cases hr
    | some fd =>
      rw [hf] at hr
      simp only at hr
      cases hs : size? P fd.type with
      | none => rw [hs] at hr; cases hr
      | some k =>
        rw [hs] at hr
        simp only at hr
        split at hr
        · cases hr
        · rename_i hk
          cases hr
          refine ⟨.pointer (some ⟨d.blk, d.sh + (off + fd.offset), none⟩), ?_, VR.ptr hd⟩
          unfold Instr.fieldAt
          simp only [Sem.run_bind, run_underlying hu, Result.andThen, hf, Instr.sureAddr, Sem.run_pure, fieldPlace, run_sizeOf hs, if_neg hk, add0]
          rw [Nat.add_assoc]
theorem indexAddr_at {t : TypeId} {v v' i i' : Value} (hv : VR m v v') (hi : VR m i i') (hr : evIndexAddr P t v i = some r) (w : World) : ∃ u, (Instr.indexAt t v' i').run P w = .ok u w ∧ VR m r u := by
  unfold evIndexAddr at hr
  cases hu : P.underlying t with
  | none => rw [hu] at hr; cases hr
  | some d =>
    rw [hu] at hr
    cases d <;> try (cases hr; done)
    case slice e =>
      cases hv <;> try (cases hr; done)
      rename_i b off len cap cap' o' d hd ho c1 c2 c3 c4
      cases hi <;> try (cases hr; done)
      rename_i k j
      simp only at hr
      cases hs : size? P e with
      | none => rw [hs] at hr; cases hr
      | some sz =>
        rw [hs] at hr
        simp only at hr
        split at hr
        · rename_i hj
          cases hr
          refine ⟨.pointer (some ⟨d.blk, d.sh + (off + j.toNat * sz), none⟩), ?_, VR.ptr hd⟩
          unfold Instr.indexAt
          simp only [asIntOf, pure_bind, Sem.run_bind, run_underlying hu, Result.andThen, Sem.run_pure, if_pos hj, run_sizeOf hs, add0, ho (.inl (by omega))]
          rw [Nat.add_assoc]
        · cases hr
    case array len e =>
      cases hv <;> try (cases hr; done)
      rename_i b off d hd
      cases hi <;> try (cases hr; done)
      rename_i k j
      simp only at hr
      cases hs : size? P e with
      | none => rw [hs] at hr; cases hr
      | some sz =>
        rw [hs] at hr
        simp only at hr
        split at hr
        · rename_i hj
          cases hr
          refine ⟨.pointer (some ⟨d.blk, d.sh + (off + j.toNat * sz), none⟩), ?_, VR.ptr hd⟩
          unfold Instr.indexAt
          simp only [asIntOf, pure_bind, Sem.run_bind, run_underlying hu, Result.andThen, Sem.run_pure, Instr.sureAddr, if_pos hj, run_sizeOf hs, add0]
          rw [Nat.add_assoc]
        · cases hr
theorem index_at {t : TypeId} {v v' i i' : Value} (hv : VR m v v') (hi : VR m i i') (hr : evIndex P t v i = some r) (w : World) : ∃ u, (Instr.index t v' i').run P w = .ok u w ∧ VR m r u := by
  unfold evIndex at hr
  cases hu : P.underlying t with
  | none => rw [hu] at hr; cases hr
  | some d =>
    rw [hu] at hr
    cases d <;> try (cases hr; done)
    rename_i len e
    cases hv <;> try (cases hr; done)
    rename_i cs cs' hc
    cases hi <;> try (cases hr; done)
    rename_i k j
    simp only at hr
    cases hs : size? P e with
    | none => rw [hs] at hr; cases hr
    | some sz =>
      rw [hs] at hr
      simp only at hr
      split at hr
      · rename_i hj
        obtain ⟨u, hu2, hru⟩ := part_at hc hr w
        refine ⟨u, ?_, hru⟩
        unfold Instr.index
        simp only [asIntOf, pure_bind, Sem.run_bind, run_underlying hu, Result.andThen, if_pos hj, run_sizeOf hs]
        exact hu2
      · cases hr
theorem extract_at {v v' : Value} {i : Nat} (hv : VR m v v') (hr : evExtract v i = some r) (w : World) : ∃ u, (Instr.extract v' i).run P w = .ok u w ∧ VR m r u := by
  unfold evExtract at hr
  cases hv <;> try (cases hr; done)
  rename_i cs cs' hc
  simp only at hr
  obtain ⟨u, hu, hru⟩ := hc.get i r (by simpa using hr)
  have : cs'[i]? = some u := by simpa using hu
  exact ⟨u, by simp [Instr.extract, this], hru⟩
/-- an optional bound -/
def OptR (m : Mp) (a b : Option Value) : Prop := match a, b with
  | none, none => True
  | some x, some y => VR m x y
  | _, _ => False
theorem bound_some {a b : Option Value} {d k : Nat} (ha : OptR m a b) (hr : boundOf a d = some k) : (a = none ∧ b = none ∧ k = d) ∨ ∃ kd i, a = some (.int kd i) ∧ b = some (.int kd i) ∧ 0 ≤ i ∧ k = i.toNat := by
  unfold boundOf at hr
  cases a with
  | none =>
    cases b with
    | none => left; exact ⟨rfl, rfl, by simpa using hr.symm⟩
    | some y => cases ha
  | some x =>
    cases b with
    | none => cases ha
    | some y =>
      have ha : VR m x y := ha
      cases ha <;> simp at hr
      rename_i kd i
      exact .inr ⟨kd, i, rfl, rfl, hr.1, hr.2.symm⟩
theorem run_bound {k : IntKind} {i : Int} {y : Nat} {code : BoundsCode} (h0 : 0 ≤ i) (h1 : i.toNat ≤ y) (w : World) : (Instr.sliceBound (.int k i) y code).run P w = .ok i.toNat w := by
  have : 0 ≤ i ∧ i ≤ (y : Int) := ⟨h0, by omega⟩
  simp [Instr.sliceBound, asIntOf, this]
theorem slice_at {t : TypeId} {v v' : Value} (hsz : ∀ b off l c e, v = .slice (some ⟨b, off, none⟩) l c → P.underlying t = some (.slice e) → ∃ d, m b = some d ∧ size? P e = some d.esz) {lo hi mx lo' hi' mx' : Option Value} (hv : VR m v v') (hl : OptR m lo lo') (hh : OptR m hi hi') (hm : OptR m mx mx') (hr : evSlice P t v lo hi mx = some r) (w : World) :
    ∃ u, (Instr.sliceAt t v' lo' hi' mx').run P w = .ok u w ∧ VR m r u := by
  unfold evSlice at hr
  cases hu : P.underlying t with
  | none => rw [hu] at hr; cases hr
  | some dd =>
    rw [hu] at hr
    cases dd <;> try (cases hr; done)
    rename_i e
    -- the concrete bounds
    have core : ∀ (a : Option Addr) (len cap cap' : Nat), (∀ sz mm hh' ll, size? P e = some sz → boundOf mx cap = some mm → boundOf hi len = some hh' → boundOf lo 0 = some ll → (mx.isSome && !hi.isSome) = false →
        (ll ≤ hh' ∧ hh' ≤ mm ∧ mm ≤ cap ∧ (cap < CAP ∨ (mx = none ∧ hh' ≤ len))) → (cap < CAP → cap' = cap) → len ≤ cap' →
        (Instr.sliceAt t (.slice a len cap') lo' hi' mx').run P w = .ok (.slice (if (if mx = none then cap' else mm) = ll then a else a.map (·.add (ll * sz))) (hh' - ll) ((if mx = none then cap' else mm) - ll)) w) := by
      intro a len cap cap' sz mm hh' ll hs hbm hbh hbl hmx hc hcap hlen
      obtain ⟨c1, c2, c3, c4⟩ := hc
      have hcap2 : hh' ≤ cap' := by
        rcases c4 with q | ⟨_, q⟩
        · rw [hcap q]; omega
        · omega
      have hbounds : (Instr.sliceBounds true len cap' lo' hi' mx').run P w = .ok (ll, hh', if mx = none then cap' else mm) w := by
        unfold Instr.sliceBounds
        rcases bound_some hm hbm with ⟨rfl, rfl, rfl⟩ | ⟨km, im, rfl, rfl, pm, rfl⟩
        · rcases bound_some hh hbh with ⟨rfl, rfl, rfl⟩ | ⟨kh, ih, rfl, rfl, ph, rfl⟩
          · rcases bound_some hl hbl with ⟨rfl, rfl, rfl⟩ | ⟨kl, il, rfl, rfl, pl, rfl⟩
            · simp
            · simp [run_bound pl c1 w]
          · rcases bound_some hl hbl with ⟨rfl, rfl, rfl⟩ | ⟨kl, il, rfl, rfl, pl, rfl⟩
            · simp [run_bound ph hcap2 w]
            · simp [run_bound ph hcap2 w, run_bound pl c1 w]
        · rcases bound_some hh hbh with ⟨rfl, rfl, rfl⟩ | ⟨kh, ih, rfl, rfl, ph, rfl⟩
          · simp at hmx
          · have q : cap < CAP := by
              rcases c4 with q | ⟨q, _⟩
              · exact q
              · cases q
            have e : im.toNat ≤ cap' := by rw [hcap q]; exact c3
            rcases bound_some hl hbl with ⟨rfl, rfl, rfl⟩ | ⟨kl, il, rfl, rfl, pl, rfl⟩
            · simp [run_bound pm e w, run_bound ph c2 w]
            · simp [run_bound pm e w, run_bound ph c2 w, run_bound pl c1 w]
      unfold Instr.sliceAt
      simp only [Sem.run_bind, run_underlying hu, Result.andThen]
      unfold Instr.slice
      simp only [Sem.run_bind, run_underlying hu, Result.andThen, hbounds, run_sizeOf hs, Sem.run_pure]
    cases hv <;> try (cases hr; done)
    case snil len cap hcap =>
      simp only at hr
      cases hs : size? P e with
      | none => rw [hs] at hr; cases hr
      | some sz =>
        cases hbm : boundOf mx cap with
        | none => rw [hs, hbm] at hr; cases hr
        | some mm =>
          cases hbh : boundOf hi len with
          | none => rw [hs, hbm, hbh] at hr; cases hr
          | some hh' =>
            cases hbl : boundOf lo 0 with
            | none => rw [hs, hbm, hbh, hbl] at hr; cases hr
            | some ll =>
              rw [hs, hbm, hbh, hbl] at hr
              simp only at hr
              split at hr
              · cases hr
              · rename_i hmx
                split at hr
                · rename_i hc
                  cases hr
                  simp only [Bool.and_eq_true, Bool.or_eq_true, decide_eq_true_eq, Option.isNone_iff_eq_none] at hc
                  have hmm : (if mx = none then cap else mm) = mm := by
                    split
                    · rename_i q; subst q; simpa [boundOf] using hbm
                    · rfl
                  refine ⟨_, core none len cap cap sz mm hh' ll hs hbm hbh hbl (Bool.eq_false_iff.2 hmx) ⟨hc.1.1.1, hc.1.1.2, hc.1.2, hc.2⟩ (fun _ => rfl) hcap.1, ?_⟩
                  rw [hmm]
                  have : (if mm = ll then (none : Option Addr) else Option.map (fun (q : Addr) => q.add (ll * sz)) none) = none := by split <;> rfl
                  rw [this]
                  exact .snil _ _ (by omega)
                · cases hr
    case semp b off s a' =>
      exfalso
      simp only at hr
      repeat' (first | (cases hr; done) | split at hr)
    case slc b off len cap cap' o' d hd ho c1 c2 c3 c4 =>
      simp only at hr
      cases hs : size? P e with
      | none => rw [hs] at hr; cases hr
      | some sz =>
        cases hbm : boundOf mx cap with
        | none => rw [hs, hbm] at hr; cases hr
        | some mm =>
          cases hbh : boundOf hi len with
          | none => rw [hs, hbm, hbh] at hr; cases hr
          | some hh' =>
            cases hbl : boundOf lo 0 with
            | none => rw [hs, hbm, hbh, hbl] at hr; cases hr
            | some ll =>
              rw [hs, hbm, hbh, hbl] at hr
              simp only at hr
              split at hr
              · cases hr
              · rename_i hmx
                split at hr
                · rename_i hc
                  cases hr
                  simp only [Bool.and_eq_true, Bool.or_eq_true, decide_eq_true_eq, Option.isNone_iff_eq_none] at hc
                  refine ⟨_, core _ len cap cap' sz mm hh' ll hs hbm hbh hbl (Bool.eq_false_iff.2 hmx) ⟨hc.1.1.1, hc.1.1.2, hc.1.2, hc.2⟩ c1 c3, ?_⟩
                  obtain ⟨d2, hd2, hes⟩ := hsz b off len cap e rfl hu
                  rw [hd] at hd2; cases hd2
                  rw [hs] at hes
                  have hes : sz = d.esz := by simpa using hes
                  subst hes
                  obtain ⟨⟨⟨k1, k2⟩, k3⟩, k4⟩ := hc
                  by_cases hcap : cap < CAP
                  · have hcc := c1 hcap
                    subst hcc
                    have hoo := ho (.inr hcap)
                    subst hoo
                    have hmm : (if mx = none then cap' else mm) = mm := by
                      split
                      · rename_i q; subst q; simpa [boundOf] using hbm
                      · rfl
                    rw [hmm]
                    have hmul : ll * d.esz + (mm - ll) * d.esz = mm * d.esz := by rw [← Nat.add_mul]; congr 1; omega
                    have hle : mm * d.esz ≤ cap' * d.esz := Nat.mul_le_mul_right _ k3
                    by_cases hml : mm = ll
                    · rw [if_pos hml, if_pos hml]
                      exact VR.slc hd (fun _ => rfl) (fun _ => rfl) (fun q => by omega) (by omega) (by omega)
                    · rw [if_neg hml, if_neg hml]
                      simp only [Option.map_some, add0]
                      exact VR.slc hd (fun _ => by omega) (fun _ => rfl) (fun q => by omega) (by omega) (by omega)
                  · have hcap2 : CAP ≤ cap := by omega
                    obtain ⟨q1, q2⟩ := c2 hcap2
                    rcases k4 with k4 | ⟨k4, k5⟩
                    · omega
                    · subst k4
                      have hmm : mm = cap := by simpa [boundOf] using hbm.symm
                      subst hmm
                      simp only [if_true]
                      have hcp : ll ≤ cap' := by omega
                      have hmul : ll * d.esz + (cap' - ll) * d.esz = cap' * d.esz := by rw [← Nat.add_mul]; congr 1; omega
                      have hml : ¬ mm = ll := by unfold CAP at *; omega
                      rw [if_neg hml]
                      by_cases hcl : cap' = ll
                      · rw [if_pos hcl]
                        exact VR.slc hd (fun q => by omega) (fun q => by omega) (fun q => by omega) (by omega) (by omega)
                      · rw [if_neg hcl]
                        simp only [Option.map_some, add0]
                        exact VR.slc hd (fun q => by have := ho (.inl (by omega)); omega) (fun q => by omega) (fun q => by omega) (by omega) (by omega)
                · cases hr
end
end Go.Proofs.YtmjolmggelkjlaaGreat.Ev

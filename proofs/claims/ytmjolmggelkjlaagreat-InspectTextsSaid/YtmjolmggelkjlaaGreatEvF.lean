/- Code and calls: what the evaluator finds holds of every run. No program in sight. -/
import Derived.Test.YtmjolmggelkjlaaGreatEvE
import Derived.Laws.Sem
namespace Go.Proofs.YtmjolmggelkjlaaGreat.Ev
set_option linter.unusedVariables false
set_option linter.unusedSimpArgs false
open Go Go.RowKit

theorem exists_least {p : Nat → Prop} (h : ∃ n, p n) : ∃ n, p n ∧ ∀ k, p k → n ≤ k := by
  obtain ⟨n, hn⟩ := h
  induction n using Nat.strongRecOn with
  | _ n ih =>
    by_cases hx : ∃ k, k < n ∧ p k
    · obtain ⟨k, hk, hp⟩ := hx
      exact ih k hk hp
    · exact ⟨n, hn, fun k hk => by
        rcases Nat.lt_or_ge k n with h | h
        · exact absurd ⟨k, h, hk⟩ hx
        · exact h⟩
noncomputable def least (p : Nat → Prop) : Nat := open Classical in if h : ∃ n, p n then Classical.choose (exists_least h) else 0
theorem least_spec {p : Nat → Prop} (h : ∃ n, p n) : p (least p) ∧ ∀ k, p k → least p ≤ k := by
  unfold least
  rw [dif_pos h]
  exact Classical.choose_spec (exists_least h)

def cv : Ex → Exit
  | .normal => .normal
  | .ret => .ret
  | .exit id => .exit id

section
variable {P : Program} {base : Nat} {rec : FuncId → Array Value → M Value} {nt : Nat}
theorem region_sim (hop : OpSim P base) (hrec : CallSim P base rec) (hrl : ∀ f a, Loc (rec f a)) (hmix : P.follows .mixedOrders = true) {id : Nat} {ops : Array Oper} {draw : Bool} (hok : ∀ o ∈ ops, okOper P o = true)
    {Q : Exit → Act → World → Prop} {m : Mp} {s s1 : S} {a : Act} {w : World} {h h1 : H} {n n1 : Nat} {L : List En} (x : WR P m base h w.heap) (hb : base ≤ w.heap.size) (g : Gl P m) (hs : SR m nt s a)
    (hr : evRegion P rec nt ops draw s h n = some ⟨s1, h1, n1, L⟩) (hf : Fresh m n n1) (hQ : ∀ m' a' w', Post P m base n n1 w h1 m' w' → SR m' nt s1 a' → Q .normal a' w') : (Code.region id ops draw).wp P Q a w := by
  unfold evRegion at hr
  obtain ⟨y, h2, n2, L1, L2, e1, e2, _⟩ := bind_some hr
  obtain ⟨sf, hf', nf, vf, Lf, C, a1, a2, a3, a4, a5, a6, a7, a8⟩ := evOpers_chain _ _ _ _ _ _ _ _ e1
  have hlen : ops.toList.length = ops.size := by simp
  rw [hlen] at a4 a5 a6 a7 a8
  have hmono : ∀ i, i < ops.size → nf i ≤ nf (i + 1) := fun i hi =>
    (Loc.inside (Loc.evVal hrl ops ops[i] (sf i)) _ _ _ _ _ _ (C.step i ops[i] (by simp [hi]))).le
  split at e2
  · rename_i hcond
    obtain ⟨rfl, rfl, rfl⟩ := ret_some e2
    subst a1 a2 a3 a5 a6
    rw [← a4] at hQ
    cases draw with
    | false =>
      apply wp_region
      rw [List.range_eq_range']
      exact chain_sim hop hrec hrl hok C hf hmono hb g (fun _ _ => True) hQ ops.size 0 (by omega) m a w (Post.refl x) hs
    | true =>
      simp only [Bool.not_true, Bool.false_or, Bool.and_eq_true] at hcond
      obtain ⟨hedge, hpairs⟩ := hcond
      apply wp_region_any hmix
      have hgood := befores_good ops ops.toList [] (fun i o ho => by simpa using ho) (fun k hk => by simp at hk)
      refine any_sim hop hrec hrl hok C (fun k o ho e he hb' => ?_) hgood.1 (by simpa using hgood.2) (fun j k hjk hk => ?_) hf hmono (w0 := { w with drawn := w.drawn + 1 }) hb g (fun m' a' w' hp hs' => hQ m' a' w' ⟨hp.le, hp.out, hp.wr, (Below.drew (Below.refl base w)).trans hp.below⟩ hs') ops.size _ m (sf 0) (hf' 0) a _ ?_ ?_
      · unfold edgesOk at hedge
        rw [List.all_eq_true] at hedge
        have := hedge (o, k) (by
          rw [List.mem_iff_getElem?]
          exact ⟨k, by simp [List.getElem?_zipIdx, ho]⟩)
        simp only [Bool.and_eq_true] at this
        have h2 := this.1
        rw [Array.all_eq_true_iff_forall_mem] at h2
        have h3 := h2 e he
        simpa [hb'] using h3
      · have hj : j < ops.size := by omega
        have := pairsOk_at _ hpairs j k (j, ⟨nf j, nf (j + 1), Lf j⟩) (k, ⟨nf k, nf (k + 1), Lf k⟩) hjk (by rw [tagged_at, a8 j hj]; simp) (by rw [tagged_at, a8 k hk]; simp)
        exact this
      · simp [List.countP_replicate]
      · have hnd : ∀ j, ¬ Dn (Array.replicate ops.size false) j := by
          intro j hj
          unfold Dn at hj
          rw [Array.getD_eq_getD_getElem?, Array.getElem?_replicate] at hj
          split at hj <;> simp at hj
        refine ⟨by simp, fun k o hd => absurd hd (hnd k), fun b c i hi hiff => ?_, fun t i hi hiff => ?_, Le.refl _, fun _ _ => rfl, x, Below.refl _ _, hs⟩
        · -- no writer lies ahead of i
          have key : ∀ i, i ≤ ops.size → (∀ j, j < ops.size → Wr nf Lf j b c → ¬ j < i) → agrS (hf' 0) (hf' i) b c := by
            intro i
            induction i with
            | zero => intro _ _; exact agrS.refl _ _ _
            | succ i ih =>
              intro hi hno
              have A := Loc.inside (Loc.evVal hrl ops ops[i] (sf i)) _ _ _ _ _ _ (C.step i ops[i] (by simp [show i < ops.size by omega]))
              have hw : ¬ Wr nf Lf i b c := fun hw => hno i (by omega) hw (by omega)
              exact (ih (by omega) fun j hj hwj hlt => hno j hj hwj (by omega)).trans (A.frame b c (fun q => hw (.inl q)) (fun q => hw (.inr q))).symm
          exact key i hi fun j hj hw hlt => hnd j ((hiff j hj hw).2 hlt)
        · have key : ∀ i, i ≤ ops.size → (∀ j o, ops[j]? = some o → o.dst = some t → ¬ j < i) → (sf 0).get t = (sf i).get t := by
            intro i
            induction i with
            | zero => intro _ _; rfl
            | succ i ih =>
              intro hi hno
              have hi2 : i < ops.size := by omega
              rw [ih (by omega) fun j o ho hd hlt => hno j o ho hd (by omega)]
              have hput := C.put i ops[i] (by simp [hi2])
              have hd : (ops[i]).dst ≠ some t := fun hd => hno i ops[i] (by simp [hi2]) hd (by omega)
              unfold putS at hput
              cases hdst : (ops[i]).dst with
              | none => rw [hdst] at hput; have hq : sf i = sf (i + 1) := Option.some.inj hput; rw [hq]
              | some d =>
                rw [hdst] at hput hd
                simp only at hput
                split at hput
                · rename_i hc
                  simp only [Bool.and_eq_true, decide_eq_true_eq] at hc
                  have hq := Option.some.inj hput
                  rw [← hq, S.get_put _ _ _ _ hc.2, if_neg (fun e => hd (by rw [e]))]
                · cases hput
          exact key i hi fun j o ho hd hlt => hnd j ((hiff j o ho hd).2 hlt)
  · cases e2

theorem code_sim (hop : OpSim P base) (hrec : CallSim P base rec) (hrl : ∀ f a, Loc (rec f a)) (hmix : P.follows .mixedOrders = true) :
    ∀ (fuel : Nat) (c : Code) (_ : okCode P c = true) (Q : Exit → Act → World → Prop) (m : Mp) (s s1 : S) (a : Act) (w : World) (h h1 : H) (n n1 : Nat) (L : List En) (e : Ex), WR P m base h w.heap → base ≤ w.heap.size → Gl P m → SR m nt s a →
      evCode P rec nt fuel c s h n = some ⟨(e, s1), h1, n1, L⟩ → Fresh m n n1 → (∀ m' a' w', Post P m base n n1 w h1 m' w' → SR m' nt s1 a' → Q (cv e) a' w') → c.wp P Q a w := by
  intro fuel
  induction fuel using Nat.strongRecOn with
  | _ fuel ih =>
    intro c hok Q m s s1 a w h h1 n n1 L e x hb g hs hr hf hQ
    cases fuel with
    | zero => cases hr
    | succ f =>
      cases c with
      | skip =>
        obtain ⟨q, rfl, rfl⟩ := ret_some hr
        cases q
        exact wp_skip (hQ m a w (Post.refl x) hs)
      | label l =>
        obtain ⟨q, rfl, rfl⟩ := ret_some hr
        cases q
        exact wp_label (hQ m a w (Post.refl x) hs)
      | region id ops draw =>
        unfold evCode at hr
        obtain ⟨s2, h2, n2, L1, L2, e1, e2, _⟩ := bind_some hr
        obtain ⟨q, rfl, rfl⟩ := ret_some e2
        cases q
        refine region_sim hop hrec hrl hmix (fun o ho => ?_) x hb g hs e1 hf hQ
        unfold okCode at hok
        rw [Array.all_eq_true_iff_forall_mem] at hok
        exact hok o ho
      | seq c1 c2 =>
        unfold okCode at hok
        simp only [Bool.and_eq_true] at hok
        unfold evCode at hr
        obtain ⟨y, h2, n2, L1, L2, e1, e2, _⟩ := bind_some hr
        obtain ⟨e0, s2⟩ := y
        have A := Loc.evCode hrl f c1 s h n _ h2 n2 L1 e1
        apply wp_seq
        cases e0 with
        | normal =>
          have B := Loc.evCode hrl f c2 s2 h2 n2 _ h1 n1 L2 e2
          refine ih f (by omega) c1 hok.1 _ m s s2 a w h h2 n n2 L1 .normal x hb g hs e1 (hf.first B.le) fun m' a' w' hp hs' => ?_
          exact ih f (by omega) c2 hok.2 Q m' s2 s1 a' w' h2 h1 n2 n1 L2 e hp.wr (Below.le hp.below hb) (g.mono hp.le) hs' e2 (hf.after A.le hp) fun m'' a'' w'' hp2 hs2 => hQ m'' a'' w'' (hp.trans A.le B.le hp2) hs2
        | ret =>
          obtain ⟨q, rfl, rfl⟩ := ret_some e2
          cases q
          exact ih f (by omega) c1 hok.1 _ m s _ a w h _ n _ L1 .ret x hb g hs e1 hf fun m' a' w' hp hs' => hQ m' a' w' hp hs'
        | exit id =>
          obtain ⟨q, rfl, rfl⟩ := ret_some e2
          cases q
          exact ih f (by omega) c1 hok.1 _ m s _ a w h _ n _ L1 (.exit id) x hb g hs e1 hf fun m' a' w' hp hs' => hQ m' a' w' hp hs'
      | cond c0 c1 c2 =>
        unfold okCode at hok
        simp only [Bool.and_eq_true] at hok
        unfold evCode at hr
        simp only at hr
        generalize ht : ev s c0 = v0 at hr
        cases v0 with
        | bool t =>
          have hv := ev_at g hs hok.1.1
          rw [ht] at hv
          have hc : a.eval c0 = .bool t := by
            generalize a.eval c0 = u at hv
            cases hv; rfl
          refine wp_cond hc ?_
          refine ih f (by omega) _ ?_ Q m s s1 a w h h1 n n1 L e x hb g hs hr hf hQ
          cases t
          · exact hok.2
          · exact hok.1.2
        | _ => cases hr
      | block id c1 =>
        unfold okCode at hok
        unfold evCode at hr
        obtain ⟨y, h2, n2, L1, L2, e1, e2, _⟩ := bind_some hr
        obtain ⟨e0, s2⟩ := y
        apply wp_block
        cases e0 with
        | normal =>
          obtain ⟨q, rfl, rfl⟩ := ret_some e2
          cases q
          exact ih f (by omega) c1 hok _ m s _ a w h _ n _ L1 .normal x hb g hs e1 hf fun m' a' w' hp hs' => hQ m' a' w' hp hs'
        | ret =>
          obtain ⟨q, rfl, rfl⟩ := ret_some e2
          cases q
          exact ih f (by omega) c1 hok _ m s _ a w h _ n _ L1 .ret x hb g hs e1 hf fun m' a' w' hp hs' => hQ m' a' w' hp hs'
        | exit id' =>
          simp only at e2
          by_cases hid : id' = id
          · rw [if_pos hid] at e2
            obtain ⟨q, rfl, rfl⟩ := ret_some e2
            cases q
            refine ih f (by omega) c1 hok _ m s _ a w h _ n _ L1 (.exit id') x hb g hs e1 hf fun m' a' w' hp hs' => ?_
            show (if id' = id then _ else _)
            rw [if_pos hid]
            exact hQ m' a' w' hp hs'
          · rw [if_neg hid] at e2
            obtain ⟨q, rfl, rfl⟩ := ret_some e2
            cases q
            refine ih f (by omega) c1 hok _ m s _ a w h _ n _ L1 (.exit id') x hb g hs e1 hf fun m' a' w' hp hs' => ?_
            show (if id' = id then _ else _)
            rw [if_neg hid]
            exact hQ m' a' w' hp hs'
      | loop c1 =>
        have hok1 : okCode P c1 = true := by unfold okCode at hok; exact hok
        let J : Act → World → Nat → Prop := fun a' w' k => k ≤ f + 1 ∧ ∃ m' s' h' n' L', n ≤ n' ∧ n' ≤ n1 ∧ Post P m base n n' w h' m' w' ∧ SR m' nt s' a' ∧ evCode P rec nt k (.loop c1) s' h' n' = some ⟨(e, s1), h1, n1, L'⟩
        have hle := (Loc.evCode hrl (f + 1) (.loop c1) s h n _ h1 n1 L hr).le
        refine wp_loop (fun a' w' => ∃ k, J a' w' k) (fun a' w' => least (J a' w')) ⟨f + 1, Nat.le_refl _, m, s, h, n, L, Nat.le_refl _, hle, Post.refl x, hs, hr⟩ ?_
        intro a' w' hI
        obtain ⟨hJ, hmin⟩ := least_spec hI
        generalize hk : least (J a' w') = k at hJ
        obtain ⟨hkf, m', s', h', n', L', hn1, hn2, hp, hs', hr'⟩ := hJ
        cases k with
        | zero => cases hr'
        | succ k =>
          unfold evCode at hr'
          obtain ⟨y, h2, n2, L1, L2, e1, e2, _⟩ := bind_some hr'
          obtain ⟨e0, s2⟩ := y
          have A := Loc.evCode hrl k c1 s' h' n' _ h2 n2 L1 e1
          cases e0 with
          | normal =>
            have B := Loc.evCode hrl k (.loop c1) s2 h2 n2 _ h1 n1 L2 e2
            refine ih k (by omega) c1 hok1 _ m' s' s2 a' w' h' h2 n' n2 L1 .normal hp.wr (Below.le hp.below hb) (g.mono hp.le) hs' e1 (fun b q1 q2 => ?_) fun m'' a'' w'' hp2 hs2 => ?_
            · have := B.le
              rw [hp.out b (by omega)]
              exact hf b (by omega) (by omega)
            · have hJ2 : J a'' w'' k := ⟨by omega, m'', s2, h2, n2, L2, by have := A.le; omega, B.le, hp.trans hn1 A.le hp2, hs2, e2⟩
              exact ⟨⟨k, hJ2⟩, Nat.lt_succ_of_le ((least_spec ⟨k, hJ2⟩).2 k hJ2)⟩
          | ret =>
            obtain ⟨q, rfl, rfl⟩ := ret_some e2
            cases q
            refine ih k (by omega) c1 hok1 _ m' s' _ a' w' h' _ n' _ L1 .ret hp.wr (Below.le hp.below hb) (g.mono hp.le) hs' e1 (fun b q1 q2 => ?_) fun m'' a'' w'' hp2 hs2 => hQ m'' a'' w'' (hp.trans hn1 A.le hp2) hs2
            rw [hp.out b (by omega)]
            exact hf b (by omega) q2
          | exit id =>
            obtain ⟨q, rfl, rfl⟩ := ret_some e2
            cases q
            refine ih k (by omega) c1 hok1 _ m' s' _ a' w' h' _ n' _ L1 (.exit id) hp.wr (Below.le hp.below hb) (g.mono hp.le) hs' e1 (fun b q1 q2 => ?_) fun m'' a'' w'' hp2 hs2 => hQ m'' a'' w'' (hp.trans hn1 A.le hp2) hs2
            rw [hp.out b (by omega)]
            exact hf b (by omega) q2
      | exit id =>
        obtain ⟨q, rfl, rfl⟩ := ret_some hr
        cases q
        exact wp_exit (hQ m a w (Post.refl x) hs)
      | ret =>
        obtain ⟨q, rfl, rfl⟩ := ret_some hr
        cases q
        exact wp_ret (hQ m a w (Post.refl x) hs)
      | rangeFunc _ _ _ _ => cases hr
      | scope _ => cases hr
      | goto _ => cases hr
      | refuse _ => cases hr
end

theorem argS_get : ∀ (l : List Value) (i : Nat) (s : S) (t : Nat), i + l.length < 1023 → (argS i l s).get t = if i ≤ t ∧ t < i + l.length then l.getD (t - i) undef else s.get t := by
  intro l
  induction l with
  | nil => intro i s t _; rw [if_neg (by simp)]; rfl
  | cons v r ih =>
    intro i s t hl
    simp only [List.length_cons] at hl
    unfold argS
    rw [ih (i + 1) _ t (by omega)]
    by_cases h1 : i + 1 ≤ t ∧ t < i + 1 + r.length
    · rw [if_pos h1, if_pos (by simp; omega)]
      rw [show t - i = (t - (i + 1)) + 1 by omega]
      simp
    · rw [if_neg h1, S.get_put _ _ _ _ (by omega)]
      by_cases e : t = i
      · subst e; simp
      · rw [if_neg e, if_neg (by simp; omega)]
theorem S.get_nil (t : Nat) : S.get (.nil : S) t = undef := by unfold S.get; rw [Tr.get_nil]; rfl
theorem args_sr {m : Mp} {args args' : Array Value} {nt : Nat} (h : VRs m args.toList args'.toList) (h1 : args.size ≤ nt) (h2 : nt < 1000) : SR m nt (argS 0 args.toList .nil) { tmps := args' ++ Array.replicate (nt - args'.size) undef, defers := [] } := by
  have hl : args.size = args'.size := by simpa using h.length
  refine ⟨rfl, by simp; omega, fun t => ?_⟩
  rw [argS_get _ _ _ _ (by simp; omega)]
  by_cases ht : t < args.size
  · rw [if_pos (by simp; exact ht)]
    obtain ⟨v', hv', hr⟩ := h.get t (args.toList.getD (t - 0) undef) (by simp [List.getD_eq_getElem?_getD, ht])
    have : (args' ++ Array.replicate (nt - args'.size) undef).getD t undef = v' := by
      have ht' : t < args'.size := by omega
      rw [Array.getD_eq_getD_getElem?, Array.getElem?_append_left ht']
      simp at hv'
      simp [hv']
    show VR m _ ((args' ++ Array.replicate (nt - args'.size) undef).getD t undef)
    rw [this]
    exact hr
  · rw [if_neg (by simp; omega), S.get_nil]
    have : (args' ++ Array.replicate (nt - args'.size) undef).getD t undef = undef := by
      rw [Array.getD_eq_getD_getElem?, Array.getElem?_append_right (by omega), Array.getElem?_replicate]
      split <;> rfl
    show VR m _ ((args' ++ Array.replicate (nt - args'.size) undef).getD t undef)
    rw [this]
    exact VR.undef
end Go.Proofs.YtmjolmggelkjlaaGreat.Ev

/- All operations, calls: what the evaluator finds of a closed call holds of every run. No program in sight. -/
import Derived.Test.YtmjolmggelkjlaaGreatEvI
import Derived.Laws.StructEq
namespace Go.Proofs.YtmjolmggelkjlaaGreat.Ev
set_option linter.unusedVariables false
set_option linter.unusedSimpArgs false
open Go Go.RowKit

theorem VRs.maps {m : Mp} {ρ ρ' : Operand → Value} : ∀ (l : List Operand), (∀ y ∈ l, VR m (ρ y) (ρ' y)) → VRs m (l.map ρ) (l.map ρ')
  | [], _ => .nil
  | x :: l, h => .cons (h x (by simp)) (VRs.maps l fun y hy => h y (by simp [hy]))
theorem run_pureNext {P : Program} {w : World} {s : Sem Value} {v : Value} {w' : World} (h : s.run P w = .ok v w') : ((do pure (.value (← s)) : Sem Next)).run P w = .ok (.value v) w' := by
  simp only [Sem.run_bind, h, Result.andThen, Sem.run_pure]
section
variable {P : Program} {base : Nat}
def Goal (P : Program) (base : Nat) (m : Mp) (w : World) (n n1 : Nat) (h1 : H) (r : Nx) (s : Sem Next) : Prop := ∃ m' w' R, s.run P w = .ok R w' ∧ Post P m base n n1 w h1 m' w' ∧ NR m' r R
theorem Goal.of {m : Mp} {w : World} {h h1 : H} {n n1 : Nat} {v : Value} {s : Sem Value} (x : Sound P base m w h n s v h1 n1) : Goal P base m w n n1 h1 (.val v) (do pure (.value (← s))) := by
  obtain ⟨m', w', v', hr, hp, hv⟩ := x
  exact ⟨m', w', .value v', run_pureNext hr, hp, .val hv⟩
theorem bind_val {m : M Value} {h h2 : H} {n n2 : Nat} {r : Nx} {L : List En} (hr : (m.bind fun v => M.ret (Nx.val v)) h n = some ⟨r, h2, n2, L⟩) : ∃ v L', r = .val v ∧ m h n = some ⟨v, h2, n2, L'⟩ := by
  obtain ⟨v, h1, n1, L1, L2, e1, e2, _⟩ := bind_some hr
  obtain ⟨rfl, rfl, rfl⟩ := ret_some e2
  exact ⟨v, L1, rfl, e1⟩
theorem plain_sim {ρ ρ' : Operand → Value} {o : Oper} {m : Mp} {w : World} {h h1 : H} {n n1 : Nat} {r : Nx} {L : List En} (hs : ∀ cs b, o.op ≠ .select cs b) (hρ : ∀ y ∈ o.op.operands, VR m (ρ y) (ρ' y)) (x : WR P m base h w.heap) (hr : evPlain P ρ o h n = some ⟨r, h1, n1, L⟩) :
    Goal P base m w n n1 h1 r (execOp ρ' o) := by
  unfold evPlain at hr
  split at hr
  · rename_i hall
    obtain ⟨v, h2, n2, L1, L2, e1, e2, _⟩ := bind_some hr
    obtain ⟨hp, rfl, rfl⟩ := lift_some e1
    split at e2
    · rename_i hsc
      obtain ⟨rfl, rfl, rfl⟩ := ret_some e2
      have : execOp ρ' o = execOp ρ o := execOp_congr o hs fun y hy => (hρ y hy).scalar ((Array.all_eq_true_iff_forall_mem.1 hall) y hy)
      rw [this]
      exact ⟨m, w, .value v, pureRun_run _ _ hp w, Post.refl x, .val (VR.self hsc)⟩
    · cases e2
  · cases hr
theorem pure_sim {m : Mp} {w : World} {h : H} {n : Nat} {v v' : Value} {s : Sem Value} (x : WR P m base h w.heap) (hr : s.run P w = .ok v' w) (hv : VR m v v') : Goal P base m w n n h (.val v) (do pure (.value (← s))) :=
  ⟨m, w, .value v', run_pureNext hr, Post.refl x, .val hv⟩
theorem opt_rel {m : Mp} {ρ ρ' : Operand → Value} {o : Option Operand} (h : ∀ y ∈ o, VR m (ρ y) (ρ' y)) : OptR m (o.map ρ) (o.map ρ') := by
  cases o with
  | none => trivial
  | some y => exact h y rfl
theorem nilEq_run {m : Mp} {t : TypeId} {v v' u u' : Value} {b : Bool} (hv : VR m v v') (hu : VR m u u') (h : nilEq (P.underlying t) v u = some b) (w : World) :
    (Op.equal t v' u').run P w = .ok b w ∧ (∀ op x y, (eqGuard op t x y v' u').run P w = .ok () w) ∧ (∀ op : BinOp, op = .eql ∨ op = .neq → binOp op t v' u' = (if op = .eql then do pure (.bool (← Op.equal t v' u')) else do pure (.bool (!(← Op.equal t v' u'))))) := by
  cases hd : P.underlying t with
  | none => rw [hd] at h; simp [nilEq] at h
  | some d =>
    rw [hd] at h
    have hmax : Op.maxDepth = 9999 + 1 := rfl
    unfold Op.equal
    rw [hmax]
    cases d <;> try (simp [nilEq] at h; done)
    all_goals (cases hv <;> try (simp [nilEq] at h; done))
    all_goals (cases hu <;> try (simp [nilEq] at h; done))
    all_goals (
      simp [nilEq] at h
      subst h
      refine ⟨?_, fun op x y => ?_, fun op hop => ?_⟩
      · rw [Op.equalIn]
        simp only [Sem.run_bind, run_underlying hd, Result.andThen]
        rfl
      · unfold eqGuard
        split <;> rfl
      · rcases hop with rfl | rfl <;> rfl)
theorem kindEq_some {m : Mp} {d : Nat} {x y x' y' : Value} {b : Bool} (h : kindEq d x y = some b) (hx : VR m x x') (hy : VR m y y') : x' = x ∧ y' = y := by
  unfold kindEq at h
  split at h
  · cases hx; cases hy; exact ⟨rfl, rfl⟩
  · cases hx; cases hy; exact ⟨rfl, rfl⟩
  · cases hx; cases hy; exact ⟨rfl, rfl⟩
  · cases h
theorem kindsEq_some {m : Mp} : ∀ {ds : List Nat} {l k l' k' : List Value} {b : Bool}, kindsEq ds l k = some b → VRs m l l' → VRs m k k' → l' = l ∧ k' = k ∧ l.length = ds.length ∧ k.length = ds.length
  | [], [], [], _, _, _, _, .nil, .nil => ⟨rfl, rfl, rfl, rfl⟩
  | d :: ds, x :: l, y :: k, _, _, b, h, .cons hx hl, .cons hy hk => by
    unfold kindsEq at h
    split at h
    · rename_i a b h1 h2
      obtain ⟨rfl, rfl⟩ := kindEq_some h1 hx hy
      obtain ⟨rfl, rfl, e1, e2⟩ := kindsEq_some h2 hl hk
      exact ⟨rfl, rfl, by simp [e1], by simp [e2]⟩
    · cases h
  | [], [], _ :: _, _, _, _, h, _, _ => by simp [kindsEq] at h
  | [], _ :: _, _, _, _, _, h, _, _ => by simp [kindsEq] at h
  | _ :: _, [], _, _, _, _, h, _, _ => by simp [kindsEq] at h
  | _ :: _, _ :: _, [], _, _, _, h, _, _ => by simp [kindsEq] at h
theorem run_part1 {t : TypeId} {cs : Array Value} {i : Nat} {v : Value} (ha : agg? P t = some false) (hc : cs[i]? = some v) (w : World) : (part t cs i).run P w = .ok v w := by
  unfold part
  simp only [Sem.run_bind, agg_isAgg ha, Result.andThen, Bool.false_eq_true, if_false, hc]
  rfl
theorem fields_run {xs ys : Array Value} (D : Nat) : ∀ (fs : List Field) (i : Nat) (ds : List Nat) (b : Bool), fldKinds P i fs = some ds → kindsEq ds (xs.toList.drop i) (ys.toList.drop i) = some b → ∀ w, (Op.eqFields (D + 1) xs ys fs).run P w = .ok b w
  | [], i, ds, b, h, hk, w => by
    simp only [fldKinds, Option.some.injEq] at h
    subst h
    unfold kindsEq at hk
    split at hk <;> first | (cases hk; done) | skip
    · cases hk; rfl
    · rename_i q _ _; cases q
  | f :: fs, i, ds, b, h, hk, w => by
    unfold fldKinds at h
    split at h
    · rename_i d l h1 h2 h3
      split at h
      · rename_i hc
        cases h
        simp only [Bool.and_eq_true, bne_iff_ne, ne_eq, beq_iff_eq] at hc
        obtain ⟨hnm, hoff⟩ := hc
        unfold kindsEq at hk
        split at hk <;> first | (cases hk; done) | skip
        · rename_i q _ _; cases q
        · rename_i d' ds' x lx y ly e0 e1 e2
          cases e0
          split at hk
          · rename_i a b' k1 k2
            cases hk
            have cx : xs[i]? = some x := by
              rw [← Array.getElem?_toList]
              have := congrArg (·[0]?) e1
              simpa using this
            have cy : ys[i]? = some y := by
              rw [← Array.getElem?_toList]
              have := congrArg (·[0]?) e2
              simpa using this
            have dx : xs.toList.drop (i + 1) = lx := by
              have := congrArg List.tail e1
              simpa [List.tail_drop] using this
            have dy : ys.toList.drop (i + 1) = ly := by
              have := congrArg List.tail e2
              simpa [List.tail_drop] using this
            have ag : agg? P f.type = some false ∧ ∀ w, (Op.equalIn (D + 1) f.type x y).run P w = .ok a w := by
              unfold kindOf? at h1
              unfold agg?
              cases hu : P.underlying f.type with
              | none => rw [hu] at h1; cases h1
              | some u =>
                rw [hu] at h1
                unfold kindEq at k1
                cases u <;> first | (cases h1; done) | skip
                · cases h1
                  refine ⟨rfl, fun w => ?_⟩
                  split at k1 <;> first | (cases k1; done) | skip
                  · rename_i q; cases q
                  · rename_i q; cases q
                  · cases k1
                    simp [Op.equalIn, run_underlying hu]
                · cases h1
                  refine ⟨rfl, fun w => ?_⟩
                  split at k1 <;> first | (cases k1; done) | skip
                  · split at k1
                    · rename_i hkk
                      cases k1
                      simp [Op.equalIn, run_underlying hu, hkk]
                    · cases k1
                  · rename_i q; cases q
                  · rename_i q; cases q
                · cases h1
                  refine ⟨rfl, fun w => ?_⟩
                  split at k1 <;> first | (cases k1; done) | skip
                  · rename_i q; cases q
                  · cases k1
                    simp [Op.equalIn, run_underlying hu]
                  · rename_i q; cases q
            have ih := fields_run (xs := xs) (ys := ys) D fs (i + 1) l b' h3 (by rw [dx, dy]; exact k2)
            unfold Op.eqFields
            rw [if_pos hnm]
            simp only [Sem.run_bind, hoff, run_part1 ag.1 cx, run_part1 ag.1 cy, Result.andThen, ag.2]
            cases a
            · simp
            · simpa using ih w
          · cases hk
      · cases h
    · cases h
theorem anyEq_run {m : Mp} {t : TypeId} {v v' u u' : Value} {b : Bool} (hv : VR m v v') (hu : VR m u u') (h : anyEq P t v u = some b) (w : World) :
    (Op.equal t v' u').run P w = .ok b w ∧ (∀ op x y, (eqGuard op t x y v' u').run P w = .ok () w) ∧ (∀ op : BinOp, op = .eql ∨ op = .neq → binOp op t v' u' = (if op = .eql then do pure (.bool (← Op.equal t v' u')) else do pure (.bool (!(← Op.equal t v' u'))))) := by
  unfold anyEq at h
  split at h
  · rename_i b' hn
    cases h
    exact nilEq_run hv hu hn w
  · unfold stEq at h
    split at h
    · rename_i ds xs ys hd hnil
      cases hv with
      | agg hxs =>
      cases hu with
      | agg hys =>
      rename_i xs' ys'
      obtain ⟨e1, e2, _, _⟩ := kindsEq_some h hxs hys
      have e1 : xs' = xs := by cases xs'; cases xs; simp at e1; rw [e1]
      have e2 : ys' = ys := by cases ys'; cases ys; simp at e2; rw [e2]
      subst e1; subst e2
      unfold stKinds at hd
      split at hd
      · rename_i fs hfs
        split at hd
        · cases hd
        · rename_i hg
          simp only [Bool.or_eq_true, not_or, Bool.not_eq_true] at hg
          have hff : P.fieldsOf t = fs := by unfold Program.fieldsOf; rw [hfs]
          refine ⟨?_, fun op x y => run_eqGuard_agg w op t x y _ _ hg.2, fun op hop => ?_⟩
          · show (Op.equalIn (9998 + 1 + 1) t _ _).run P w = _
            rw [run_equalIn_struct w (9998 + 1) t _ _ (by rw [hff]; exact hfs) hg.1, hff]
            exact fields_run 9998 fs.toList 0 ds b hd h w
          · rcases hop with rfl | rfl <;> rfl
      · cases hd
    · cases h
theorem toStr_some {a b : Option TypeDesc} {e : TypeId} (h : toStr? a b = some e) : a = some (.slice e) ∧ b = some .string := by
  unfold toStr? at h
  split at h
  · cases h; exact ⟨rfl, rfl⟩
  · cases h
theorem toBy_some {a b : Option TypeDesc} {v : Value} {e : TypeId} {s : ByteArray} (h : toBy? a b v = some (e, s)) : a = some .string ∧ b = some (.slice e) ∧ v = .string s := by
  unfold toBy? at h
  split at h
  · cases h; exact ⟨rfl, rfl, rfl⟩
  · cases h
theorem u8_some {e : TypeId} (h : u8? P e = true) : P.underlying e = some (.int .u8) := by
  unfold u8? at h
  split at h
  · assumption
  · cases h
theorem cpy_some {ats : Array TypeId} {args : List Value} {t : TypeId} {d y : Value} (h : cpy? ats args = some (t, d, y)) : ats[0]? = some t ∧ args = [d, y] := by
  unfold cpy? at h
  split at h
  · rename_i t' d' y' h0
    cases h
    exact ⟨h0, rfl⟩
  · cases h
theorem app_some {ats : Array TypeId} {args : List Value} {t : TypeId} {s y : Value} (h : app? P ats args = some (t, s, y)) : ∃ u, ats[0]? = some t ∧ ats[1]? = some u ∧ args = [s, y] ∧ ((∃ e', P.underlying u = some (.slice e')) ∨ P.underlying u = some .string) := by
  unfold app? at h
  split at h
  · rename_i t' u s' y' h0 h1
    split at h
    · rename_i hk
      cases h
      refine ⟨u, h0, h1, rfl, ?_⟩
      unfold sliceOrStr at hk
      split at hk
      · rename_i e hh; exact .inl ⟨e, hh⟩
      · rename_i hh; exact .inr hh
      · cases hk
    · cases h
  · cases h
theorem sliceLen_some {ats : Array TypeId} {args : List Value} {k : Nat} (h : sliceLen? P ats args = some k) : ∃ t e a cp rest, ats[0]? = some t ∧ P.underlying t = some (.slice e) ∧ args = .slice a k cp :: rest := by
  unfold sliceLen? at h
  split at h
  · rename_i t a n cp rest h0
    split at h
    · rename_i e hh
      cases h
      exact ⟨t, e, a, cp, rest, h0, hh, rfl⟩
    · cases h
  · cases h
theorem op_sim (hnm : okNames P = true) : OpSim P base := by
  intro ρ ρ' o h n r h1 n1 L m w hr hρ x hb hf
  show Goal P base m w n n1 h1 r (execOp ρ' o)
  have plain : (∀ cs b, o.op ≠ .select cs b) → evPlain P ρ o h n = some ⟨r, h1, n1, L⟩ → Goal P base m w n n1 h1 r (execOp ρ' o) := fun hs hr => plain_sim hs hρ x hr
  unfold evOp at hr
  cases hop : o.op with
  | move y =>
    rw [hop] at hr hρ
    unfold execOp
    rw [hop]
    obtain ⟨rfl, rfl, rfl⟩ := ret_some hr
    exact ⟨m, w, .value (ρ' y), rfl, Post.refl x, .val (hρ y (by simp [Op.operands]))⟩
  | assign y =>
    rw [hop] at hr hρ
    unfold execOp
    rw [hop]
    obtain ⟨rfl, rfl, rfl⟩ := ret_some hr
    exact ⟨m, w, .value (ρ' y), rfl, Post.refl x, .val (hρ y (by simp [Op.operands]))⟩
  | pick c a b =>
    rw [hop] at hr hρ
    unfold execOp
    rw [hop]
    simp only at hr
    dsimp only
    have hc := hρ c (by simp [Op.operands])
    have ha := hρ a (by simp [Op.operands])
    have hb' := hρ b (by simp [Op.operands])
    generalize ρ c = vc at hr hc
    generalize ρ' c = vc' at hc ⊢
    cases hc <;> try (cases hr; done)
    rename_i t
    obtain ⟨rfl, rfl, rfl⟩ := ret_some hr
    refine ⟨m, w, .value (if t then ρ' a else ρ' b), by cases t <;> rfl, Post.refl x, .val ?_⟩
    cases t
    · exact hb'
    · exact ha
  | alloc e =>
    rw [hop] at hr hρ
    unfold execOp
    rw [hop]
    obtain ⟨v, L', rfl, e1⟩ := bind_val hr
    exact Goal.of (sound_alloc x hb hf e1)
  | box e y =>
    rw [hop] at hr hρ
    unfold execOp
    rw [hop]
    obtain ⟨v, L', rfl, e1⟩ := bind_val hr
    exact Goal.of (sound_box (hρ y (by simp [Op.operands])) x hb hf e1)
  | build t ps =>
    rw [hop] at hr hρ
    unfold execOp
    rw [hop]
    obtain ⟨v, L', rfl, e1⟩ := bind_val hr
    have h1p : (ps.toList.map fun (i, x) => (i, ρ x)).map (·.1) = (ps.toList.map fun (i, x) => (i, ρ' x)).map (·.1) := by simp [Function.comp_def]
    have h2p : VRs m ((ps.toList.map fun (i, x) => (i, ρ x)).map (·.2)) ((ps.toList.map fun (i, x) => (i, ρ' x)).map (·.2)) := by
      have := VRs.maps (m := m) (ρ := ρ) (ρ' := ρ') (ps.toList.map (·.2)) fun y hy => hρ y (by simp only [Op.operands]; simpa using hy)
      simpa [List.map_map, Function.comp_def] using this
    have hpp : (ps.map fun (i, x) => (i, ρ' x)) = (ps.toList.map fun (i, x) => (i, ρ' x)).toArray := by
      apply Array.ext'
      simp
    dsimp only
    rw [hpp]
    exact Goal.of (sound_build h1p h2p x e1)
  | buildSlice t len ps =>
    rw [hop] at hr hρ
    unfold execOp
    rw [hop]
    obtain ⟨v, L', rfl, e1⟩ := bind_val hr
    have h1p : (ps.toList.map fun (i, x) => (i, ρ x)).map (·.1) = (ps.toList.map fun (i, x) => (i, ρ' x)).map (·.1) := by simp [Function.comp_def]
    have h2p : VRs m ((ps.toList.map fun (i, x) => (i, ρ x)).map (·.2)) ((ps.toList.map fun (i, x) => (i, ρ' x)).map (·.2)) := by
      have := VRs.maps (m := m) (ρ := ρ) (ρ' := ρ') (ps.toList.map (·.2)) fun y hy => hρ y (by simp only [Op.operands]; simpa using hy)
      simpa [List.map_map, Function.comp_def] using this
    have hpp : (ps.map fun (i, x) => (i, ρ' x)) = (ps.toList.map fun (i, x) => (i, ρ' x)).toArray := by
      apply Array.ext'
      simp
    dsimp only
    rw [hpp]
    exact Goal.of (sound_buildSlice h1p h2p x hb hf e1)
  | load t a =>
    rw [hop] at hr hρ
    unfold execOp
    rw [hop]
    obtain ⟨v, L', rfl, e1⟩ := bind_val hr
    exact Goal.of (sound_load (hρ a (by simp [Op.operands])) x e1)
  | store t a y =>
    rw [hop] at hr hρ
    unfold execOp
    rw [hop]
    obtain ⟨v, L', rfl, e1⟩ := bind_val hr
    obtain ⟨rfl, w', hst, hp⟩ := sound_store (hρ a (by simp [Op.operands])) (hρ y (by simp [Op.operands])) x e1
    refine ⟨m, w', .skip, ?_, hp, .skip⟩
    simp only [Sem.run_bind, hst, Result.andThen, Sem.run_pure]
  | nilCheck y =>
    rw [hop] at hr hρ
    unfold execOp
    rw [hop]
    obtain ⟨v, L', rfl, e1⟩ := bind_val hr
    obtain ⟨rfl, rfl, hv, hor⟩ := sound_nilCheck (hρ y (by simp [Op.operands])) x e1
    dsimp only
    rcases hor with ⟨a, ha⟩ | ⟨f, a, b, ha⟩ <;> rw [ha] at hv ⊢ <;> exact ⟨m, w, _, rfl, Post.refl x, .val hv⟩
  | binOp op t y z yt =>
    rw [hop] at hr
    simp only at hr
    have hρ2 := hρ
    rw [hop] at hρ2
    have hy := hρ2 y (by simp [Op.operands])
    have hz := hρ2 z (by simp [Op.operands])
    cases hq : anyEq P t (ρ y) (ρ z) with
    | none =>
      rw [hq] at hr
      exact plain (fun cs b hh => by rw [hop] at hh; cases hh) hr
    | some b =>
      rw [hq] at hr
      unfold execOp
      rw [hop]
      obtain ⟨q1, q2, q3⟩ := anyEq_run hy hz hq w
      cases op <;> try (cases hr; done)
      case eql =>
        obtain ⟨rfl, rfl, rfl⟩ := ret_some hr
        refine pure_sim x ?_ (.bool b)
        rw [Sem.run_bind, q2]
        simp only [Result.andThen]
        rw [q3 .eql (.inl rfl), if_pos rfl, Sem.run_bind, q1]
        rfl
      case neq =>
        obtain ⟨rfl, rfl, rfl⟩ := ret_some hr
        refine pure_sim x ?_ (.bool !b)
        rw [Sem.run_bind, q2]
        simp only [Result.andThen]
        rw [q3 .neq (.inr rfl), if_neg (by decide), Sem.run_bind, q1]
        rfl
  | unOp op t y =>
    rw [hop] at hr
    exact plain (fun cs b hh => by rw [hop] at hh; cases hh) hr
  | convert src dst y =>
    rw [hop] at hr
    simp only at hr
    have hρ2 := hρ
    rw [hop] at hρ2
    have hy := hρ2 y (by simp [Op.operands])
    have hns : ∀ cs b, o.op ≠ .select cs b := fun cs b hh => by rw [hop] at hh; cases hh
    cases hts : toStr? (P.underlying src) (P.underlying dst) with
    | some e =>
      rw [hts] at hr
      obtain ⟨hs, hd⟩ := toStr_some hts
      simp only at hr
      split at hr
      · rename_i hu8
        obtain ⟨v, L', rfl, e1⟩ := bind_val hr
        obtain ⟨a, l, c, hsl, hsnd⟩ := sound_toStr hy x e1
        unfold execOp
        rw [hop]
        simp only [hsl] at hsnd ⊢
        obtain ⟨m', w', v', hrun, hp, hv⟩ := hsnd
        exact ⟨m', w', .value v', run_pureNext (by rw [run_convert_bytes_string w src dst e a l c hs (u8_some hu8) hd]; exact hrun), hp, .val hv⟩
      · cases hr
    | none =>
      rw [hts] at hr
      simp only at hr
      cases htb : toBy? (P.underlying src) (P.underlying dst) (ρ y) with
      | none => rw [htb] at hr; exact plain hns hr
      | some es =>
        obtain ⟨e, s⟩ := es
        rw [htb] at hr
        simp only at hr
        obtain ⟨hs, hd, hys⟩ := toBy_some htb
        split at hr
        · rename_i hu8
          simp only [Bool.and_eq_true, beq_iff_eq] at hu8
          obtain ⟨v, L', rfl, e1⟩ := bind_val hr
          rw [hys] at hy
          have hy2 : ρ' y = .string s := by generalize ρ' y = q at hy; cases hy; rfl
          obtain ⟨m', w', v', hrun, hp, hv⟩ := sound_toBytes hu8.2 x hb hf e1
          unfold execOp
          rw [hop]
          simp only [hy2]
          refine ⟨m', w', .value v', run_pureNext ?_, hp, .val hv⟩
          rw [← hrun]
          simp [convert, run_underlying hs, run_underlying hd, run_underlying (u8_some hu8.1)]
        · cases hr
  | makeFunc fn a b =>
    rw [hop] at hr hρ
    unfold execOp
    rw [hop]
    obtain ⟨rfl, rfl, rfl⟩ := ret_some hr
    refine ⟨m, w, .value (.func fn (a.map ρ') (b.map ρ')), rfl, Post.refl x, .val (.func fn ?_ ?_)⟩
    · rw [Array.toList_map, Array.toList_map]
      exact VRs.maps _ fun y hy => hρ y (by simp only [Op.operands, Array.mem_append]; exact .inl (by simpa using hy))
    · rw [Array.toList_map, Array.toList_map]
      exact VRs.maps _ fun y hy => hρ y (by simp only [Op.operands, Array.mem_append]; exact .inr (by simpa using hy))
  | makeSlice t l c =>
    rw [hop] at hr hρ
    unfold execOp
    rw [hop]
    obtain ⟨v, L', rfl, e1⟩ := bind_val hr
    exact Goal.of (sound_makeSlice (hρ l (by simp [Op.operands])) (hρ c (by simp [Op.operands])) x hb hf e1)
  | slice t y lo hi mx =>
    rw [hop] at hr
    simp only at hr
    have hρ2 := hρ
    rw [hop] at hρ2
    have hy := hρ2 y (by simp [Op.operands])
    by_cases hstr : isStr (ρ y) = true
    · rw [if_pos hstr] at hr
      exact plain (fun cs b hh => by rw [hop] at hh; cases hh) hr
    · rw [if_neg hstr] at hr
      obtain ⟨v, L', rfl, e1⟩ := bind_val hr
      unfold execOp
      rw [hop]
      have hlo : OptR m (lo.map ρ) (lo.map ρ') := opt_rel fun q hq => hρ2 q (by rw [Option.mem_def] at hq; subst hq; simp [Op.operands])
      have hhi : OptR m (hi.map ρ) (hi.map ρ') := opt_rel fun q hq => hρ2 q (by rw [Option.mem_def] at hq; subst hq; simp [Op.operands])
      have hmx : OptR m (mx.map ρ) (mx.map ρ') := opt_rel fun q hq => hρ2 q (by rw [Option.mem_def] at hq; subst hq; simp [Op.operands])
      generalize ρ y = vy at e1 hy
      unfold evSliceM at e1
      split at e1
      · rename_i b off l c
        obtain ⟨e', h2, n2, L1, L2, e2, e3, _⟩ := bind_some e1
        obtain ⟨rfl, rfl, d2, hd2, hes, _⟩ := hdr_at x e2
        cases hu : P.underlying t with
        | none => rw [hu] at e3; cases e3
        | some du =>
          rw [hu] at e3
          cases du <;> try (cases e3; done)
          rename_i e
          simp only at e3
          split at e3
          · rename_i hsz
            obtain ⟨hev, rfl, rfl⟩ := lift_some e3
            obtain ⟨u, hu2, hru⟩ := slice_at (fun b' off' l' c' e2' hv' hu' => by
              cases hv'
              rw [hu] at hu'; cases hu'
              exact ⟨d2, hd2, by rw [← hsz]; exact hes⟩) hy hlo hhi hmx hev w
            exact pure_sim x hu2 hru
          · cases e3
      · rename_i hno
        obtain ⟨hev, rfl, rfl⟩ := lift_some e1
        obtain ⟨u, hu2, hru⟩ := slice_at (fun b' off' l' c' e2' hv' hu' => absurd hv' (hno b' off' l' c')) hy hlo hhi hmx hev w
        exact pure_sim x hu2 hru
  | fieldAddr t y f =>
    rw [hop] at hr hρ
    unfold execOp
    rw [hop]
    obtain ⟨v, L', rfl, e1⟩ := bind_val hr
    obtain ⟨hev, rfl, rfl⟩ := lift_some e1
    obtain ⟨u, hu, hru⟩ := fieldAddr_at (hρ y (by simp [Op.operands])) hev w
    exact pure_sim x hu hru
  | field t y f =>
    rw [hop] at hr hρ
    unfold execOp
    rw [hop]
    obtain ⟨v, L', rfl, e1⟩ := bind_val hr
    obtain ⟨hev, rfl, rfl⟩ := lift_some e1
    obtain ⟨u, hu, hru⟩ := field_at (hρ y (by simp [Op.operands])) hev w
    exact pure_sim x hu hru
  | indexAddr t y i =>
    rw [hop] at hr hρ
    unfold execOp
    rw [hop]
    obtain ⟨v, L', rfl, e1⟩ := bind_val hr
    obtain ⟨hev, rfl, rfl⟩ := lift_some e1
    obtain ⟨u, hu, hru⟩ := indexAddr_at (hρ y (by simp [Op.operands])) (hρ i (by simp [Op.operands])) hev w
    exact pure_sim x hu hru
  | index t y i =>
    rw [hop] at hr
    simp only at hr
    have hρ2 := hρ
    rw [hop] at hρ2
    split at hr
    · exact plain (fun cs b hh => by rw [hop] at hh; cases hh) hr
    · unfold execOp
      rw [hop]
      obtain ⟨v, L', rfl, e1⟩ := bind_val hr
      obtain ⟨hev, rfl, rfl⟩ := lift_some e1
      obtain ⟨u, hu, hru⟩ := index_at (hρ2 y (by simp [Op.operands])) (hρ2 i (by simp [Op.operands])) hev w
      exact pure_sim x hu hru
  | extract y i =>
    rw [hop] at hr hρ
    unfold execOp
    rw [hop]
    obtain ⟨v, L', rfl, e1⟩ := bind_val hr
    obtain ⟨hev, rfl, rfl⟩ := lift_some e1
    obtain ⟨u, hu, hru⟩ := extract_at (hρ y (by simp [Op.operands])) hev w
    exact pure_sim x hu hru
  | call c =>
    rw [hop] at hr
    simp only at hr
    have hρ2 := hρ
    rw [hop] at hρ2
    simp only [Op.operands] at hρ2
    have hargs : VRs m (c.args.map ρ).toList (c.args.map ρ').toList := by
      rw [Array.toList_map, Array.toList_map]
      exact VRs.maps _ fun y hy => hρ2 y (by unfold Call.operands; exact Array.mem_append.2 (.inr (by simpa using hy)))
    have hex : execOp ρ' o = (do let d ← resolve ρ' c o.type; invoke d.target d.args) := by unfold execOp; rw [hop]
    unfold evCallOp at hr
    cases hcal : c.callee with
    | invoke a b => rw [hcal] at hr; cases hr
    | value f =>
      rw [hcal] at hr
      simp only at hr
      have hfv := hρ2 f (by unfold Call.operands; rw [hcal]; simp)
      cases hfg : asFn? (ρ f) with
      | none => rw [hfg] at hr; cases hr
      | some gfc =>
        obtain ⟨g, first, cap⟩ := gfc
        rw [hfg] at hr
        simp only at hr
        obtain ⟨first', cap', hfg', hfirst, hcap⟩ : ∃ first' cap', ρ' f = .func (.func g) first' cap' ∧ VRs m first.toList first'.toList ∧ VRs m cap.toList cap'.toList := by
          generalize ρ f = p at hfg hfv
          generalize ρ' f = q at hfv
          unfold asFn? at hfg
          split at hfg
          · cases hfg
            cases hfv with
            | func fn h1 h2 => exact ⟨_, _, rfl, h1, h2⟩
          · cases hfg
        split at hr
        · rename_i hbody
          obtain ⟨rfl, rfl, rfl⟩ := ret_some hr
          rw [hex]
          unfold hasBody at hbody
          cases hfn : P.funcs[g]? with
          | none => rw [hfn] at hbody; cases hbody
          | some fn =>
            rw [hfn] at hbody
            have hbody : fn.body.isSome = true := hbody
            refine ⟨m, w, .enter g (first' ++ c.args.map ρ' ++ cap'), ?_, Post.refl x, .call ?_⟩
            · have hname : (fn.name == "runtime.NumGoroutine") = false := by
                unfold okNames at hnm
                have := (Array.all_eq_true_iff_forall_mem.1 hnm) fn (Array.mem_of_getElem? hfn)
                simpa using this
              have hb2 : fn.body.isNone = false := by
                cases hq : fn.body with
                | none => rw [hq] at hbody; cases hbody
                | some _ => rfl
              unfold resolve
              rw [hcal]
              simp only [hfg', Deferred.ofValue, pure_bind, invoke]
              unfold callFunc
              simp only [Sem.run_bind]
              show Result.andThen (.ok P w) _ = _
              simp only [Result.andThen, hfn, hname, Bool.false_eq_true, if_false, hb2]
              rfl
            · simp only [Array.toList_append]
              exact (hfirst.append hargs).append hcap
        · cases hr
    | builtin b =>
      rw [hcal] at hr
      have hexb : execOp ρ' o = builtin b c.argTypes o.type (c.args.map fun | .const _ => true | _ => false) (c.args.map ρ') := by
        rw [hex]
        unfold resolve
        rw [hcal]
        rfl
      cases b <;> simp only at hr <;> try (cases hr; done)
      case append =>
        cases happ : app? P c.argTypes (c.args.map ρ).toList with
        | none => rw [happ] at hr; cases hr
        | some tsx =>
          obtain ⟨t, s, y⟩ := tsx
          rw [happ] at hr
          simp only at hr
          obtain ⟨u, ht, hu, hl, hk⟩ := app_some happ
          rw [hl] at hargs
          rw [hexb]
          obtain ⟨s', y', hl', hs, hy⟩ : ∃ s' y', c.args.map ρ' = #[s', y'] ∧ VR m s s' ∧ VR m y y' := by
            generalize c.args.map ρ' = q at hargs
            obtain ⟨q⟩ := q
            simp only at hargs
            cases hargs with
            | cons h1 t1 => cases t1 with
              | cons h2 t2 => cases t2 with
                | nil => exact ⟨_, _, rfl, h1, h2⟩
          rw [hl']
          obtain ⟨v, L', rfl, e1⟩ := bind_val hr
          exact Goal.of (sound_append ht hu hk hs hy x hb hf e1)
      case copy =>
        cases hcp : cpy? c.argTypes (c.args.map ρ).toList with
        | none => rw [hcp] at hr; cases hr
        | some tds =>
          obtain ⟨t, d, y⟩ := tds
          rw [hcp] at hr
          simp only at hr
          obtain ⟨ht, hl⟩ := cpy_some hcp
          rw [hl] at hargs
          rw [hexb]
          obtain ⟨d', y', hl', hd, hy⟩ : ∃ d' y', c.args.map ρ' = #[d', y'] ∧ VR m d d' ∧ VR m y y' := by
            generalize c.args.map ρ' = q at hargs
            obtain ⟨q⟩ := q
            simp only at hargs
            cases hargs with
            | cons h1 t1 => cases t1 with
              | cons h2 t2 => cases t2 with
                | nil => exact ⟨_, _, rfl, h1, h2⟩
          rw [hl']
          obtain ⟨v, L', rfl, e1⟩ := bind_val hr
          exact Goal.of (sound_copy ht hd hy x e1)
      case len =>
        cases hsl : sliceLen? P c.argTypes (c.args.map ρ).toList with
        | none => rw [hsl] at hr; exact plain (fun cs b hh => by rw [hop] at hh; cases hh) hr
        | some k =>
          rw [hsl] at hr
          obtain ⟨t, e, a, cp, rest, ht, hue, hl⟩ := sliceLen_some hsl
          rw [hl] at hargs
          obtain ⟨rfl, rfl, rfl⟩ := ret_some hr
          rw [hexb]
          generalize c.args.map ρ' = q at hargs
          obtain ⟨q⟩ := q
          simp only at hargs
          cases hargs with
          | cons h1 t1 =>
            cases h1 with
            | snil _ _ hc =>
              refine pure_sim x ?_ (.int _ _)
              unfold Builtin.len_
              simp [ht, run_underlying hue, goInt]
            | semp _ _ _ _ =>
              refine pure_sim x ?_ (.int _ _)
              unfold Builtin.len_
              simp [ht, run_underlying hue, goInt]
            | slc =>
              refine pure_sim x ?_ (.int _ _)
              unfold Builtin.len_
              simp [ht, run_underlying hue, goInt]
      case min => exact plain (fun cs b hh => by rw [hop] at hh; cases hh) hr
      case max => exact plain (fun cs b hh => by rw [hop] at hh; cases hh) hr
  | _ => rw [hop] at hr; cases hr
end

theorem load_still {P : Program} {base : Nat} {m : Mp} {t : TypeId} {a a' r : Value} {h h1 : H} {n n1 : Nat} {L : List En} {w : World} (ha : VR m a a') (x : WR P m base h w.heap) (hr : evLoad P t a h n = some ⟨r, h1, n1, L⟩) :
    ∃ b off, a' = .pointer (some ⟨b, off, none⟩) ∧ h1 = h ∧ n1 = n ∧ ∃ v', VR m r v' ∧ ((do loadVar t (← asAddr a')) : Sem Value).run P w = .ok v' w := by
  unfold evLoad at hr
  split at hr
  · rename_i b off
    obtain ⟨d, hd, rfl⟩ := ptr_at ha
    cases hg : agg? P t with
    | none => rw [hg] at hr; cases hr
    | some g =>
      rw [hg] at hr
      cases g with
      | false =>
        simp only at hr
        obtain ⟨rfl, rfl, d', v', hd', hc, hv⟩ := rd_at x hr
        rw [hd] at hd'; cases hd'
        refine ⟨_, _, rfl, rfl, rfl, v', hv, ?_⟩
        simp only [asAddr, pure_bind, loadVar, Sem.run_bind, agg_isAgg hg w, Result.andThen, Bool.false_eq_true, if_false]
        show (Sem.load _ _ _).run P w = _
        simp [Sem.run, hc]
      | true =>
        cases hs : size? P t with
        | none => rw [hs] at hr; cases hr
        | some k =>
          rw [hs] at hr
          simp only at hr
          obtain ⟨vs, h2, n2, L1, L2, e1, e2, _⟩ := bind_some hr
          obtain ⟨rfl, rfl, rfl⟩ := ret_some e2
          obtain ⟨rfl, rfl, hl, vs', hvs, hcs⟩ := rdN_at x hd e1
          refine ⟨_, _, rfl, rfl, rfl, .agg vs'.toArray, .agg (by simpa using hvs), ?_⟩
          have hlen : vs'.length = k := by rw [← hvs.length, hl]
          have := run_loadCells_of (P := P) hcs
          rw [hlen] at this
          simp only [asAddr, pure_bind, loadVar, Sem.run_bind, agg_isAgg hg w, Result.andThen, if_true, run_sizeOf hs, this]
          rfl
  · cases hr
theorem results_at {P : Program} {base : Nat} {m : Mp} {nt : Nat} {s : S} {a : Act} (hs : SR m nt s a) : ∀ (l : List ResultVar) (h h1 : H) (n n1 : Nat) (L : List En) (vs : List Value) (w : World), WR P m base h w.heap → evResults P s l h n = some ⟨vs, h1, n1, L⟩ → ∃ vs', VRs m vs vs' ∧
    ((l.mapM fun | .tmp t => pure (a.tmps.getD t undef) | .cell b t => do loadVar t (← asAddr (a.tmps.getD b undef)) : Sem (List Value))).run P w = .ok vs' w := by
  intro l
  induction l with
  | nil =>
    intro h h1 n n1 L vs w x hr
    obtain ⟨rfl, rfl, rfl⟩ := ret_some hr
    exact ⟨[], .nil, rfl⟩
  | cons r l ih =>
    intro h h1 n n1 L vs w x hr
    cases r with
    | cell b t =>
      unfold evResults at hr
      obtain ⟨v, h2, n2, L1, L2, e1, e2, _⟩ := bind_some hr
      obtain ⟨us, h3, n3, L3, L4, e3, e4, _⟩ := bind_some e2
      obtain ⟨rfl, rfl, rfl⟩ := ret_some e4
      obtain ⟨b0, off, hsb, rfl, rfl, v', hv', hrun⟩ := load_still (hs.at_ b) x e1
      obtain ⟨vs', hvs, hrun2⟩ := ih _ _ _ _ _ _ w x e3
      refine ⟨v' :: vs', .cons hv' hvs, ?_⟩
      rw [List.mapM_cons]
      have h1 : (asAddr (a.tmps.getD b undef)).run P w = .ok ⟨b0, off, none⟩ w := by rw [hsb]; rfl
      have h2 : (loadVar t ⟨b0, off, none⟩).run P w = .ok v' w := by
        rw [Sem.run_bind, h1] at hrun
        exact hrun
      simp only [bind_assoc, pure_bind, Sem.run_bind, h1, Result.andThen, h2, hrun2, Sem.run_pure]
    | tmp t =>
      unfold evResults at hr
      obtain ⟨us, h2, n2, L1, L2, e1, e2, _⟩ := bind_some hr
      obtain ⟨rfl, rfl, rfl⟩ := ret_some e2
      obtain ⟨vs', hvs, hrun⟩ := ih _ _ _ _ _ _ w x e1
      refine ⟨a.tmps.getD t undef :: vs', .cons (hs.at_ t) hvs, ?_⟩
      rw [List.mapM_cons]
      simp only [pure_bind, Sem.run_bind, hrun, Result.andThen, Sem.run_pure]
theorem evLoad_same {P : Program} {t : TypeId} {v r : Value} {h h1 : H} {n n1 : Nat} {L : List En} (hr : evLoad P t v h n = some ⟨r, h1, n1, L⟩) : h1 = h ∧ n1 = n := by
  have rdS : ∀ {b k : Nat} {h h1 : H} {n n1 : Nat} {v : Value} {L : List En}, rd b k h n = some ⟨v, h1, n1, L⟩ → h1 = h ∧ n1 = n := by
    intro b k h h1 n n1 v L hr
    unfold rd at hr
    split at hr
    · split at hr
      · split at hr
        · simp only [Option.some.injEq, Out.mk.injEq] at hr
          exact ⟨hr.2.1.symm, hr.2.2.1.symm⟩
        · cases hr
      · cases hr
    · cases hr
  have rdNS : ∀ {c b k : Nat} {h h1 : H} {n n1 : Nat} {v : List Value} {L : List En}, rdN b k c h n = some ⟨v, h1, n1, L⟩ → h1 = h ∧ n1 = n := by
    intro c
    induction c with
    | zero =>
      intro b k h h1 n n1 v L hr
      obtain ⟨_, rfl, rfl⟩ := ret_some hr
      exact ⟨rfl, rfl⟩
    | succ c ih =>
      intro b k h h1 n n1 v L hr
      obtain ⟨v0, h2, n2, L1, L2, e2, e3, _⟩ := bind_some (m := rd b k) hr
      obtain ⟨rfl, rfl⟩ := rdS e2
      obtain ⟨ws, h4, n4, L3, L4, e4, e5, _⟩ := bind_some (m := rdN b (k + 1) c) e3
      obtain ⟨rfl, rfl⟩ := ih e4
      obtain ⟨_, rfl, rfl⟩ := ret_some e5
      exact ⟨rfl, rfl⟩
  unfold evLoad at hr
  split at hr
  · cases hg : agg? P t with
    | none => rw [hg] at hr; cases hr
    | some g =>
      rw [hg] at hr
      cases g with
      | false => exact rdS hr
      | true =>
        cases hs : size? P t with
        | none => rw [hs] at hr; cases hr
        | some k =>
          rw [hs] at hr
          obtain ⟨vs, h2, n2, L1, L2, e1, e2, _⟩ := bind_some hr
          obtain ⟨_, rfl, rfl⟩ := ret_some e2
          exact rdNS e1
  · cases hr
theorem evResults_same {P : Program} {s : S} : ∀ (l : List ResultVar) (h h1 : H) (n n1 : Nat) (L : List En) (vs : List Value), evResults P s l h n = some ⟨vs, h1, n1, L⟩ → h1 = h ∧ n1 = n := by
  intro l
  induction l with
  | nil =>
    intro h h1 n n1 L vs hr
    obtain ⟨_, rfl, rfl⟩ := ret_some hr
    exact ⟨rfl, rfl⟩
  | cons r l ih =>
    intro h h1 n n1 L vs hr
    cases r with
    | cell b t =>
      unfold evResults at hr
      obtain ⟨v, h2, n2, L1, L2, e1, e2, _⟩ := bind_some hr
      obtain ⟨us, h3, n3, L3, L4, e3, e4, _⟩ := bind_some e2
      obtain ⟨_, rfl, rfl⟩ := ret_some e4
      obtain ⟨rfl, rfl⟩ := evLoad_same e1
      exact ih _ _ _ _ _ _ e3
    | tmp t =>
      unfold evResults at hr
      obtain ⟨us, h2, n2, L1, L2, e1, e2, _⟩ := bind_some hr
      obtain ⟨_, rfl, rfl⟩ := ret_some e2
      exact ih _ _ _ _ _ _ e1
theorem okCode_of {P : Program} {bad : List FuncId} (hok : okProg P bad = true) {f : FuncId} {fn : Func} {c : Code} (hb : bad.contains f = false) (hf : P.funcs[f]? = some fn) (hc : fn.body = some c) : okCode P c = true := by
  unfold okProg at hok
  rw [List.all_eq_true] at hok
  have := hok (fn, f) (by
    rw [List.mem_iff_getElem?]
    exact ⟨f, by simp [List.getElem?_zipIdx, hf]⟩)
  simp only [hb, hc, Bool.false_or] at this
  exact this
/-- what the list's functions are known for -/
def GlobAt (w : World) : Prop := ∀ g ∈ KG, w.cell? ⟨g.1, g.2.1, none⟩ = some g.2.2
theorem chkG_at {P : Program} {m : Mp} {base : Nat} {h : H} {w : World} (x : WR P m base h w.heap) (g : Gl P m) : ∀ {l : List (Nat × Nat × Value)} {n n1 : Nat} {h1 : H} {u : Unit} {L : List En}, chkG P l h n = some ⟨u, h1, n1, L⟩ → h1 = h ∧ n1 = n ∧ ∀ q ∈ l, w.cell? ⟨q.1, q.2.1, none⟩ = some q.2.2
  | [], n, n1, h1, u, L, hr => by
    obtain ⟨_, rfl, rfl⟩ := ret_some hr
    exact ⟨rfl, rfl, fun q hq => by simp at hq⟩
  | q :: l, n, n1, h1, u, L, hr => by
    unfold chkG at hr
    obtain ⟨v, h2, n2, L1, L2, e1, e2, _⟩ := bind_some hr
    obtain ⟨rfl, rfl, d, v', hd, hc, hv⟩ := rd_at x e1
    by_cases hz : (decide (q.1 < P.globals.size) && sameI v q.2.2) = true
    · rw [if_pos hz] at e2
      simp only [Bool.and_eq_true, decide_eq_true_eq] at hz
      obtain ⟨d', hd', b1, b2⟩ := g q.1 hz.1
      rw [hd] at hd'
      cases hd'
      obtain ⟨r1, r2, r3⟩ := chkG_at x g e2
      refine ⟨r1, r2, fun y hy => ?_⟩
      rcases List.mem_cons.1 hy with e | e
      · subst e
        rw [b1, b2, Nat.zero_add] at hc
        rw [hc]
        have hz2 := hz.2
        cases hv <;> first | (simp [sameI] at hz2; done) | skip
        cases hq : y.2.2 <;> rw [hq] at hz2 <;> first | (simp [sameI] at hz2; done) | skip
        simp [sameI] at hz2
        rw [hz2.1, hz2.2]
      · exact r3 y e
    · rw [if_neg hz] at e2; cases e2
/-- what the library's known functions do in every world -/
def NatKnown (P : Program) (bad : List FuncId) : Prop := ∀ f k, bad.contains f = true → natOf f = some k → (k = 1 → ∀ (b o n c : Nat) (xs : List Int) (cv : Int) (w : World), xs.length = n → (∀ i, i < n → w.cell? ⟨b, o + i, none⟩ = some (.int .u8 (xs.getD i 0))) →
      Calls P f #[.slice (some ⟨b, o, none⟩) n c, .int .u8 cv] w fun e w' => e = .returned (.int .i64 (Lib.indexByte (Lib.bytesOf xs) cv.toNat.toUInt8)) ∧ Below w.heap.size w w') ∧
    (k = 2 → ∀ (s : ByteArray) (c : Nat) (w : World), c ≤ 1000000 → s.size ≤ 1000000 → Calls P f #[.string s, .int .i64 c] w fun e w' => e = .returned (.string ⟨(Lib.repeatL s.data.toList c).toArray⟩) ∧ Below w.heap.size w w') ∧
    (k = 3 → ∀ (args : Array Value) (v : Value) (w : World), args.toList.all scalar = true → natP f args.toList = some v → (∀ m, VR m v v) ∧ Calls P f args w fun e w' => e = .returned v ∧ Below w.heap.size w w') ∧
    (k = 4 → (∀ (v : Value) (w : World), natR f 0 [] = some v → (∀ m, VR m v v) ∧ Calls P f #[.slice none 0 0] w fun e w' => e = .returned v ∧ Below w.heap.size w w') ∧
      ∀ (b o n c : Nat) (cs : List Value) (v : Value) (w : World), cs.length = n * natZ f → cs.all scalar = true → (∀ i v, cs[i]? = some v → w.cell? ⟨b, o + i, none⟩ = some v) → n ≤ c → natR f n cs = some v → (∀ m, VR m v v) ∧ Calls P f #[.slice (some ⟨b, o, none⟩) n c] w fun e w' => e = .returned v ∧ Below w.heap.size w w')
structure Known (P : Program) (bad : List FuncId) : Prop where
  yes : ∀ f, bad.contains f = true → natOf f = none → noPar P f = true → ∀ w, GlobAt w → Calls P f #[] w fun e w' => e = .returned (.bool true) ∧ Below w.heap.size w w'
  nat : NatKnown P bad
theorem u8s_some : ∀ {vs : List Value} {l : List Int}, u8s vs = some l → vs = l.map (Value.int .u8)
  | [], l, h => by cases h; rfl
  | v :: r, l, h => by
    unfold u8s at h
    split at h
    · rename_i heq; cases heq
    · rename_i x r' heq
      cases heq
      split at h
      · rename_i l' hl
        cases h
        rw [u8s_some hl]; rfl
      · cases h
    · cases h
theorem vrs_ints {m : Mp} {k : IntKind} : ∀ {l : List Int} {vs : List Value}, VRs m (l.map (Value.int k)) vs → vs = l.map (Value.int k)
  | [], _, .nil => rfl
  | _ :: l, _, .cons (.int _ _) t => by rw [vrs_ints t]; rfl
theorem arr_ofL {a : Array Value} {l : List Value} (h : a.toList = l) : a = l.toArray := by rw [← h]
theorem VRs.plain {m : Mp} : ∀ {l l' : List Value}, VRs m l l' → l.all scalar = true → l' = l
  | _, _, .nil, _ => rfl
  | _, _, .cons h t, hs => by
    simp only [List.all_cons, Bool.and_eq_true] at hs
    rw [h.scalar hs.1, VRs.plain t hs.2]
theorem nat_sim {P : Program} {bad : List FuncId} {base : Nat} (hk : NatKnown P bad) {f : FuncId} {k : Nat} (hbad : bad.contains f = true) (hf : natOf f = some k) {args : List Value} {args' : Array Value} {h h1 : H} {n n1 : Nat} {v : Value} {L : List En} {m : Mp} {w : World} (hr : evNat f k args h n = some ⟨v, h1, n1, L⟩) (x : WR P m base h w.heap) (hb : base ≤ w.heap.size) (hargs : VRs m args args'.toList) :
    Calls P f args' w fun e w' => ∃ m' v', e = .returned v' ∧ Post P m base n n1 w h1 m' w' ∧ VR m' v v' := by
  have fin : ∀ w', Below w.heap.size w w' → Post P m base n n w h m w' := fun w' bel => by
    refine ⟨Le.refl _, fun _ _ => rfl, ⟨fun b B hB => ?_, x.inj⟩, bel.mono hb⟩
    obtain ⟨d, cs, lo, hi, h1, h2, h3⟩ := x.live b B hB
    exact ⟨d, cs, lo, hi, h1, (bel.block d.blk (Array.getElem?_eq_some_iff.1 h2).1).trans h2, h3⟩
  unfold evNat at hr
  split at hr
  · unfold evNat1 at hr
    split at hr
    · rename_i b off len cap c
      generalize hq : args'.toList = as at hargs
      cases hargs with
      | cons ha hargs =>
      cases hargs with
      | cons hc hargs =>
      cases hargs
      cases hc
      unfold evIdx at hr
      obtain ⟨vs, h2, n2, L1, L2, e1, e2, _⟩ := bind_some hr
      cases ha with
      | @slc _ _ _ _ cap' o' d hd ho _ _ _ _ =>
        obtain ⟨rfl, rfl, hl, vs', hvs, hcs⟩ := rdN_at x hd e1
        cases hu : u8s vs with
        | none => rw [hu] at e2; cases e2
        | some l =>
          rw [hu] at e2
          obtain ⟨rfl, rfl, rfl⟩ := ret_some e2
          have hvl := u8s_some hu
          rw [hvl] at hvs hl
          have hv' := vrs_ints hvs
          rw [hv'] at hcs
          simp only [List.length_map] at hl
          rw [arr_ofL hq]
          refine ((hk f 1 hbad hf).1 rfl d.blk o' len cap' l c w hl fun i hi => ?_).mono ?_
          · rw [ho (.inl (by omega))]
            exact hcs i _ (by rw [List.getElem?_map, List.getElem?_eq_getElem (by omega), List.getD_eq_getElem?_getD, List.getElem?_eq_getElem (by omega)]; rfl)
          · rintro e w' ⟨rfl, bel⟩
            exact ⟨m, _, rfl, fin w' bel, .int _ _⟩
    · cases hr
  · unfold evNat2 at hr
    split at hr
    · rename_i s c
      generalize hq : args'.toList = as at hargs
      cases hargs with
      | cons ha hargs =>
      cases hargs with
      | cons hc hargs =>
      cases hargs
      cases hc
      cases ha
      unfold evRep at hr
      split at hr
      · rename_i hz
        simp only [Bool.and_eq_true, decide_eq_true_eq] at hz
        obtain ⟨rfl, rfl, rfl⟩ := ret_some hr
        rw [arr_ofL hq]
        obtain ⟨c, rfl⟩ : ∃ k : Nat, c = k := ⟨c.toNat, by omega⟩
        refine ((hk f 2 hbad hf).2.1 rfl s c w (by omega) hz.2).mono ?_
        rintro e w' ⟨rfl, bel⟩
        exact ⟨m, _, rfl, fin w' bel, by rw [Int.toNat_natCast]; exact .string _⟩
      · cases hr
    · cases hr
  · unfold evNat3 at hr
    split at hr
    · rename_i hs
      obtain ⟨hv, rfl, rfl⟩ := lift_some hr
      have e := hargs.plain hs
      rw [← e] at hs hv
      obtain ⟨q1, q2⟩ := (hk f 3 hbad hf).2.2.1 rfl args' v w hs hv
      refine q2.mono ?_
      rintro e w' ⟨rfl, bel⟩
      exact ⟨m, _, rfl, fin w' bel, q1 m⟩
    · cases hr
  · unfold evNat4 at hr
    split at hr
    · generalize hq : args'.toList = as at hargs
      cases hargs with
      | cons ha hargs =>
      cases hargs
      cases ha
      obtain ⟨hv, rfl, rfl⟩ := lift_some hr
      rw [arr_ofL hq]
      obtain ⟨q1, q2⟩ := ((hk f 4 hbad hf).2.2.2 rfl).1 v w hv
      refine q2.mono ?_
      rintro e w' ⟨rfl, bel⟩
      exact ⟨m, _, rfl, fin w' bel, q1 m⟩
    · rename_i b off len cap
      generalize hq : args'.toList = as at hargs
      cases hargs with
      | cons ha hargs =>
      cases hargs
      obtain ⟨vs, h2, n2, L1, L2, e1, e2, _⟩ := bind_some hr
      cases ha with
      | @slc _ _ _ _ cap' o' d hd ho hc1 hc2 hn _ =>
        obtain ⟨rfl, rfl, hl, vs', hvs, hcs⟩ := rdN_at x hd e1
        split at e2
        · rename_i hs
          obtain ⟨hv, rfl, rfl⟩ := lift_some e2
          have e := hvs.plain hs
          subst e
          rw [arr_ofL hq]
          obtain ⟨q1, q2⟩ := ((hk f 4 hbad hf).2.2.2 rfl).2 d.blk o' len cap' vs' v w hl hs (fun i u hu => by
            have hi := (List.getElem?_eq_some_iff.1 hu).1
            have h0 : 0 < len := by
              rcases Nat.eq_zero_or_pos len with q | q
              · rw [q, Nat.zero_mul] at hl; omega
              · exact q
            rw [ho (.inl h0)]
            exact hcs i u hu) hn hv
          refine q2.mono ?_
          rintro e w' ⟨rfl, bel⟩
          exact ⟨m, _, rfl, fin w' bel, q1 m⟩
        · cases e2
    · cases hr
  · cases hr
theorem call_sim {P : Program} {base : Nat} {bad : List FuncId} (hnm : okNames P = true) (hok : okProg P bad = true) (hmix : P.follows .mixedOrders = true) (hkn : Known P bad) : ∀ fuel, CallSim P base (evCall P bad fuel) := by
  have hop : OpSim P base := op_sim hnm
  intro fuel
  induction fuel with
  | zero => intro f args h n v h1 n1 L m w args' hr; cases hr
  | succ fuel ih =>
    intro f args h n v h1 n1 L m w args' hr x hb hargs hf g
    unfold evCall at hr
    by_cases hbad : bad.contains f = true
    · rw [if_pos hbad] at hr
      cases hnat : natOf f with
      | some k =>
        rw [hnat] at hr
        exact nat_sim hkn.nat hbad hnat hr x hb hargs
      | none =>
      rw [hnat] at hr
      simp only at hr
      by_cases hz : (decide (args.size = 0) && noPar P f) = true
      · rw [if_pos hz] at hr
        simp only [Bool.and_eq_true, decide_eq_true_eq] at hz
        obtain ⟨u, h2, n2, L1, L2, c1, c2, _⟩ := bind_some hr
        obtain ⟨rfl, rfl, hglob⟩ := chkG_at x g c1
        obtain ⟨rfl, rfl, rfl⟩ := ret_some c2
        have hl := hargs.length
        have e1 : args' = #[] := by
          apply Array.eq_empty_of_size_eq_zero
          simp at hl
          omega
        subst e1
        refine (hkn.yes f hbad hnat hz.2 w hglob).mono ?_
        rintro e w' ⟨rfl, bel⟩
        refine ⟨m, _, rfl, ⟨Le.refl _, fun _ _ => rfl, ⟨fun b B hB => ?_, x.inj⟩, bel.mono hb⟩, .bool true⟩
        obtain ⟨d, cs, lo, hi, h1, h2, h3⟩ := x.live b B hB
        exact ⟨d, cs, lo, hi, h1, (bel.block d.blk (Array.getElem?_eq_some_iff.1 h2).1).trans h2, h3⟩
      · rw [if_neg hz] at hr; cases hr
    rw [if_neg hbad] at hr
    cases hfn : P.funcs[f]? with
    | none => rw [hfn] at hr; cases hr
    | some fn =>
      rw [hfn] at hr
      simp only at hr
      cases hc : fn.body with
      | none => rw [hc] at hr; cases hr
      | some c =>
        rw [hc] at hr
        simp only at hr
        by_cases hcond : (args.size ≤ fn.ntmps && fn.ntmps < 1000) = true
        · rw [if_pos hcond] at hr
          simp only [Bool.and_eq_true, decide_eq_true_eq] at hcond
          obtain ⟨L', hr⟩ := inside_some hr
          obtain ⟨y, h2, n2, L1, L2, e1, e2, _⟩ := bind_some hr
          obtain ⟨e, s1⟩ := y
          have hokc : okCode P c = true := okCode_of hok (Bool.eq_false_iff.2 hbad) hfn hc
          have hrl := fun f a => Loc.evCall P bad fuel f a
          refine calls_of_wp hfn hc ?_
          have fin : ∀ (e' : Ex) (hn : cv e' = .normal ∨ cv e' = .ret) (heq : e = e'), ((evResults P s1 fn.results.toList).bind fun vs => M.ret (match vs with | [v] => v | _ => .tuple vs.toArray)) h2 n2 = some ⟨v, h1, n1, L2⟩ →
              c.wp P (bodyPost P fn fun e w' => ∃ m' v', e = .returned v' ∧ Post P m base n n1 w h1 m' w' ∧ VR m' v v') { tmps := args' ++ Array.replicate (fn.ntmps - args'.size) undef, defers := [] } w := by
            intro e' hn heq e3
            subst heq
            obtain ⟨vs, h3, n3, L3, L4, e4, e5, _⟩ := bind_some e3
            obtain ⟨rfl, rfl, rfl⟩ := ret_some e5
            obtain ⟨rfl, rfl⟩ := evResults_same _ _ _ _ _ _ _ e4
            refine code_sim hop ih hrl hmix fuel c hokc _ m _ s1 _ w h _ n _ L1 e x hb g (args_sr hargs hcond.1 hcond.2) e1 hf fun m' a' w' hp hs' => ?_
            obtain ⟨vs', hvs, hrun⟩ := results_at hs' _ _ _ _ _ _ _ w' hp.wr e4
            have hres : (results fn a'.tmps).run P w' = .ok (if h : vs'.toArray.size = 1 then vs'.toArray[0] else .tuple vs'.toArray) w' := by
              unfold results
              rw [Array.mapM_eq_mapM_toList]
              simp only [map_eq_pure_bind, bind_assoc, pure_bind, Sem.run_bind]
              refine Eq.trans (congrArg (fun r => Result.andThen r _) hrun) ?_
              simp only [Result.andThen, Sem.run_pure]
            have hval : VR m' (match vs with | [v] => v | _ => .tuple vs.toArray) (if h : vs'.toArray.size = 1 then vs'.toArray[0] else .tuple vs'.toArray) := by
              cases hvs with
              | nil => exact .tuple .nil
              | cons hv ht =>
                cases ht with
                | nil => exact hv
                | cons hv2 ht2 => exact .tuple (.cons hv (.cons hv2 ht2))
            have : bodyPost P fn (fun e w' => ∃ m' v', e = .returned v' ∧ Post P m base n n1 w h1 m' w' ∧ VR m' (match vs with | [v] => v | _ => .tuple vs.toArray) v') (cv e) a' w' := by
              rcases hn with hn | hn <;> rw [hn] <;> exact ⟨hs'.df, _, hres, m', _, rfl, hp, hval⟩
            exact this
          cases e with
          | normal => exact fin .normal (.inl rfl) rfl e2
          | ret => exact fin .ret (.inr rfl) rfl e2
          | exit id => cases e2
        · rw [if_neg hcond] at hr; cases hr

/-! what a closed call yields -/
def yieldsTrue (r : Option (Out Value)) : Bool := match r with
  | some o => (match o.val with | .bool b => b | _ => false)
  | none => false
theorem closed_call {P : Program} {bad : List FuncId} (hnm : okNames P = true) (hok : okProg P bad = true) (hmix : P.follows .mixedOrders = true) (hkn : Known P bad) {fuel : Nat} {f : FuncId} (hr : yieldsTrue (evCall P bad fuel f #[] .nil P.globals.size) = true) (w : World) :
    Calls P f #[] w fun e w' => e = .returned (.bool true) ∧ Below w.heap.size w w' := by
  unfold yieldsTrue at hr
  split at hr
  · rename_i o ho
    obtain ⟨v, h1, n1, L⟩ := o
    simp only at hr
    split at hr
    · rename_i b hb
      subst hr
      let m0 : Mp := fun g => if g < P.globals.size then some ⟨g, 0, 0, 0, 0⟩ else none
      have hnil : ∀ b B, ¬ (H.get (.nil : H) b = some B) := fun b B hg => by
        unfold H.get at hg; rw [Tr.get_nil] at hg; cases hg
      refine (call_sim hnm hok hmix hkn fuel f #[] .nil P.globals.size _ h1 n1 L m0 w #[] ho ⟨fun b B hg => absurd hg (hnil b B), fun b b' B B' d d' hg => absurd hg (hnil b B)⟩ (Nat.le_refl w.heap.size) .nil (fun b h1 h2 => if_neg (by omega)) (fun g hg => ⟨⟨g, 0, 0, 0, 0⟩, if_pos hg, rfl, rfl⟩)).mono ?_
      rintro e w' ⟨m', v', rfl, hp, hv⟩
      refine ⟨?_, hp.below⟩
      cases hv
      rfl
    · cases hr
  · cases hr

end Go.Proofs.YtmjolmggelkjlaaGreat.Ev

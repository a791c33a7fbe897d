import Derived.Test.YtdagfcflbphoiaaGreatDoorMbd
namespace Go.Proofs.YtdagfcflbphoiaaGreatDoor
set_option linter.unusedVariables false
set_option linter.unusedSimpArgs false
open Go.RowKit Ev Cn

def runS : Nat → List (List Nat) → List Nat → Nat → List Bool → Int → List Int → Nat → Rs
  | 0, _, _, _, _, _, _, _ => .err 3
  | N + 1, codes, took, size, bs, most, out, a => if took.length ≤ out.length / 50 then .err 25 else
    match getC (codes.getD (took.getD (out.length / 50) 0) []) bs with
    | none => .err 3
    | some s => if (out.length : Int) = most then .err 2 else
      if s + 1 = size then .ok (out ++ [(s : Int)]) (a + (codes.getD (took.getD (out.length / 50) 0) []).getD s 0)
      else runS N codes took size (bs.drop ((codes.getD (took.getD (out.length / 50) 0) []).getD s 0)) most (out ++ [(s : Int)]) (a + (codes.getD (took.getD (out.length / 50) 0) []).getD s 0)
def ref14 (size : Nat) (bs : List Bool) (most : Int) : Rs :=
  match runP (bs.length + 1) pk0 bs 0 with
  | .short => .err 3
  | .bad e => .err e
  | .ok s a => match runTs s.t size (bs.drop a) 0 [] with
    | .short => .err 3
    | .bad e => .err e
    | .ok lns u => runS (bs.length + 1) lns s.picks size (bs.drop (a + u)) most [] (a + u)
def P25 (n : Nat) (r : Rs) (held : Int) (v' : Value) (h' : H) (n' : Nat) : Prop := ∃ (ov : Value) (u hd e : Int), v' = .agg #[ov, .int .i64 u, .int .i64 hd, .int .i64 e] ∧
  match r with
  | .err e0 => e = e0 ∧ ov = .slice none 0 0 ∧ u = 0
  | .ok out a => e = 0 ∧ u = (a : Int) ∧ Own h' n n' 3 ov (intsV .i64 out) ∧ hd = held
section
variable {β : Type} {W : Nat → Prop} {n0 : Nat} {h : H} {n m : Nat} {Q : β → H → Nat → Prop} {P : Program}
theorem zbtt {t : TypeId} {z : Value} (hz : zero? P t = some z) (k : Value × Tk → M β) (hm : m ≤ n) (x : ∀ T, RB T m → Run W n0 (k (.pointer (some ⟨n, 0, none⟩), T)) (h.set n (some ⟨t, true, z.cells.toList⟩)) (n + 1) Q) : Run W n0 ((timed ((inside (evAlloc P t)).bind fun v => M.ret v)).bind k) h n Q := by
  have e : evAlloc P t h n = some ⟨.pointer (some ⟨n, 0, none⟩), h.set n (some ⟨t, true, z.cells.toList⟩), n + 1, []⟩ := by
    unfold evAlloc
    rw [hz]
    exact zaas (zagw _ _ _ _) rfl
  exact zajo (zajl (zabe e)) (Nat.le_succ n) (by simp) (x _ ⟨by simp, by simp, hm⟩)
end
section
variable {lf d n : Nat} {h : H}
theorem zcfs {l : List Bool} (hl : l.length ≤ 1000000) (hlf : 3000000 ≤ lf) {size T : Nat} (hs3 : 3 ≤ size) (hsz : size ≤ 258) {lns : List (List Nat)} {took : List Nat} (most : Int) (hw : ∀ ln ∈ lns, Wh ln ∧ ln.length = size) (htk : ∀ v ∈ took, v < lns.length) (hT : lns.length = T) (hT6 : T ≤ 6) (htl : took.length ≤ 40000)
    {q1 q2 lo : Nat} {pv tv : Value} {x1 x2 x3 y1 y2 : Int} (hq : n + 1 ≤ lo) (hq1 : q1 < lo ∧ n < q1) (hq2 : q2 < lo ∧ n < q2) :
    ∀ (N fu : Nat) (h' : H) (n' : Nat) (ov : Value) (out : List Int) (a : Nat), lo ≤ n' → h'.get n = some ⟨49, true, [.slice none 0 0, .int .i64 0, .int .i64 0, .int .i64 0]⟩ → h'.get q1 = some ⟨88, true, [pv, .int .i64 (T : Int), .int .i64 x2, .int .i64 x3, .int .i64 0]⟩ → h'.get q2 = some ⟨91, true, [tv, .int .i64 y1, .int .i64 0]⟩ → Row h' lo 3 .i64 pv (iN took) → TT h' 0 lo tv lns →
      (l.drop a).length < N → N ≤ fu → a ≤ l.length → out.length + (l.drop a).length ≤ 1000000 → Own h' lo n' 3 ov (intsV .i64 out) →
      Run (fun _ => False) n (zahi lf (d + 4) fu (zadw lf (d + 4)) (tx l) (.int .i64 (size : Int)) (.int .i64 most) (.pointer (some ⟨n, 0, none⟩)) (.pointer (some ⟨q1, 0, none⟩)) (.pointer (some ⟨q2, 0, none⟩)) (.int .i64 (a : Int)) ov (.bool false) (.bool false)) h' n' (P25 n (runS N lns took size (l.drop a) most out a) ((took.length + T * size : Nat) : Int)) := by
  intro N
  induction N with
  | zero => intro fu h' n' ov out a _ _ _ _ _ _ hN; omega
  | succ N ih =>
    intro fu h' n' ov out a hn' g g1 g2 rp tt hN hfu hal hol og
    obtain ⟨fu, rfl⟩ : ∃ f, fu = f + 1 := ⟨fu - 1, by omega⟩
    have agg : agg? Tryz.prog 49 = some true := by kernel_rfl
    obtain ⟨oa, oc, rfl⟩ := og.row.len
    have hil := zadn took
    have hdl : (l.drop a).length = l.length - a := List.length_drop
    have hq1n : q1 < n' := by omega
    have hq2n : q2 < n' := by omega
    have e50 : ((out.length : Nat) : Int).tdiv 50 = ((out.length / 50 : Nat) : Int) := rfl
    have w50 : IntKind.i64.wrap ((out.length / 50 : Nat) : Int) = ((out.length / 50 : Nat) : Int) := zaav (by omega) (by omega)
    -- what goes wrong
    have err : ∀ (e : Int) (k : Value → M Value), (∀ h1 : H, h1.get n = some ⟨49, true, [.slice none 0 0, .int .i64 0, .int .i64 0, .int .i64 e]⟩ → Run (fun _ => False) n (k undef) h1 n' (P25 n (.err e) ((took.length + T * size : Nat) : Int))) → Run (fun _ => False) n ((inside (evStore Tryz.prog 49 (.pointer (some ⟨n, 0, none⟩)) (.agg #[.slice none 0 0, .int .i64 0, .int .i64 0, .int .i64 e]))).bind k) h' n' (P25 n (.err e) ((took.length + T * size : Nat) : Int)) := fun e k hk =>
      zabp sz49 (vs := [.slice none 0 0, .int .i64 0, .int .i64 0, .int .i64 e]) rfl rfl rfl g (by omega) (.inl (Nat.le_refl _)) _ fun h1 g1 k1 => hk h1 g1
    rw [zbbp]
    unfold runS
    by_cases hb : took.length ≤ out.length / 50
    · obtain ⟨pa, pc, rfl⟩ := rp.len
      have c1 : (((iN took).length : Nat) : Int) ≤ ((out.length / 50 : Nat) : Int) := by omega
      try simp (disch := first | omega | assumption | exact zaae _ _ | exact zaab _ _ _ | exact zaaf _ | exact zaad _ | exact zaaa _) only [Nat.reduceAdd, Nat.reduceLT, RZ, g1, e50, w50, c1]
      rw [if_pos hb]
      refine err 25 _ fun h1 g1 => ?_
      rw [zbcy]
      exact zabs agg sz49 g1 rfl (by omega) ⟨_, _, _, _, rfl, rfl, rfl, rfl⟩
    · rw [if_neg hb]
      obtain ⟨b, off, cap, o, ks, rfl, hg, hbn, hv⟩ := rp.some (by omega)
      have c1 : ¬ (((iN took).length : Nat) : Int) ≤ ((out.length / 50 : Nat) : Int) := by omega
      obtain ⟨tab, htab⟩ : ∃ t, took.getD (out.length / 50) 0 = t := ⟨_, rfl⟩
      have hv4 : ks[off + out.length / 50]? = some (.int .i64 (tab : Int)) := by
        rw [hv.2.2.2 _ (by omega), iN_at, htab]
      have hbn' : b < n' := by omega
      have htl2 : tab < lns.length := by
        refine htk tab ?_
        rw [← htab, List.getD_eq_getElem?_getD, List.getElem?_eq_getElem (by omega)]
        exact List.getElem_mem _
      obtain ⟨cs, otv, hcl, hcs⟩ := tt
      obtain ⟨bt, e1, gt1, _, hbt⟩ := hcs tab htl2
      obtain ⟨btv, htv, gtv, _, hbtv⟩ : ∃ b, tv = .slice (some ⟨b, 0, none⟩) cs.length (CAP + cs.length) ∧ h'.get b = some ⟨82, true, cs⟩ ∧ 0 ≤ b ∧ b < lo := by
        rcases otv with ⟨_, e⟩ | ⟨b, p1, p2, p3, p4⟩
        · rw [e] at hcl
          have : lns.length = 0 := hcl.symm
          omega
        · exact ⟨b, p1, p2, p3, p4⟩
      subst htv
      have hcell : cs[tab]? = some (.slice (some ⟨bt, 0, none⟩) (lns.getD tab []).length (lns.getD tab []).length) := by
        rw [← e1, List.getD_eq_getElem?_getD, List.getElem?_eq_getElem (by omega)]
        rfl
      have hmem : lns.getD tab [] ∈ lns := by
        rw [List.getD_eq_getElem?_getD, List.getElem?_eq_getElem htl2]
        exact List.getElem_mem _
      obtain ⟨ln, hln⟩ : ∃ l, lns.getD tab [] = l := ⟨_, rfl⟩
      rw [htab, hln]
      rw [hln] at hcell gt1 hmem
      obtain ⟨wln, lsz⟩ := hw ln hmem
      have hti : (tab : Int) < ((cs.length : Nat) : Int) := by omega
      have hbtv' : btv < n' := by omega
      have s1 := fun (k : Value → M Value) => tx_lo l .i64 (a : Int) k (by omega) (by omega)
      rw [Int.toNat_natCast] at s1
      try simp (disch := first | omega | assumption | exact zaae _ _ | exact zaab _ _ _ | exact zaaf _ | exact zaad _ | exact zaaa _) only [Nat.reduceAdd, Nat.reduceLT, RZ, g1, g2, e50, w50, c1, hg, hv4, gtv, hcell, s1]
      refine zaaw (zcju (lf := lf) (d := d + 2) wln (l.drop a) gt1 (by omega) (by omega) (by omega)) (by omega) (fun _ _ h => h.elim) ?_
      cases hgc : getC ln (l.drop a) with
      | none =>
        have c2 : decide (getI (none : Option Nat) < 0) = true := rfl
        try simp (disch := first | omega | assumption | exact zaae _ _ | exact zaab _ _ _ | exact zaaf _ | exact zaad _ | exact zaaa _) only [Nat.reduceAdd, Nat.reduceLT, RZ, c2]
        refine err 3 _ fun h1 g1 => ?_
        rw [zbeo]
        exact zabs agg sz49 g1 rfl (by omega) ⟨_, _, _, _, rfl, rfl, rfl, rfl⟩
      | some s =>
        obtain ⟨m1, m2, m3⟩ := zbcc hgc
        have c2 : decide (getI (some s) < 0) = false := decide_eq_false (by show ¬ ((s : Int) < 0); omega)
        by_cases hm : (out.length : Int) = most
        · have c3 : (((out.length : Nat) : Int) == most) = true := beq_iff_eq.2 hm
          try simp (disch := first | omega | assumption | exact zaae _ _ | exact zaab _ _ _ | exact zaaf _ | exact zaad _ | exact zaaa _) only [Nat.reduceAdd, Nat.reduceLT, RZ, c2, c3]
          rw [if_pos hm]
          refine err 2 _ fun h1 g1 => ?_
          rw [zbdm]
          exact zabs agg sz49 g1 rfl (by omega) ⟨_, _, _, _, rfl, rfl, rfl, rfl⟩
        · have c3 : (((out.length : Nat) : Int) == most) = false := beq_eq_false_iff_ne.2 hm
          have gi : getI (some s) = (s : Int) := rfl
          have htx := zcax m1
          have hsl : ((s : Nat) : Int) < ((ln.length : Nat) : Int) := by omega
          have hbt' : bt < n' := by omega
          obtain ⟨u, hu⟩ : ∃ u, ln.getD s 0 = u := ⟨_, rfl⟩
          have hul := (wln.at m1)
          rw [hu] at hul m2 htx
          have hfl : (fieldB (codeC ln s) u).length = u := zabh _ _
          have c4 : decide (((s : Nat) : Int) < 0) = false := decide_eq_false (by omega)
          have e2 : (((s : Nat) : Int) == (size : Int) - 1) = decide (s + 1 = size) := by
            by_cases q : s + 1 = size
            · rw [decide_eq_true q]; exact beq_iff_eq.2 (by omega)
            · rw [decide_eq_false q]; exact beq_eq_false_iff_ne.2 (by omega)
          try simp (disch := first | omega | assumption | exact zaae _ _ | exact zaab _ _ _ | exact zaaf _ | exact zaad _ | exact zaaa _) only [Nat.reduceAdd, Nat.reduceLT, RZ, c4, c3, gi, gt1, htx, zacs, hfl, e2]
          rw [if_neg hm, hu]
          refine zalx c1x22 (zaae _ _) og (by rw [zabm]; omega) (fun b hb => .inl (by have := (og.lt hb).1; omega)) _ fun h2 g3 k3 => ?_
          have un : ∀ b, b < lo → h2.get b = h'.get b := fun b hb => k3 b (by omega) fun q => by have := (og.lt q).1; omega
          have g13 := (un q1 (by omega)).trans g1
          have g23 := (un q2 (by omega)).trans g2
          have gn3 := (un n (by omega)).trans g
          have on : intsV .i64 (out ++ [(s : Int)]) = intsV .i64 out ++ [.int .i64 ((s : Nat) : Int)] := by rw [zall]; rfl
          have oo : Own h2 lo (n' + 2) 3 (.slice (some ⟨n' + 1, 0, none⟩) ((intsV .i64 out).length + 1) (CAP + ((intsV .i64 out).length + 1))) (intsV .i64 (out ++ [(s : Int)])) := by
            rw [on]
            exact .inr ⟨n' + 1, by simp, g3, by omega, by omega⟩
          by_cases hsz2 : s + 1 = size
          · have hT7 : T * size ≤ 6 * 258 := Nat.mul_le_mul hT6 hsz
            have w1 : IntKind.i64.wrap ((T : Int) * (size : Int)) = ((T * size : Nat) : Int) := by
              rw [show (T : Int) * (size : Int) = ((T * size : Nat) : Int) by push_cast; rfl, zaav (by omega) (by omega)]
            have w2 : IntKind.i64.wrap ((((iN took).length : Nat) : Int) + ((T * size : Nat) : Int)) = ((took.length + T * size : Nat) : Int) := by rw [zaav (by omega) (by omega)]; omega
            have hq1n2 : q1 < n' + 2 := by omega
            rw [decide_eq_true hsz2]
            try simp (disch := first | omega | assumption | exact zaae _ _ | exact zaab _ _ _ | exact zaaf _ | exact zaad _ | exact zaaa _) only [Nat.reduceAdd, Nat.reduceLT, RZ, g13, w1, w2]
            refine zabp sz49 (vs := [.slice (some ⟨n' + 1, 0, none⟩) ((intsV .i64 out).length + 1) (CAP + ((intsV .i64 out).length + 1)), .int .i64 ((a : Int) + (u : Int)), .int .i64 ((took.length + T * size : Nat) : Int), .int .i64 0]) rfl rfl rfl gn3 (by omega) (.inl (Nat.le_refl _)) _ fun h5 g5 k5 => ?_
            rw [zbdk]
            refine zabs agg sz49 g5 rfl (by omega) ?_
            rw [if_pos hsz2]
            exact ⟨_, _, _, _, rfl, rfl, by omega, (oo.keep (Nat.le_refl _) fun b hb => k5 b (by have := (oo.lt hb).1; omega)).low (by omega), rfl⟩
          · rw [decide_eq_false hsz2]
            try simp (disch := first | omega | assumption | exact zaae _ _ | exact zaab _ _ _ | exact zaaf _ | exact zaad _ | exact zaaa _) only [Nat.reduceAdd, Nat.reduceLT, RZ]
            rw [if_neg hsz2]
            have := ih fu h2 (n' + 2) _ (out ++ [(s : Int)]) (a + u) (by omega) gn3 g13 g23 (rp.keep' (Nat.le_refl _) fun c hc => un c (rp.lt hc)) (TT.keep ⟨cs, otv, hcl, hcs⟩ (Nat.le_refl _) fun b _ hb => un b hb) (by rw [List.length_drop]; omega) (by omega) (by omega) (by rw [List.length_append, List.length_drop]; simp only [List.length_cons, List.length_nil]; omega) oo
            rw [← List.drop_drop] at this
            first | exact this | (rw [show (a : Int) + (u : Int) = ((a + u : Nat) : Int) by omega]; exact this)
theorem zbld {size : Nat} : ∀ (t : Nat) (bs : List Bool) (a : Nat) (acc lns : List (List Nat)) (a' : Nat), (∀ ln ∈ acc, Wh ln ∧ ln.length = size) → runTs t size bs a acc = .ok lns a' → (∀ ln ∈ lns, Wh ln ∧ ln.length = size) ∧ lns.length = acc.length + t ∧ a ≤ a' ∧ a' ≤ a + bs.length
  | 0, bs, a, acc, lns, a', k, h => by
    simp only [runTs, St.ok.injEq] at h
    obtain ⟨rfl, rfl⟩ := h
    exact ⟨k, rfl, Nat.le_refl _, Nat.le_add_right _ _⟩
  | t + 1, bs, a, acc, lns, a', k, h => by
    unfold runTs at h
    split at h
    · cases h
    · cases h
    · next ln u h1 =>
      have ok := zbbi _ _ _ _ _ _ _ ⟨Nat.zero_le _, Nat.zero_le _, fun x hx => absurd hx (by simp)⟩ h1
      split at h
      · next hs =>
        have := zbld t (bs.drop u) (a + u) (acc ++ [ln]) lns a' (fun l hl => by
          rcases List.mem_append.1 hl with hl | hl
          · exact k l hl
          · simp only [List.mem_singleton] at hl
            subst hl
            exact ⟨wh_of ok.2.1 hs, ok.1⟩) h
        rw [List.length_append, List.length_drop] at this
        simp only [List.length_cons, List.length_nil] at this
        exact ⟨this.1, by omega, by omega, by omega⟩
      · cases h
theorem zbji : ∀ (N : Nat) (s : Pk) (bs : List Bool) (a : Nat) (s' : Pk) (a' : Nat), s.Ok → s.t ≤ 6 → s.ord.length = 6 → s.count < 32768 → runP N s bs a = .ok s' a' → s'.Ok ∧ s'.t ≤ 6 ∧ s'.fin = true ∧ s'.count < 32768 ∧ a ≤ a' ∧ a' ≤ a + bs.length
  | 0, s, bs, a, s', a', _, _, _, _, h => by simp [runP] at h
  | N + 1, s, bs, a, s', a', ok, h6, ho, hc, h => by
    unfold runP at h
    split at h
    · next hf =>
      simp only [St.ok.injEq] at h
      obtain ⟨rfl, rfl⟩ := h
      exact ⟨ok, h6, hf, hc, Nat.le_refl _, Nat.le_add_right _ _⟩
    · next hf =>
      have hf : s.fin = false := by simpa using hf
      split at h
      · cases h
      · cases h
      · next s1 u h1 =>
        obtain ⟨k1, k2, k3⟩ := zbkn ok h6 ho hf h1
        have kk : s1.t ≤ 6 ∧ s1.ord.length = 6 ∧ s1.count < 32768 := by
          unfold stepP at h1
          split at h1
          · split at h1
            · cases h1
            · split at h1
              · next hc1 =>
                simp only [St.ok.injEq] at h1
                obtain ⟨rfl, _⟩ := h1
                exact ⟨hc1.1.2, ho, Nat.mod_lt _ (by decide)⟩
              · cases h1
          · split at h1
            · cases h1
            · cases h1
            · next o u2 h5 =>
              simp only [St.ok.injEq] at h1
              obtain ⟨rfl, _⟩ := h1
              have := (zayp h5).2
              exact ⟨h6, zaww (dv := 0) ho (by omega), hc⟩
        have := zbji N s1 (bs.drop u) (a + u) s' a' k1 kk.1 kk.2.1 kk.2.2 h
        rw [List.length_drop] at this
        obtain ⟨q1, q2, q3, q4, q5, q6⟩ := this
        exact ⟨q1, q2, q3, q4, by omega, by omega⟩
theorem zcbl : pk0.Ok := ⟨fun _ => ⟨rfl, rfl⟩, fun j hj => absurd hj (Nat.not_lt_zero j), fun x hx => absurd hx (by simp [pk0]), fun e => absurd rfl e, fun e => absurd rfl e⟩
end
end Go.Proofs.YtdagfcflbphoiaaGreatDoor

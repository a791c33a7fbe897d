import Derived.Test.YtdagfcflbphoiaaGreatDoorMbc
namespace Go.Proofs.YtdagfcflbphoiaaGreatDoor
set_option linter.unusedVariables false
set_option linter.unusedSimpArgs false
open Go.RowKit Ev Cn

theorem zbbi {size : Nat} : ∀ (N now : Nat) (lens : List Nat) (bs : List Bool) (a : Nat) (ln : List Nat) (a' : Nat), LnOk size now lens → runD N size now lens bs a = .ok ln a' → ln.length = size ∧ (∀ x ∈ ln, 1 ≤ x ∧ x ≤ 20) ∧ a ≤ a' ∧ a' ≤ a + bs.length
  | 0, _, _, _, _, _, _, _, h => by simp [runD] at h
  | N + 1, now, lens, bs, a, ln, a', k, h => by
    unfold runD at h
    split at h
    · next e =>
      simp only [St.ok.injEq] at h
      obtain ⟨rfl, rfl⟩ := h
      exact ⟨e, k.all, Nat.le_refl _, Nat.le_add_right _ _⟩
    · next e =>
      split at h
      · cases h
      · cases h
      · next m l u h1 =>
        have k2 := zbej k (Nat.lt_of_le_of_ne k.len e) h1
        have us := zawo h1
        have := zbbi N m l (bs.drop u) (a + u) ln a' k2 h
        rw [List.length_drop] at this
        exact ⟨this.1, this.2.1, by omega, by omega⟩
def runTs : Nat → Nat → List Bool → Nat → List (List Nat) → St (List (List Nat))
  | 0, _, _, a, acc => .ok acc a
  | t + 1, size, bs, a, acc => match runD (bs.length + 1) size 0 [] bs 0 with
    | .short => .short
    | .bad e => .bad e
    | .ok ln u => if shrL (iN ln) = 1048576 then runTs t size (bs.drop u) (a + u) (acc ++ [ln]) else .bad 22
def TT (h : H) (lo n : Nat) (v : Value) (lns : List (List Nat)) : Prop := ∃ cs, Own h lo n 82 v cs ∧ cs.length = lns.length ∧ ∀ i, i < lns.length → ∃ b, cs.getD i undef = .slice (some ⟨b, 0, none⟩) (lns.getD i []).length (lns.getD i []).length ∧ h.get b = some ⟨9, true, txC (lns.getD i [])⟩ ∧ lo ≤ b ∧ b < n
theorem TT.nil (h : H) (lo n : Nat) : TT h lo n (.slice none 0 0) [] := ⟨[], Own.nil _ _ _ _, rfl, fun i hi => absurd hi (Nat.not_lt_zero i)⟩
theorem TT.keep {h h' : H} {lo n n' : Nat} {v : Value} {lns : List (List Nat)} (x : TT h lo n v lns) (hn : n ≤ n') (hk : ∀ b, lo ≤ b → b < n → h'.get b = h.get b) : TT h' lo n' v lns := by
  obtain ⟨cs, o, hl, ht⟩ := x
  refine ⟨cs, o.keep hn fun b hb => hk b (o.lt hb).1 (o.lt hb).2, hl, fun i hi => ?_⟩
  obtain ⟨b, e, g, h1, h2⟩ := ht i hi
  exact ⟨b, e, (hk b h1 h2).trans g, h1, by omega⟩
theorem TT.len {h : H} {lo n : Nat} {v : Value} {lns : List (List Nat)} (x : TT h lo n v lns) : ∃ a c, v = .slice a lns.length c := by
  obtain ⟨cs, o, hl, ht⟩ := x
  rcases o with ⟨e1, e2⟩ | ⟨b, e1, _⟩
  · subst e2
    exact ⟨none, 0, by rw [e1, ← hl]; rfl⟩
  · exact ⟨_, _, by rw [e1, hl]⟩
def P14 (n : Nat) (r : St (List (List Nat))) (v' : Value) (h' : H) (n' : Nat) : Prop := ∃ (tv : Value) (u e : Int), v' = .agg #[tv, .int .i64 u, .int .i64 e] ∧ (∃ a l c, tv = .slice a l c) ∧
  match r with
  | .short => e = 3
  | .bad e0 => e0 = 22 ∧ e = 22
  | .ok lns a0 => e = 0 ∧ u = (a0 : Int) ∧ TT h' n n' tv lns
section
variable {lf d n : Nat} {h : H}
theorem zcet {v : Value} {ln : List Nat} (hR : Row h n 3 .i64 v (iN ln)) (ha : ∀ x ∈ ln, 1 ≤ x ∧ x ≤ 20) (hl : ln.length ≤ 258) (hlf : 3000000 ≤ lf) : Run (fun _ => False) n (zaac Tryz.prog gt lf (d + 2) 89 #[v]) h n fun v' h' n' => v' = .bool (decide (shrL (iN ln) = 1048576)) ∧ h' = h ∧ n' = n := by
  rw [zbgv]
  refine Run.inside_ ?_
  unfold zauo
  have hll := zadn ln
  have hall : ∀ x ∈ iN ln, 1 ≤ x ∧ x ≤ 20 := fun x hx => by
    obtain ⟨w, hw, rfl⟩ := List.mem_map.1 hx
    have := ha w hw
    omega
  refine zaaw (s_May lf d n h v (iN ln) hR 1 20 (by omega) hlf) (Nat.le_refl _) (fun _ _ h => h.elim) ?_
  rw [zapb.2 hall]
  try simp (disch := first | omega | assumption | exact zaae _ _ | exact zaab _ _ _ | exact zaaf _ | exact zaad _ | exact zaaa _) only [Nat.reduceAdd, Nat.reduceLT, RZ]
  refine zaaw (zcga lf d n h v (iN ln) hR (by omega) (fun x hx => by have := hall x hx; omega) hlf) (Nat.le_refl _) (fun _ _ h => h.elim) ?_
  have e : (shrL (iN ln) == 1048576) = decide (shrL (iN ln) = 1048576) := by
    by_cases q : shrL (iN ln) = 1048576
    · rw [decide_eq_true q, q]; rfl
    · rw [decide_eq_false q]; exact beq_eq_false_iff_ne.2 q
  try simp (disch := first | omega | assumption | exact zaae _ _ | exact zaab _ _ _ | exact zaaf _ | exact zaad _ | exact zaaa _) only [Nat.reduceAdd, Nat.reduceLT, RZ, e]
theorem zcfl {l : List Bool} (hl : l.length ≤ 1000000) (hlf : 3000000 ≤ lf) {size T : Nat} (hs3 : 3 ≤ size) (hsz : size ≤ 258) (hT : T ≤ 6) : ∀ (t fu i : Nat) (h' : H) (n' : Nat) (tv : Value) (lns : List (List Nat)) (a : Nat), i + t = T → n + 2 ≤ n' → h'.get n = some ⟨91, true, [.slice none 0 0, .int .i64 0, .int .i64 0]⟩ → h'.get (n + 1) = some ⟨91, true, [tv, .int .i64 (a : Int), .int .i64 0]⟩ → t < fu → a ≤ l.length → lns.length = i → TT h' (n + 2) n' tv lns →
    Run (fun _ => False) n (zaea lf (d + 3) fu (zacv lf (d + 3)) (tx l) (.int .i64 (T : Int)) (.int .i64 (size : Int)) (.pointer (some ⟨n, 0, none⟩)) (.pointer (some ⟨n + 1, 0, none⟩)) (.int .i64 (T : Int)) (.int .i64 (i : Int))) h' n' (P14 n (runTs t size (l.drop a) a lns)) := by
  intro t
  induction t with
  | zero =>
    intro fu i h' n' tv lns a hi hn' g g2 hf hal hli tt
    obtain ⟨fu, rfl⟩ : ∃ f, fu = f + 1 := ⟨fu - 1, by omega⟩
    obtain rfl : i = T := by omega
    have agg : agg? Tryz.prog 91 = some true := by kernel_rfl
    obtain ⟨ta, tc, rfl⟩ := tt.len
    rw [zaje]
    try simp (disch := first | omega | assumption | exact zaae _ _ | exact zaab _ _ _ | exact zaaf _ | exact zaad _ | exact zaaa _) only [Nat.reduceAdd, Nat.reduceLT, RZ, Int.lt_irrefl]
    rw [zavv]
    refine zbyx agg sz91 (n + 1) 0 _ g2 (by omega) (by simp) ?_
    refine zabp sz91 (vs := [.slice ta lns.length tc, .int .i64 (a : Int), .int .i64 0]) rfl rfl rfl g (by omega) (.inl (Nat.le_refl _)) _ fun h1 g1 k1 => ?_
    refine zabs agg sz91 g1 rfl (by omega) ?_
    exact ⟨_, _, _, rfl, ⟨_, _, _, rfl⟩, rfl, rfl, by
      obtain ⟨cs, o, h1, h2⟩ := tt.keep (Nat.le_refl _) fun b hb hb2 => k1 b (by omega)
      exact ⟨cs, o.low (by omega), h1, fun i hi => by obtain ⟨b, e, g, h3, h4⟩ := h2 i hi; exact ⟨b, e, g, by omega, h4⟩⟩⟩
  | succ t ih =>
    intro fu i h' n' tv lns a hi hn' g g2 hf hal hli tt
    obtain ⟨fu, rfl⟩ : ∃ f, fu = f + 1 := ⟨fu - 1, by omega⟩
    have agg : agg? Tryz.prog 91 = some true := by kernel_rfl
    obtain ⟨ta, tc, rfl⟩ := tt.len
    rw [zaje]
    unfold runTs
    have c1 : ((i : Nat) : Int) < ((T : Nat) : Int) := by omega
    have s1 := fun (k : Value → M Value) => tx_lo l .i64 (a : Int) k (by omega) (by omega)
    rw [Int.toNat_natCast] at s1
    have hn1 : n + 1 < n' := by omega
    have hdl : (l.drop a).length = l.length - a := List.length_drop
    try simp (disch := first | omega | assumption | exact zaae _ _ | exact zaab _ _ _ | exact zaaf _ | exact zaad _ | exact zaaa _) only [Nat.reduceAdd, Nat.reduceLT, RZ, c1, g2, s1]
    refine zaay okd (s_r11 (lf := lf) (d := d + 1) (l.drop a) (by omega) hlf (size := size) (by omega) hsz) (by omega) (fun _ _ h => h.elim) fun v1 h1 n1 hn1' fr1 hq1 => ?_
    obtain ⟨lv, u, e, rfl, hq1⟩ := hq1
    have hlv : ∃ x y z, lv = .slice x y z := by
      cases hr : runD ((l.drop a).length + 1) size 0 [] (l.drop a) 0 with
      | short => rw [hr] at hq1; exact ⟨_, _, _, hq1.2⟩
      | bad e0 => rw [hr] at hq1; exact ⟨_, _, _, hq1.2.2⟩
      | ok ln a0 => rw [hr] at hq1; obtain ⟨x, y, z⟩ := hq1.2.2.row.len; exact ⟨_, _, _, z⟩
    obtain ⟨lx, ly, lz, rfl⟩ := hlv
    refine zagr zr126 _ ?_
    refine zabp sz126 (vs := [.slice lx ly lz, .int .i64 u, .int .i64 e]) rfl rfl rfl (zaaz _ _ _) (by omega) (.inl (by omega)) _ fun h2 g3 k3 => ?_
    have un : ∀ b, b < n' → h2.get b = h'.get b := fun b hb => by rw [k3 b (by omega), zaar _ _ (by omega), fr1 b hb id]
    have gr := (un n (by omega)).trans g
    have g4 := (un (n + 1) (by omega)).trans g2
    have tt2 : TT h2 (n + 2) (n1 + 1) (.slice ta lns.length tc) lns := tt.keep (by omega) fun b _ hb => un b hb
    have hn2 : n1 < n1 + 1 := by omega
    have hn3 : n + 1 < n1 + 1 := by omega
    cases hr : runD ((l.drop a).length + 1) size 0 [] (l.drop a) 0 with
    | short =>
      rw [hr] at hq1
      obtain ⟨rfl, _⟩ := hq1
      have z3 : ((3 : Int) != 0) = true := rfl
      try simp (disch := first | omega | assumption | exact zaae _ _ | exact zaab _ _ _ | exact zaaf _ | exact zaad _ | exact zaaa _) only [Nat.reduceAdd, Nat.reduceLT, RZ, g3, g4, z3]
      refine zabp sz91 (vs := [.slice ta lns.length tc, .int .i64 0, .int .i64 3]) rfl rfl rfl gr (by omega) (.inl (Nat.le_refl _)) _ fun h5 g5 k5 => ?_
      rw [zajy]
      exact zabs agg sz91 g5 rfl (by omega) ⟨_, _, _, rfl, ⟨_, _, _, rfl⟩, rfl⟩
    | bad e0 =>
      rw [hr] at hq1
      obtain ⟨rfl, rfl, _⟩ := hq1
      have z3 : ((22 : Int) != 0) = true := rfl
      try simp (disch := first | omega | assumption | exact zaae _ _ | exact zaab _ _ _ | exact zaaf _ | exact zaad _ | exact zaaa _) only [Nat.reduceAdd, Nat.reduceLT, RZ, g3, g4, z3]
      refine zabp sz91 (vs := [.slice ta lns.length tc, .int .i64 0, .int .i64 22]) rfl rfl rfl gr (by omega) (.inl (Nat.le_refl _)) _ fun h5 g5 k5 => ?_
      rw [zajy]
      exact zabs agg sz91 g5 rfl (by omega) ⟨_, _, _, rfl, ⟨_, _, _, rfl⟩, rfl, rfl⟩
    | ok ln a0 =>
      rw [hr] at hq1
      obtain ⟨rfl, rfl, ol⟩ := hq1
      have hok := zbbi _ _ _ _ _ _ _ ⟨Nat.zero_le _, Nat.zero_le _, fun x hx => absurd hx (by simp)⟩ hr
      have z0 : ((0 : Int) != 0) = false := rfl
      have w1 : IntKind.i64.wrap ((a : Int) + ((a0 : Nat) : Int)) = ((a + a0 : Nat) : Int) := by rw [zaav (by omega) (by omega)]; omega
      have il : n ≤ n + 1 := by omega
      try simp (disch := first | omega | assumption | exact zaae _ _ | exact zaab _ _ _ | exact zaaf _ | exact zaad _ | exact zaaa _) only [Nat.reduceAdd, Nat.reduceLT, RZ, g3, g4, z0, w1, il, true_or, or_true]
      obtain ⟨h5, hh⟩ : ∃ h5 : H, h5 = h2.set (n + 1) (some ⟨91, true, [.slice ta lns.length tc, .int .i64 ((a + a0 : Nat) : Int), .int .i64 0]⟩) := ⟨_, rfl⟩
      rw [← hh]
      have g6 : h5.get (n + 1) = some ⟨91, true, [.slice ta lns.length tc, .int .i64 ((a + a0 : Nat) : Int), .int .i64 0]⟩ := by rw [hh, zaaz]
      have un5 : ∀ b, b ≠ n + 1 → h5.get b = h2.get b := fun b hb => by rw [hh, zaar _ _ hb]
      have g7 := (un5 n1 (by omega)).trans g3
      have gr5 := (un5 n (by omega)).trans gr
      have o5 : Own h5 n' n1 3 (.slice lx ly lz) (intsV .i64 (iN ln)) := ol.keep (Nat.le_refl _) fun b hb => by
        have := ol.lt hb
        rw [un5 b (by omega), k3 b (by omega), zaar _ _ (by omega)]
      have r5 : Row h5 (n1 + 1) 3 .i64 (.slice lx ly lz) (iN ln) := (o5.keep (Nat.le_succ n1) fun _ _ => rfl).row
      have tt5 : TT h5 (n + 2) (n1 + 1) (.slice ta lns.length tc) lns := tt2.keep (Nat.le_refl _) fun b hb _ => un5 b (by omega)
      refine zaaw (zcet (lf := lf) (d := d + 1) r5 hok.2.1 (by omega) hlf) (by omega) (fun _ _ h => h.elim) ?_
      by_cases hs : shrL (iN ln) = 1048576
      · rw [decide_eq_true hs]
        have e : (if shrL (iN ln) = 1048576 then runTs t size ((l.drop a).drop a0) (a + a0) (lns ++ [ln]) else .bad 22) = runTs t size ((l.drop a).drop a0) (a + a0) (lns ++ [ln]) := if_pos hs
        try simp (disch := first | omega | assumption | exact zaae _ _ | exact zaab _ _ _ | exact zaaf _ | exact zaad _ | exact zaaa _) only [Nat.reduceAdd, Nat.reduceLT, RZ, Bool.not_true]
        refine zafi ag80 (n + 1) 0 _ g6 (show n + 1 < n1 + 1 by omega) (Nat.le_refl _) rfl fun T1 t1 => ?_
        try simp (disch := first | omega | assumption | exact zaae _ _ | exact zaab _ _ _ | exact zaaf _ | exact zaad _ | exact zaaa _) only [Nat.reduceAdd, Nat.reduceLT, RZ]
        refine zafi ag22 n1 0 _ g7 (show n1 < n1 + 1 by omega) (Nat.le_refl _) rfl fun T2 t2 => ?_
        try simp (disch := first | omega | assumption | exact zaae _ _ | exact zaab _ _ _ | exact zaaf _ | exact zaad _ | exact zaaa _) only [Nat.reduceAdd, Nat.reduceLT, RZ]
        have w := wh_of hok.2.1 hs
        refine zafa okd (zcfy (lf := lf) (d := d + 1) r5 w (by omega) (by omega) (by omega)) (by omega) fun v6 h6 n6 T3 hn6 fr6 hq6 t3 => ?_
        obtain ⟨rfl, rfl, gc6, _⟩ := hq6
        obtain ⟨cs, oc, hcl, hcs⟩ := tt5
        have oc6 : Own h6 (n + 2) (n1 + 1 + 1) 82 (.slice ta lns.length tc) cs := oc.keep (by omega) fun b hb => fr6 b (oc.lt hb).2
        refine zbka c1x80 (zaab _ _ _) oc6 (by omega) (fun b hb => .inl (by have := (oc6.lt hb).1; omega)) _ fun w4 T4 T5 h8 g8 k8 => ?_
        have nb : ∀ b, b < n + 2 → ¬ InBlk (.slice ta lns.length tc) b := fun b hb q => by have := (oc6.lt q).1; omega
        have g9 := ((k8 (n + 1) (by omega) (nb _ (by omega))).trans (fr6 (n + 1) (by omega))).trans g6
        have gr9 := ((k8 n (by omega) (nb _ (by omega))).trans (fr6 n (by omega))).trans gr5
        have hn9 : n + 1 < n1 + 1 + 1 + 2 := by omega
        try simp (disch := first | omega | assumption | exact zaae _ _ | exact zaab _ _ _ | exact zaaf _ | exact zaad _ | exact zaaa _) only [Nat.reduceAdd, Nat.reduceLT, RZ]
        refine zbpn (fun _ _ => rfl) ?_
        try simp (disch := first | omega | assumption | exact zaae _ _ | exact zaab _ _ _ | exact zaaf _ | exact zaad _ | exact zaaa _) only [Nat.reduceAdd, Nat.reduceLT, RZ, g9, il, true_or, or_true, t1.clash t3, Bool.not_false, Bool.and_self, zaew]
        have := ih fu (i + 1) (h8.set (n + 1) (some ⟨91, true, [.slice (some ⟨n1 + 1 + 1 + 1, 0, none⟩) (cs.length + 1) (CAP + (cs.length + 1)), .int .i64 ((a + a0 : Nat) : Int), .int .i64 0]⟩)) (n1 + 1 + 1 + 2) (.slice (some ⟨n1 + 1 + 1 + 1, 0, none⟩) (cs.length + 1) (CAP + (cs.length + 1))) (lns ++ [ln]) (a + a0) (by omega) (by omega) ((zaar _ _ (by omega)).trans gr9) (zaaz _ _ _) (by omega) (by omega) (by rw [List.length_append]; simp only [List.length_cons, List.length_nil]; omega) (by
          refine ⟨cs ++ [.slice (some ⟨n1 + 1, 0, none⟩) ln.length ln.length], .inr ⟨n1 + 1 + 1 + 1, by simp, by rw [zaar _ _ (by omega)]; exact g8, by omega, by omega⟩, by simp [hcl], fun j hj => ?_⟩
          rw [List.length_append] at hj
          simp only [List.length_cons, List.length_nil] at hj
          rw [zazv, zazv, hcl]
          by_cases hj2 : j < lns.length
          · rw [if_pos hj2, if_pos hj2]
            obtain ⟨b, e1, e2, e3, e4⟩ := hcs j hj2
            refine ⟨b, e1, ?_, e3, by omega⟩
            have nib : ¬ InBlk (.slice ta lns.length tc) b := fun q => by
              obtain ⟨B, q1, q2⟩ := oc.elem q
              rw [e2] at q1
              cases q1
              exact absurd (show (9 : Nat) = 82 from q2) (by decide)
            rw [zaar _ _ (by omega), k8 b (by omega) nib, fr6 b e4]
            exact e2
          · rw [if_neg hj2, if_neg hj2, if_pos (by omega), if_pos (by omega)]
            refine ⟨n1 + 1, rfl, ?_, by omega, by omega⟩
            rw [zaar _ _ (by omega), k8 (n1 + 1) (by omega) fun q => by have := (oc.lt q).2; omega]
            exact gc6)
        rw [← List.drop_drop] at this
        first | (rw [e]; exact this) | (rw [if_pos hs]; exact this)
      · rw [decide_eq_false hs]
        have hn5 : n + 1 < n1 + 1 := by omega
        try simp (disch := first | omega | assumption | exact zaae _ _ | exact zaab _ _ _ | exact zaaf _ | exact zaad _ | exact zaaa _) only [Nat.reduceAdd, Nat.reduceLT, RZ, Bool.not_false, g6]
        rw [if_neg hs]
        refine zabp sz91 (vs := [.slice ta lns.length tc, .int .i64 0, .int .i64 22]) rfl rfl rfl gr5 (by omega) (.inl (Nat.le_refl _)) _ fun h8 g8 k8 => ?_
        rw [zavo]
        exact zabs agg sz91 g8 rfl (by omega) ⟨_, _, _, rfl, ⟨_, _, _, rfl⟩, rfl, rfl⟩
theorem zcap (l : List Bool) (hl : l.length ≤ 1000000) (hlf : 3000000 ≤ lf) {size T : Nat} (hs3 : 3 ≤ size) (hsz : size ≤ 258) (hT : T ≤ 6) : Run (fun _ => False) n (zaac Tryz.prog gt lf (d + 4) 54 #[tx l, .int .i64 (T : Int), .int .i64 (size : Int)]) h n (P14 n (runTs T size l 0 [])) := by
  rw [zayh]
  refine Run.inside_ ?_
  unfold zamz
  refine zagr zr91 _ ?_
  try simp (disch := first | omega | assumption | exact zaae _ _ | exact zaab _ _ _ | exact zaaf _ | exact zaad _ | exact zaaa _) only [Nat.reduceAdd, Nat.reduceLT, RZ]
  refine zagr zr91 _ ?_
  refine zabp sz91 (vs := [.slice none 0 0, .int .i64 0, .int .i64 0]) rfl rfl rfl (zaaz _ _ _) (by omega) (.inl (by omega)) _ fun h1 g1 k1 => ?_
  have := zcfl (n := n) (d := d) hl hlf hs3 hsz hT T lf 0 h1 (n + 1 + 1) (.slice none 0 0) [] 0 (by omega) (by omega) (by rw [k1 n (by omega), zaar _ _ (by omega), zaaz]) g1 (by omega) (Nat.zero_le _) rfl (TT.nil _ _ _)
  rw [List.drop_zero] at this
  exact this
end
end Go.Proofs.YtdagfcflbphoiaaGreatDoor

import Derived.Test.YtdagfcflbphoiaaGreatDoorMay
namespace Go.Proofs.YtdagfcflbphoiaaGreatDoor
set_option linter.unusedVariables false
set_option linter.unusedSimpArgs false
open Go.RowKit Ev Cn

def runD : Nat → Nat → Nat → List Nat → List Bool → Nat → St (List Nat)
  | 0, _, _, _, _, _ => .short
  | N + 1, size, now, lens, bs, a => if lens.length = size then .ok lens a else match stepD now lens bs with
    | .short => .short
    | .bad e => .bad e
    | .ok (m, l) u => runD N size m l (bs.drop u) (a + u)
def P11 (n : Nat) (r : St (List Nat)) (v' : Value) (h' : H) (n' : Nat) : Prop := ∃ (lv : Value) (u e : Int), v' = .agg #[lv, .int .i64 u, .int .i64 e] ∧
  match r with
  | .short => e = 3 ∧ lv = .slice none 0 0
  | .bad e0 => e0 = 22 ∧ e = 22 ∧ lv = .slice none 0 0
  | .ok ln a0 => e = 0 ∧ u = (a0 : Int) ∧ Own h' n n' 3 lv (intsV .i64 (iN ln))
section
variable {lf d n : Nat} {h : H}
theorem zcfj {l : List Bool} (hl : l.length ≤ 1000000) (hlf : 3000000 ≤ lf) {size : Nat} (hsz : size ≤ 258) : ∀ (N fu : Nat) (h' : H) (n' : Nat) (now : Nat) (lens : List Nat) (lv : Value) (a : Nat), n + 1 ≤ n' → h'.get n = some ⟨126, true, [.slice none 0 0, .int .i64 0, .int .i64 0]⟩ → (l.drop a).length < N → N ≤ fu → a ≤ l.length → 1 ≤ now → now ≤ 20 → lens.length ≤ size → Own h' (n + 1) n' 3 lv (intsV .i64 (iN lens)) →
    Run (fun _ => False) n (zacn lf (d + 1) fu (zacp lf (d + 1)) (tx l) (.int .i64 (size : Int)) (.pointer (some ⟨n, 0, none⟩)) (.int .i64 (now : Int)) lv (.int .i64 (a : Int)) (.bool false) (.bool false)) h' n' (P11 n (runD N size now lens (l.drop a) a)) := by
  intro N
  induction N with
  | zero => intro fu h' n' now lens lv a _ _ hN; omega
  | succ N ih =>
    intro fu h' n' now lens lv a hn' g hN hfu hal h1 h20 hle og
    obtain ⟨fu, rfl⟩ : ∃ f, fu = f + 1 := ⟨fu - 1, by omega⟩
    obtain ⟨ga, gc, rfl⟩ := og.row.len
    have hil := zadn lens
    have agg : agg? Tryz.prog 126 = some true := by kernel_rfl
    have hdl : (l.drop a).length = l.length - a := List.length_drop
    have h0 : now ≠ 0 := by omega
    rw [zbbw]
    unfold runD
    by_cases hf : lens.length = size
    · have c1 : ¬ ((((iN lens).length : Nat) : Int) < ((size : Nat) : Int)) := by omega
      try simp (disch := first | omega | assumption | exact zaae _ _ | exact zaab _ _ _ | exact zaaf _ | exact zaad _ | exact zaaa _) only [Nat.reduceAdd, Nat.reduceLT, RZ, c1]
      rw [zbdq, if_pos hf]
      try simp (disch := first | omega | assumption | exact zaae _ _ | exact zaab _ _ _ | exact zaaf _ | exact zaad _ | exact zaaa _) only [Nat.reduceAdd, Nat.reduceLT, RZ]
      refine zabp sz126 (vs := [.slice ga (iN lens).length gc, .int .i64 (a : Int), .int .i64 0]) rfl rfl rfl g (by omega) (.inl (Nat.le_refl _)) _ fun h1 g1 k1 => ?_
      refine zabs agg sz126 g1 rfl (by omega) ?_
      exact ⟨_, _, _, rfl, rfl, rfl, (og.keep (Nat.le_refl _) fun b hb => k1 b (by have := (og.lt hb).1; omega)).low (by omega)⟩
    · have c1 : ((((iN lens).length : Nat) : Int) < ((size : Nat) : Int)) := by omega
      rw [if_neg hf]
      -- what too few leave
      have sh : ∀ (k : Value → M Value), (∀ h1 : H, h1.get n = some ⟨126, true, [.slice none 0 0, .int .i64 0, .int .i64 3]⟩ → Run (fun _ => False) n (k undef) h1 n' (P11 n .short)) → Run (fun _ => False) n ((inside (evStore Tryz.prog 126 (.pointer (some ⟨n, 0, none⟩)) (.agg #[.slice none 0 0, .int .i64 0, .int .i64 3]))).bind k) h' n' (P11 n .short) := fun k hk =>
        zabp sz126 (vs := [.slice none 0 0, .int .i64 0, .int .i64 3]) rfl rfl rfl g (by omega) (.inl (Nat.le_refl _)) _ fun h1 g1 k1 => hk h1 g1
      by_cases ha : a = l.length
      · have c2 : ((a : Int) == ((l.length : Nat) : Int)) = true := beq_iff_eq.2 (by omega)
        try simp (disch := first | omega | assumption | exact zaae _ _ | exact zaab _ _ _ | exact zaaf _ | exact zaad _ | exact zaaa _) only [Nat.reduceAdd, Nat.reduceLT, RZ, c1, zacs, c2]
        have e : stepD now lens (l.drop a) = .short := by
          unfold stepD
          rw [if_neg h0, ha, List.drop_length]
        rw [e]
        refine sh _ fun h1 g1 => ?_
        rw [zbdb]
        exact zabs agg sz126 g1 rfl (by omega) ⟨_, _, _, rfl, rfl, rfl⟩
      · have c2 : ((a : Int) == ((l.length : Nat) : Int)) = false := beq_eq_false_iff_ne.2 (by omega)
        have hi : a < l.length := by omega
        have hdr : l.drop a = l[a] :: l.drop (a + 1) := List.drop_eq_getElem_cons hi
        have hget : l.getD a false = l[a] := by rw [List.getD_eq_getElem?_getD, List.getElem?_eq_getElem hi]; rfl
        have ix := zbcq l .i64 (a : Int) (by omega) (by omega)
        rw [Int.toNat_natCast, hget] at ix
        cases hb : l[a] with
        | false =>
          rw [hb] at ix hdr
          have c3 : (48 + ((bn false : Nat) : Int) == 48) = true := rfl
          try simp (disch := first | omega | assumption | exact zaae _ _ | exact zaab _ _ _ | exact zaaf _ | exact zaad _ | exact zaaa _) only [Nat.reduceAdd, Nat.reduceLT, RZ, c1, zacs, c2, ix, c3]
          refine zalx c1x22 (zaae _ _) og (by rw [zabm]; omega) (fun b hb => .inl (by have := (og.lt hb).1; omega)) _ fun h2 g2 k2 => ?_
          have e : stepD now lens (l.drop a) = .ok (now, lens ++ [now]) 1 := by
            unfold stepD
            rw [if_neg h0, hdr]
          rw [e]
          try simp (disch := first | omega | assumption | exact zaae _ _ | exact zaab _ _ _ | exact zaaf _ | exact zaad _ | exact zaaa _) only [Nat.reduceAdd, Nat.reduceLT, RZ]
          have := ih fu h2 (n' + 2) now (lens ++ [now]) (.slice (some ⟨n' + 1, 0, none⟩) ((intsV .i64 (iN lens)).length + 1) (CAP + ((intsV .i64 (iN lens)).length + 1))) (a + 1) (by omega) ((k2 n (by omega) fun hb => by have := (og.lt hb).1; omega).trans g) (by rw [List.length_drop]; omega) (by omega) (by omega) h1 h20 (by rw [List.length_append]; simp only [List.length_cons, List.length_nil]; omega) (by
            rw [zbic, zall]
            exact .inr ⟨n' + 1, by simp [zabm, iN], g2, by omega, by omega⟩)
          rw [← List.drop_drop] at this
          exact this
        | true =>
          rw [hb] at ix hdr
          have c3 : (48 + ((bn true : Nat) : Int) == 48) = false := rfl
          by_cases ha2 : a + 1 = l.length
          · have c4 : ((a : Int) + 1 == ((l.length : Nat) : Int)) = true := beq_iff_eq.2 (by omega)
            try simp (disch := first | omega | assumption | exact zaae _ _ | exact zaab _ _ _ | exact zaaf _ | exact zaad _ | exact zaaa _) only [Nat.reduceAdd, Nat.reduceLT, RZ, c1, zacs, c2, ix, c3, c4]
            have e : stepD now lens (l.drop a) = .short := by
              unfold stepD
              rw [if_neg h0, hdr, ha2, List.drop_length]
            rw [e]
            refine sh _ fun h1 g1 => ?_
            rw [zbdw]
            exact zabs agg sz126 g1 rfl (by omega) ⟨_, _, _, rfl, rfl, rfl⟩
          · have c4 : (((a + 1 : Nat) : Int) == ((l.length : Nat) : Int)) = false := beq_eq_false_iff_ne.2 (by omega)
            have hi2 : a + 1 < l.length := by omega
            have hdr2 : l.drop (a + 1) = l[a + 1] :: l.drop (a + 1 + 1) := List.drop_eq_getElem_cons hi2
            have hget2 : l.getD (a + 1) false = l[a + 1] := by rw [List.getD_eq_getElem?_getD, List.getElem?_eq_getElem hi2]; rfl
            have ix2 := zbcq l .i64 ((a + 1 : Nat) : Int) (by omega) (by omega)
            rw [Int.toNat_natCast, hget2] at ix2
            have w1 : (a : Int) + 1 = ((a + 1 : Nat) : Int) := by omega
            obtain ⟨b2, hb2⟩ : ∃ b2, l[a + 1] = b2 := ⟨_, rfl⟩
            rw [hb2] at ix2 hdr2
            have e : stepD now lens (l.drop a) = turnD ((now : Int) + 1 - 2 * (bn b2 : Int)) lens 2 := by
              unfold stepD
              rw [if_neg h0, hdr, hdr2]
            rw [e]
            -- the turn
            have turned : ∀ (m : Int) (y58 : Bool), m = (now : Int) + 1 - 2 * (bn b2 : Int) → (1 ≤ m ∧ m ≤ 20) → Run (fun _ => False) n (zacn lf (d + 1) fu (zacp lf (d + 1)) (tx l) (.int .i64 (size : Int)) (.pointer (some ⟨n, 0, none⟩)) (.int .i64 m) (.slice ga (iN lens).length gc) (.int .i64 ((a : Int) + 2)) (.bool false) (.bool false)) h' n' (P11 n (match turnD ((now : Int) + 1 - 2 * (bn b2 : Int)) lens 2 with
              | .short => .short
              | .bad e => .bad e
              | .ok (m, l2) u => runD N size m l2 ((l.drop a).drop u) (a + u))) := by
              intro m _ hm hr
              unfold turnD
              rw [← hm, if_pos hr]
              have := ih fu h' n' m.toNat lens (.slice ga (iN lens).length gc) (a + 2) hn' g (by rw [List.length_drop]; omega) (by omega) (by omega) (by omega) (by omega) hle og
              rw [← List.drop_drop, Int.toNat_of_nonneg (by omega)] at this
              exact this
            have wrong : ∀ (k : Value → M Value), ¬ (1 ≤ (now : Int) + 1 - 2 * (bn b2 : Int) ∧ (now : Int) + 1 - 2 * (bn b2 : Int) ≤ 20) → (∀ h1 : H, h1.get n = some ⟨126, true, [.slice none 0 0, .int .i64 0, .int .i64 22]⟩ → Run (fun _ => False) n (k undef) h1 n' (P11 n (.bad 22))) → Run (fun _ => False) n ((inside (evStore Tryz.prog 126 (.pointer (some ⟨n, 0, none⟩)) (.agg #[.slice none 0 0, .int .i64 0, .int .i64 22]))).bind k) h' n' (P11 n (match turnD ((now : Int) + 1 - 2 * (bn b2 : Int)) lens 2 with
              | .short => .short
              | .bad e => .bad e
              | .ok (m, l2) u => runD N size m l2 ((l.drop a).drop u) (a + u))) := fun k hw hk => by
                unfold turnD
                rw [if_neg hw]
                exact zabp sz126 (vs := [.slice none 0 0, .int .i64 0, .int .i64 22]) rfl rfl rfl g (by omega) (.inl (Nat.le_refl _)) _ fun h1 g1 k1 => hk h1 g1
            cases b2 with
            | false =>
              have c5 : (48 + ((bn false : Nat) : Int) == 48) = true := rfl
              have b0 : (2 : Int) * ((bn false : Nat) : Int) = 0 := rfl
              have d1 : ¬ ((now : Int) + 1 < 1) := by omega
              by_cases d2 : (20 : Int) < (now : Int) + 1
              · try simp (disch := first | omega | assumption | exact zaae _ _ | exact zaab _ _ _ | exact zaaf _ | exact zaad _ | exact zaaa _) only [Nat.reduceAdd, Nat.reduceLT, RZ, c1, zacs, c2, ix, c3, c4, w1, ix2, c5, d1, d2]
                refine wrong _ (by omega) fun h1 g1 => ?_
                rw [zaqu]
                exact zabs agg sz126 g1 rfl (by omega) ⟨_, _, _, rfl, rfl, rfl, rfl⟩
              · try simp (disch := first | omega | assumption | exact zaae _ _ | exact zaab _ _ _ | exact zaaf _ | exact zaad _ | exact zaaa _) only [Nat.reduceAdd, Nat.reduceLT, RZ, c1, zacs, c2, ix, c3, c4, w1, ix2, c5, d1, d2]
                exact turned ((now : Int) + 1) false (by omega) (by omega)
            | true =>
              have c5 : (48 + ((bn true : Nat) : Int) == 48) = false := rfl
              have b0 : (2 : Int) * ((bn true : Nat) : Int) = 2 := rfl
              have d2 : ¬ ((20 : Int) < (now : Int) - 1) := by omega
              by_cases d1 : (now : Int) - 1 < 1
              · try simp (disch := first | omega | assumption | exact zaae _ _ | exact zaab _ _ _ | exact zaaf _ | exact zaad _ | exact zaaa _) only [Nat.reduceAdd, Nat.reduceLT, RZ, c1, zacs, c2, ix, c3, c4, w1, ix2, c5, d1, d2]
                refine wrong _ (by omega) fun h1 g1 => ?_
                rw [zaqu]
                exact zabs agg sz126 g1 rfl (by omega) ⟨_, _, _, rfl, rfl, rfl, rfl⟩
              · try simp (disch := first | omega | assumption | exact zaae _ _ | exact zaab _ _ _ | exact zaaf _ | exact zaad _ | exact zaaa _) only [Nat.reduceAdd, Nat.reduceLT, RZ, c1, zacs, c2, ix, c3, c4, w1, ix2, c5, d1, d2]
                exact turned ((now : Int) - 1) false (by omega) (by omega)
theorem s_r11 (l : List Bool) (hl : l.length ≤ 1000000) (hlf : 3000000 ≤ lf) {size : Nat} (hs1 : 1 ≤ size) (hsz : size ≤ 258) : Run (fun _ => False) n (zaac Tryz.prog gt lf (d + 2) 88 #[tx l, .int .i64 (size : Int)]) h n (P11 n (runD (l.length + 1) size 0 [] l 0)) := by
  rw [zbhz]
  refine Run.inside_ ?_
  unfold zawd
  refine zagr zr126 _ ?_
  have agg : agg? Tryz.prog 126 = some true := by kernel_rfl
  have gb := fun (h : H) (cs : List Value) => zaaz h n (some ⟨126, true, cs⟩)
  have hsz0 : ¬ ([] : List Nat).length = size := by show ¬ 0 = size; omega
  have rp : runD (l.length + 1) size 0 [] l 0 = match stepD 0 [] l with
      | .short => .short
      | .bad e => .bad e
      | .ok (m, l2) u => runD l.length size m l2 (l.drop u) (0 + u) := by
    show (if ([] : List Nat).length = size then _ else _) = _
    rw [if_neg hsz0]
  have st0 : stepD 0 [] l = if l.length < 5 then .short else turnD (num (l.take 5) 0 : Int) [] 5 := by unfold stepD; rw [if_pos rfl]
  by_cases h5 : l.length < 5
  · have c1 : ((l.length : Nat) : Int) < 5 := by omega
    try simp (disch := first | omega | assumption | exact zaae _ _ | exact zaab _ _ _ | exact zaaf _ | exact zaad _ | exact zaaa _) only [Nat.reduceAdd, Nat.reduceLT, RZ, zacs, c1]
    rw [rp, st0, if_pos h5]
    refine zabp sz126 (vs := [.slice none 0 0, .int .i64 0, .int .i64 3]) rfl rfl rfl (gb _ _) (by omega) (.inl (Nat.le_refl _)) _ fun h1 g1 k1 => ?_
    exact zabs agg sz126 g1 rfl (by omega) ⟨_, _, _, rfl, rfl, rfl⟩
  · have c1 : ¬ ((l.length : Nat) : Int) < 5 := by omega
    have s1 := fun (k : Value → M Value) => tx_hi l .i64 (5 : Int) k (by omega) (by omega)
    have i1 : (5 : Int).toNat = 5 := rfl
    rw [i1] at s1
    have nl := zagu (l.take 5)
    rw [List.length_take, Nat.min_eq_left (by omega)] at nl
    try simp (disch := first | omega | assumption | exact zaae _ _ | exact zaab _ _ _ | exact zaaf _ | exact zaad _ | exact zaaa _) only [Nat.reduceAdd, Nat.reduceLT, RZ, zacs, c1, s1]
    refine zaaw (s_num (lf := lf) (d := d) (l.take 5) (by rw [List.length_take]; omega) (by omega)) (by omega) (fun _ _ h => h.elim) ?_
    obtain ⟨v, hv⟩ : ∃ v, num (l.take 5) 0 = v := ⟨_, rfl⟩
    rw [hv] at nl st0 ⊢
    have w1 : IntKind.i64.wrap ((v : Nat) : Int) = (v : Int) := zaav (by omega) (by omega)
    rw [rp, st0, if_neg h5]
    unfold turnD
    rw [Int.toNat_natCast]
    simp only [Nat.zero_add]
    have wrong : ¬ (1 ≤ (v : Int) ∧ (v : Int) ≤ 20) → Run (fun _ => False) n ((inside (evStore Tryz.prog 126 (.pointer (some ⟨n, 0, none⟩)) (.agg #[.slice none 0 0, .int .i64 0, .int .i64 22]))).bind fun _ => (evLoad Tryz.prog 126 (.pointer (some ⟨n, 0, none⟩))).bind fun v => outK [v]) (h.set n (some ⟨126, true, [.slice none 0 0, .int .i64 0, .int .i64 0]⟩)) (n + 1) (P11 n (match (if 1 ≤ (v : Int) ∧ (v : Int) ≤ 20 then St.ok (v, ([] : List Nat)) 5 else .bad 22 : St (Nat × List Nat)) with
      | .short => .short
      | .bad e => .bad e
      | .ok (m, l2) u => runD l.length size m l2 (l.drop u) u)) := by
      intro hw
      rw [if_neg hw]
      refine zabp sz126 (vs := [.slice none 0 0, .int .i64 0, .int .i64 22]) rfl rfl rfl (gb _ _) (by omega) (.inl (Nat.le_refl _)) _ fun h1 g1 k1 => ?_
      exact zabs agg sz126 g1 rfl (by omega) ⟨_, _, _, rfl, rfl, rfl, rfl⟩
    by_cases d1 : (v : Int) < 1
    · try simp (disch := first | omega | assumption | exact zaae _ _ | exact zaab _ _ _ | exact zaaf _ | exact zaad _ | exact zaaa _) only [Nat.reduceAdd, Nat.reduceLT, RZ, w1, d1]
      exact wrong (by omega)
    · by_cases d2 : (20 : Int) < (v : Int)
      · try simp (disch := first | omega | assumption | exact zaae _ _ | exact zaab _ _ _ | exact zaaf _ | exact zaad _ | exact zaaa _) only [Nat.reduceAdd, Nat.reduceLT, RZ, w1, d1, d2]
        exact wrong (by omega)
      · try simp (disch := first | omega | assumption | exact zaae _ _ | exact zaab _ _ _ | exact zaaf _ | exact zaad _ | exact zaaa _) only [Nat.reduceAdd, Nat.reduceLT, RZ, w1, d1, d2]
        rw [if_pos (by omega)]
        exact zcfj hl hlf hsz l.length lf _ (n + 1) v [] (.slice none 0 0) 5 (Nat.le_refl _) (gb _ _) (by rw [List.length_drop]; omega) (by omega) (by omega) (by omega) (by omega) (Nat.zero_le _) (Own.nil _ _ _ _)
end
end Go.Proofs.YtdagfcflbphoiaaGreatDoor

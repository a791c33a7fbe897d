import Derived.Test.YtdagfcflbphoiaaGreatDoorMax
namespace Go.Proofs.YtdagfcflbphoiaaGreatDoor
set_option linter.unusedVariables false
set_option linter.unusedSimpArgs false
open Go.RowKit Ev Cn

section
variable {β : Type} {W : Nat → Prop} {n0 : Nat} {h : H} {n : Nat} {Q : β → H → Nat → Prop} {P : Program}
theorem zabp {t : TypeId} {sz : Nat} (hs : size? P t = some sz) {b : Nat} {e : TypeId} {cs vs : List Value} (hl : vs.length = sz) (hc : cs.length = sz) (h1 : vs.all one = true) (g : h.get b = some ⟨e, true, cs⟩) (hb : b < n) (hw : n0 ≤ b ∨ W b) (k : Value → M β)
    (x : ∀ h', h'.get b = some ⟨e, true, vs⟩ → (∀ c, c ≠ b → h'.get c = h.get c) → Run W n0 (k undef) h' n Q) : Run W n0 ((inside (evStore P t (.pointer (some ⟨b, 0, none⟩)) (.agg vs.toArray))).bind k) h n Q := by
  refine zbvg hs (vs := vs) (by simp [Value.cells]) hl h1 g hb (by omega) hw k fun h' g' k' => x h' ?_ k'
  rw [g', List.take_zero, List.nil_append, List.drop_eq_nil_of_le (by omega), List.append_nil]
end
theorem zabs {W : Nat → Prop} {n0 : Nat} {h : H} {n : Nat} {Q : Value → H → Nat → Prop} {P : Program} {t : TypeId} {sz : Nat} (ha : agg? P t = some true) (hs : size? P t = some sz) {b : Nat} {e : TypeId} {vs : List Value} (g : h.get b = some ⟨e, true, vs⟩) (hl : vs.length = sz) (hb : b < n) (x : Q (.agg vs.toArray) h n) : Run W n0 ((evLoad P t (.pointer (some ⟨b, 0, none⟩))).bind fun v => outK [v]) h n Q := by
  refine zbsm ha hs b 0 _ g hb (by show 0 + sz ≤ vs.length; omega) ?_
  rw [zben]
  have : ((vs.drop 0).take sz) = vs := by rw [List.drop_zero, ← hl, List.take_length]
  show Q (.agg ((vs.drop 0).take sz).toArray) h n
  rw [this]
  exact x

def oT (o : List Nat) : Value := .string ⟨(o.map fun x => UInt8.ofNat (48 + x)).toArray⟩
theorem oT0 : Value.string { data := #[48, 49, 50, 51, 52, 53] } = oT ord0 := rfl
theorem zcjz (o : List Nat) (h6 : ∀ x ∈ o, x < 6) (i : Nat) (h1 : i < o.length) : zaee Tryz.prog 9 (oT o) (.int .i64 (i : Int)) = some (.int .u8 ((48 + o.getD i 0 : Nat) : Int)) := by
  unfold oT
  rw [ixs9 _ _ _ (by omega) (by rw [List.length_map]; omega), Int.toNat_natCast, List.getD_eq_getElem?_getD, List.getElem?_map, List.getElem?_eq_getElem h1, List.getD_eq_getElem?_getD, List.getElem?_eq_getElem h1]
  have := h6 _ (List.getElem_mem h1)
  show some (Value.int .u8 ((UInt8.ofNat (48 + o[i])).toNat : Int)) = some (Value.int .u8 ((48 + o[i] : Nat) : Int))
  rw [UInt8.toNat_ofNat', Nat.mod_eq_of_lt (by omega)]
section
variable {lf d n : Nat} {h : H}
theorem zcgb (o : List Nat) (i : Nat) (hi : i < o.length) (hl : o.length ≤ 100) : Run (fun _ => False) n (zaac Tryz.prog gt lf (d + 1) 84 #[oT o, .int .i64 (i : Int)]) h n fun v' h' n' => v' = oT (tch 0 o i) ∧ h' = h ∧ n' = n := by
  rw [zbgt]
  refine Run.inside_ ?_
  unfold zauu
  obtain ⟨l, hl2⟩ : ∃ l, (o.map fun x => UInt8.ofNat (48 + x)) = l := ⟨_, rfl⟩
  have hll : l.length = o.length := by rw [← hl2, List.length_map]
  have e1 : (i : Int) + 1 = ((i + 1 : Nat) : Int) := by omega
  have w1 : IntKind.i64.wrap ((i : Int) + 1) = ((i + 1 : Nat) : Int) := by rw [zaav (by omega) (by omega)]; omega
  have s1 := fun (k : Value → M Value) => slb9 l .i64 .i64 (i : Int) ((i + 1 : Nat) : Int) k (by omega) (by omega) (by omega)
  have s2 := fun (k : Value → M Value) => slh9 l .i64 (i : Int) k (by omega) (by omega)
  have s3 := fun (k : Value → M Value) => sll9 l .i64 ((i + 1 : Nat) : Int) k (by omega) (by omega)
  have l1 : ((l.drop i).take (i + 1 - i)).length = 1 := by rw [List.length_take, List.length_drop]; omega
  have l2 : (l.take i).length = i := by rw [List.length_take]; omega
  have l3 : (l.drop (i + 1)).length ≤ o.length := by rw [List.length_drop]; omega
  have b1 := badd9 ((l.drop i).take (i + 1 - i)) (l.take i) (by omega)
  have b2 := badd9 ((l.drop i).take (i + 1 - i) ++ l.take i) (l.drop (i + 1)) (by rw [List.length_append]; omega)
  unfold oT
  rw [hl2]
  try simp (disch := first | omega | assumption | exact zaae _ _ | exact zaab _ _ _ | exact zaaf _ | exact zaad _ | exact zaaa _) only [Nat.reduceAdd, Nat.reduceLT, RZ, w1, s1, s2, s3, b1, b2]
  unfold tch
  have e2 : (l.drop i).take (i + 1 - i) = [UInt8.ofNat (48 + o.getD i 0)] := by
    rw [show i + 1 - i = 1 by omega, ← hl2, ← List.map_drop, List.drop_eq_getElem_cons hi, List.getD_eq_getElem?_getD, List.getElem?_eq_getElem hi]
    rfl
  rw [e2, ← hl2]
  simp [List.map_take, List.map_drop]
end
theorem zbfc : ∀ (r o : Nat) (bs : List Bool), pickB r o bs = if r ≤ onesL bs then .bad 25 else if onesL bs = bs.length then .short else .ok (o + onesL bs) (o + onesL bs + 1)
  | 0, o, bs => by rw [if_pos (Nat.zero_le _)]; simp [pickB]
  | r + 1, o, [] => by
    rw [if_neg (by show ¬ r + 1 ≤ 0; omega), if_pos (show onesL [] = ([] : List Bool).length from rfl)]; rfl
  | r + 1, o, false :: bs => by
    rw [if_neg (by show ¬ r + 1 ≤ 0; omega), if_neg (by show ¬ 0 = bs.length + 1; omega)]; rfl
  | r + 1, o, true :: bs => by
    show pickB r (o + 1) bs = _
    rw [zbfc r (o + 1) bs]
    show _ = if r + 1 ≤ onesL bs + 1 then _ else if onesL bs + 1 = bs.length + 1 then _ else _
    by_cases h : r ≤ onesL bs
    · rw [if_pos h, if_pos (by omega)]
    · rw [if_neg h, if_neg (show ¬ r + 1 ≤ onesL bs + 1 by omega)]
      by_cases h2 : onesL bs = bs.length
      · rw [if_pos h2, if_pos (show onesL bs + 1 = bs.length + 1 by omega)]
      · rw [if_neg h2, if_neg (show ¬ onesL bs + 1 = bs.length + 1 by omega)]
        show St.ok _ _ = St.ok (o + (onesL bs + 1)) (o + (onesL bs + 1) + 1)
        rw [show o + 1 + onesL bs = o + (onesL bs + 1) by omega]
def runP : Nat → Pk → List Bool → Nat → St Pk
  | 0, _, _, _ => .short
  | N + 1, s, bs, a => if s.fin = true then .ok s a else match stepP s bs with
    | .short => .short
    | .bad e => .bad e
    | .ok s' u => runP N s' (bs.drop u) (a + u)
def pk0 : Pk := ⟨0, 0, ord0, []⟩
def P13 (n : Nat) (r : St Pk) (v' : Value) (h' : H) (n' : Nat) : Prop := ∃ (pv : Value) (t a u e : Int), v' = .agg #[pv, .int .i64 t, .int .i64 a, .int .i64 u, .int .i64 e] ∧
  match r with
  | .short => e = 3 ∧ pv = .slice none 0 0
  | .bad e0 => e0 = 25 ∧ e = 25 ∧ pv = .slice none 0 0
  | .ok s a0 => e = 0 ∧ t = s.t ∧ a = (a0 : Int) ∧ Own h' n n' 3 pv (intsV .i64 (iN s.picks))
section
variable {lf d n : Nat} {h : H}
theorem zcfg {l : List Bool} (hl : l.length ≤ 1000000) (hlf : 3000000 ≤ lf) : ∀ (N fu : Nat) (h' : H) (n' : Nat) (s : Pk) (pv : Value) (a : Nat), n + 1 ≤ n' → h'.get n = some ⟨88, true, [.slice none 0 0, .int .i64 0, .int .i64 0, .int .i64 0, .int .i64 0]⟩ → (l.drop a).length < N → N ≤ fu → a ≤ l.length → s.t ≤ 6 → s.Ok → s.ord.length = 6 → (∀ x ∈ s.ord, x < 6) → s.count ≠ 0 → s.count < 32768 → Own h' (n + 1) n' 3 pv (intsV .i64 (iN s.picks)) →
    Run (fun _ => False) n (zahf lf (d + 1) fu (zaer lf (d + 1)) (tx l) (.pointer (some ⟨n, 0, none⟩)) (.int .i64 (s.t : Int)) (.int .i64 (s.count : Int)) (oT s.ord) pv (.int .i64 (a : Int)) (.bool false) (.bool false)) h' n' (P13 n (runP N s (l.drop a) a)) := by
  intro N
  induction N with
  | zero => intro fu h' n' s pv a _ _ hN; omega
  | succ N ih =>
    intro fu h' n' s pv a hn' g hN hfu hal h6 ok ho6 ho hc hc2 og
    obtain ⟨fu, rfl⟩ : ∃ f, fu = f + 1 := ⟨fu - 1, by omega⟩
    obtain ⟨ga, gc, rfl⟩ := og.row.len
    have hil := zadn s.picks
    have hle := ok.len hc
    have agg : agg? Tryz.prog 88 = some true := by kernel_rfl
    rw [zbcm]
    unfold runP
    by_cases hf : s.picks.length = s.count
    · have fin : s.fin = true := by unfold Pk.fin; rw [decide_eq_true hf, decide_eq_true (show 0 < s.count by omega)]; rfl
      have c1 : ¬ ((((iN s.picks).length : Nat) : Int) < ((s.count : Nat) : Int)) := by omega
      try simp (disch := first | omega | assumption | exact zaae _ _ | exact zaab _ _ _ | exact zaaf _ | exact zaad _ | exact zaaa _) only [Nat.reduceAdd, Nat.reduceLT, RZ, c1]
      rw [zbey, fin, if_pos rfl]
      try simp (disch := first | omega | assumption | exact zaae _ _ | exact zaab _ _ _ | exact zaaf _ | exact zaad _ | exact zaaa _) only [Nat.reduceAdd, Nat.reduceLT, RZ]
      refine zabp sz88 (vs := [.slice ga (iN s.picks).length gc, .int .i64 (s.t : Int), .int .i64 (a : Int), .int .i64 (a : Int), .int .i64 0]) rfl rfl rfl g (by omega) (.inl (Nat.le_refl _)) _ fun h1 g1 k1 => ?_
      refine zabs agg sz88 g1 rfl (by omega) ?_
      exact ⟨_, _, _, _, _, rfl, rfl, rfl, rfl, (og.keep (Nat.le_refl _) fun b hb => k1 b (by have := (og.lt hb).1; omega)).low (by omega)⟩
    · have fin : s.fin = false := by unfold Pk.fin; rw [decide_eq_false hf, Bool.and_false]
      have c1 : ((((iN s.picks).length : Nat) : Int) < ((s.count : Nat) : Int)) := by omega
      have s1 := fun (k : Value → M Value) => tx_lo l .i64 (a : Int) k (by omega) (by omega)
      rw [Int.toNat_natCast] at s1
      try simp (disch := first | omega | assumption | exact zaae _ _ | exact zaab _ _ _ | exact zaaf _ | exact zaad _ | exact zaaa _) only [Nat.reduceAdd, Nat.reduceLT, RZ, c1, s1]
      refine zaaw (zcje (lf := lf) (d := d) (l.drop a) (by rw [List.length_drop]; omega) (by rw [List.length_drop]; omega)) (by omega) (fun _ _ h => h.elim) ?_
      obtain ⟨o, hon⟩ : ∃ o, onesL (l.drop a) = o := ⟨_, rfl⟩
      have hol := zbwc (l.drop a)
      have hdl : (l.drop a).length = l.length - a := List.length_drop
      rw [hon] at hol ⊢
      rw [fin, if_neg (by decide)]
      unfold stepP
      rw [if_neg hc, zbfc, hon, Nat.zero_add]
      by_cases ct : s.t ≤ o
      · have c2 : ((s.t : Nat) : Int) ≤ (o : Int) := by omega
        try simp (disch := first | omega | assumption | exact zaae _ _ | exact zaab _ _ _ | exact zaaf _ | exact zaad _ | exact zaaa _) only [Nat.reduceAdd, Nat.reduceLT, RZ, c2]
        rw [if_pos ct]
        refine zabp sz88 (vs := [.slice none 0 0, .int .i64 0, .int .i64 0, .int .i64 ((a : Int) + (s.t : Int)), .int .i64 25]) rfl rfl rfl g (by omega) (.inl (Nat.le_refl _)) _ fun h1 g1 k1 => ?_
        rw [zbez]
        refine zabs agg sz88 g1 rfl (by omega) ?_
        exact ⟨_, _, _, _, _, rfl, rfl, rfl, rfl⟩
      · have c2 : ¬ ((s.t : Nat) : Int) ≤ (o : Int) := by omega
        rw [if_neg ct]
        by_cases ce : o = (l.drop a).length
        · have c3 : ((a : Int) + (o : Int) == ((l.length : Nat) : Int)) = true := beq_iff_eq.2 (by omega)
          try simp (disch := first | omega | assumption | exact zaae _ _ | exact zaab _ _ _ | exact zaaf _ | exact zaad _ | exact zaaa _) only [Nat.reduceAdd, Nat.reduceLT, RZ, c2, zacs, c3]
          rw [if_pos ce]
          refine zabp sz88 (vs := [.slice none 0 0, .int .i64 0, .int .i64 0, .int .i64 0, .int .i64 3]) rfl rfl rfl g (by omega) (.inl (Nat.le_refl _)) _ fun h1 g1 k1 => ?_
          rw [zbdg]
          refine zabs agg sz88 g1 rfl (by omega) ?_
          exact ⟨_, _, _, _, _, rfl, rfl, rfl⟩
        · have c3 : ((a : Int) + (o : Int) == ((l.length : Nat) : Int)) = false := beq_eq_false_iff_ne.2 (by omega)
          rw [if_neg ce]
          have ho6' : o < s.ord.length := by omega
          have ix := zcjz s.ord ho o ho6'
          obtain ⟨v, hv⟩ : ∃ v, s.ord.getD o 0 = v := ⟨_, rfl⟩
          have hv6 : v < 6 := by
            rw [← hv, List.getD_eq_getElem?_getD, List.getElem?_eq_getElem ho6']
            exact ho _ (List.getElem_mem _)
          rw [hv] at ix
          have w1 : IntKind.i64.wrap ((48 + v : Nat) : Int) = ((48 + v : Nat) : Int) := zaav (by omega) (by omega)
          have w2 : IntKind.i64.wrap (((48 + v : Nat) : Int) - 48) = (v : Int) := by rw [zaav (by omega) (by omega)]; omega
          try simp (disch := first | omega | assumption | exact zaae _ _ | exact zaab _ _ _ | exact zaaf _ | exact zaad _ | exact zaaa _) only [Nat.reduceAdd, Nat.reduceLT, RZ, c2, zacs, c3, ix, w1, w2]
          refine zalx c1x22 (zaae _ _) og (by rw [zabm]; omega) (fun b hb => .inl (by have := (og.lt hb).1; omega)) _ fun h2 g2 k2 => ?_
          refine zaaw (zcgb (lf := lf) (d := d) s.ord o ho6' (by omega)) (by omega) (fun _ _ h => h.elim) ?_
          have st : stepP s (l.drop a) = .ok ⟨s.t, s.count, tch 0 s.ord o, s.picks ++ [s.ord.getD o 0]⟩ (o + 1) := by
            unfold stepP
            rw [if_neg hc, zbfc, hon, Nat.zero_add, if_neg ct, if_neg ce]
          have ok2 := (zbkn ok h6 ho6 fin st).1
          rw [show (a : Int) + (o : Int) + 1 = ((a + (o + 1) : Nat) : Int) by omega, List.drop_drop]
          refine ih fu h2 (n' + 2) ⟨s.t, s.count, tch 0 s.ord o, s.picks ++ [s.ord.getD o 0]⟩ _ (a + (o + 1)) (by omega) ((k2 n (by omega) fun hb => by have := (og.lt hb).1; omega).trans g) (by rw [List.length_drop]; omega) (by omega) (by omega) h6 ok2 (zaww (dv := 0) ho6 (by omega)) (fun x hx => ?_) hc hc2 ?_
          · have hx : x ∈ tch 0 s.ord o := hx
            unfold tch at hx
            rcases List.mem_cons.1 hx with rfl | hx
            · rw [hv]; exact hv6
            · rcases List.mem_append.1 hx with hx | hx
              · exact ho x (List.mem_of_mem_take hx)
              · exact ho x (List.mem_of_mem_drop hx)
          · have on : intsV .i64 (iN (s.picks ++ [s.ord.getD o 0])) = intsV .i64 (iN s.picks) ++ [.int .i64 ((v : Nat) : Int)] := by
              rw [zbic, zall, hv]; rfl
            show Own h2 (n + 1) (n' + 2) _ _ (intsV .i64 (iN (s.picks ++ [s.ord.getD o 0])))
            rw [on]
            exact .inr ⟨n' + 1, by simp, g2, by omega, by omega⟩
theorem s_r13 (l : List Bool) (hl : l.length ≤ 1000000) (hlf : 3000000 ≤ lf) : Run (fun _ => False) n (zaac Tryz.prog gt lf (d + 2) 53 #[tx l]) h n (P13 n (runP (l.length + 1) pk0 l 0)) := by
  rw [zbhs]
  refine Run.inside_ ?_
  unfold zawk
  refine zagr zr88 _ ?_
  have ga : agg? Tryz.prog 88 = some true := by kernel_rfl
  have gb := fun (h : H) (cs : List Value) => zaaz h n (some ⟨88, true, cs⟩)
  have f0 : pk0.fin = false := rfl
  by_cases h18 : l.length < 18
  · have c1 : ((l.length : Nat) : Int) < 18 := by omega
    try simp (disch := first | omega | assumption | exact zaae _ _ | exact zaab _ _ _ | exact zaaf _ | exact zaad _ | exact zaaa _) only [Nat.reduceAdd, Nat.reduceLT, RZ, zacs, c1]
    refine zabp sz88 (vs := [.slice none 0 0, .int .i64 0, .int .i64 0, .int .i64 0, .int .i64 3]) rfl rfl rfl (gb _ _) (by omega) (.inl (Nat.le_refl _)) _ fun h1 g1 k1 => ?_
    refine zabs ga sz88 g1 rfl (by omega) ?_
    have : runP (l.length + 1) pk0 l 0 = .short := by
      unfold runP
      rw [f0, if_neg (by decide)]
      unfold stepP
      rw [if_pos (show pk0.count = 0 from rfl), if_pos h18]
    rw [this]
    exact ⟨_, _, _, _, _, rfl, rfl, rfl⟩
  · have c1 : ¬ ((l.length : Nat) : Int) < 18 := by omega
    obtain ⟨t, ht⟩ : ∃ t, num (l.take 18) 0 / 32768 = t := ⟨_, rfl⟩
    obtain ⟨q, hq⟩ : ∃ q, num (l.take 18) 0 % 32768 = q := ⟨_, rfl⟩
    have hv := zagu (l.take 18)
    rw [List.length_take, Nat.min_eq_left (by omega)] at hv
    have hn1 : num (l.take 3) 0 = t ∧ num ((l.drop 3).take 15) 0 = q := by
      have e1 : l.take 18 = l.take 3 ++ (l.drop 3).take 15 := by
        rw [← List.take_append_drop 3 (l.take 18), List.take_take, List.drop_take]
        rfl
      have e2 := zapl ((l.drop 3).take 15) (num (l.take 3) 0)
      have e3 : num (l.take 18) 0 = num (l.take 3) 0 * 2 ^ 15 + num ((l.drop 3).take 15) 0 := by
        rw [e1, zaxb, e2, List.length_take, List.length_drop, Nat.min_eq_left (by omega)]
      have e4 := zagu ((l.drop 3).take 15)
      rw [List.length_take, List.length_drop, Nat.min_eq_left (by omega)] at e4
      omega
    have tl : t < 8 := by omega
    have ql : q < 32768 := by omega
    have w1 : IntKind.i64.wrap ((t : Nat) : Int) = (t : Int) := zaav (by omega) (by omega)
    have w2 : IntKind.i64.wrap ((q : Nat) : Int) = (q : Int) := zaav (by omega) (by omega)
    have s1 := fun (k : Value → M Value) => tx_hi l .i64 (3 : Int) k (by omega) (by omega)
    have s2 := fun (k : Value → M Value) => zbwi l .i64 .i64 (3 : Int) (18 : Int) k (by omega) (by omega) (by omega)
    have i1 : (3 : Int).toNat = 3 := rfl
    have i2 : (18 : Int).toNat - (3 : Int).toNat = 15 := rfl
    rw [i1] at s1
    rw [i2, i1] at s2
    have st0 : stepP pk0 l = if (2 ≤ t ∧ t ≤ 6) ∧ q ≠ 0 then .ok ⟨t, q, ord0, []⟩ 18 else .bad 25 := by
      unfold stepP
      rw [if_pos (show pk0.count = 0 from rfl), if_neg h18, ht, hq]
      rfl
    have rp : runP (l.length + 1) pk0 l 0 = if (2 ≤ t ∧ t ≤ 6) ∧ q ≠ 0 then runP l.length ⟨t, q, ord0, []⟩ (l.drop 18) 18 else .bad 25 := by
      show (if pk0.fin = true then _ else _) = _
      rw [f0, if_neg (by decide), st0]
      by_cases c : (2 ≤ t ∧ t ≤ 6) ∧ q ≠ 0
      · rw [if_pos c, if_pos c]
      · rw [if_neg c, if_neg c]
    try simp (disch := first | omega | assumption | exact zaae _ _ | exact zaab _ _ _ | exact zaaf _ | exact zaad _ | exact zaaa _) only [Nat.reduceAdd, Nat.reduceLT, RZ, zacs, c1, s1]
    refine zaaw (s_num (lf := lf) (d := d) (l.take 3) (by rw [List.length_take]; omega) (by omega)) (by omega) (fun _ _ h => h.elim) ?_
    rw [hn1.1]
    try simp (disch := first | omega | assumption | exact zaae _ _ | exact zaab _ _ _ | exact zaaf _ | exact zaad _ | exact zaaa _) only [Nat.reduceAdd, Nat.reduceLT, RZ, s2, w1]
    refine zaaw (s_num (lf := lf) (d := d) ((l.drop 3).take 15) (by rw [List.length_take]; omega) (by omega)) (by omega) (fun _ _ h => h.elim) ?_
    rw [hn1.2]
    have bad : ∀ (u : Int), ¬ ((2 ≤ t ∧ t ≤ 6) ∧ q ≠ 0) → Run (fun _ => False) n ((inside (evStore Tryz.prog 88 (.pointer (some ⟨n, 0, none⟩)) (.agg #[.slice none 0 0, .int .i64 0, .int .i64 0, .int .i64 u, .int .i64 25]))).bind fun _ => (evLoad Tryz.prog 88 (.pointer (some ⟨n, 0, none⟩))).bind fun v => outK [v]) (h.set n (some ⟨88, true, [.slice none 0 0, .int .i64 0, .int .i64 0, .int .i64 0, .int .i64 0]⟩)) (n + 1) (P13 n (runP (l.length + 1) pk0 l 0)) := by
      intro u hc
      refine zabp sz88 (vs := [.slice none 0 0, .int .i64 0, .int .i64 0, .int .i64 u, .int .i64 25]) rfl rfl rfl (gb _ _) (by omega) (.inl (Nat.le_refl _)) _ fun h1 g1 k1 => ?_
      refine zabs ga sz88 g1 rfl (by omega) ?_
      rw [rp, if_neg hc]
      exact ⟨_, _, _, _, _, rfl, rfl, rfl, rfl⟩
    by_cases ct : 2 ≤ t
    · have d1 : ¬ ((t : Int) < 2) := by omega
      by_cases ct2 : t ≤ 6
      · have d2 : ¬ ((6 : Int) < (t : Int)) := by omega
        by_cases cq : q = 0
        · have d3 : ((q : Int) == 0) = true := by rw [cq]; rfl
          try simp (disch := first | omega | assumption | exact zaae _ _ | exact zaab _ _ _ | exact zaaf _ | exact zaad _ | exact zaaa _) only [Nat.reduceAdd, Nat.reduceLT, RZ, w2, d1, d2, d3]
          exact bad 18 fun c => c.2 cq
        · have d3 : ((q : Int) == 0) = false := beq_eq_false_iff_ne.2 (by omega)
          try simp (disch := first | omega | assumption | exact zaae _ _ | exact zaab _ _ _ | exact zaaf _ | exact zaad _ | exact zaaa _) only [Nat.reduceAdd, Nat.reduceLT, RZ, w2, d1, d2, d3, oT0]
          rw [rp, if_pos ⟨⟨ct, ct2⟩, cq⟩]
          refine zcfg hl hlf l.length lf _ (n + 1) ⟨t, q, ord0, []⟩ (.slice none 0 0) 18 (Nat.le_refl _) (gb _ _) (by rw [List.length_drop]; omega) (by omega) (by omega) ct2 ⟨fun e => absurd e cq, fun j hj => ?_, fun x hx => absurd hx (by simp), fun _ => Nat.zero_le _, fun _ => ct⟩ rfl (fun x hx => ?_) cq ql (Own.nil _ _ _ _)
          · rw [zbuw (by have : j < t := hj; omega)]; exact hj
          · exact (by decide : ∀ x ∈ ord0, x < 6) x hx
      · have d2 : (6 : Int) < (t : Int) := by omega
        try simp (disch := first | omega | assumption | exact zaae _ _ | exact zaab _ _ _ | exact zaaf _ | exact zaad _ | exact zaaa _) only [Nat.reduceAdd, Nat.reduceLT, RZ, w2, d1, d2]
        exact bad 18 fun c => ct2 c.1.2
    · have d1 : (t : Int) < 2 := by omega
      try simp (disch := first | omega | assumption | exact zaae _ _ | exact zaab _ _ _ | exact zaaf _ | exact zaad _ | exact zaaa _) only [Nat.reduceAdd, Nat.reduceLT, RZ, w2, d1]
      exact bad 18 fun c => ct c.1.1
end
end Go.Proofs.YtdagfcflbphoiaaGreatDoor

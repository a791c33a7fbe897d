/- One round of the reference's depths: two trees are joined. -/
import Derived.Test.YtdagfcflbphoiaaDoorMan
import Derived.Test.YtdagfcflbphoiaaDoorMam
import Derived.Test.YtdagfcflbphoiaaDoorMae
namespace Go.Proofs.YtdagfcflbphoiaaDoor
set_option linter.unusedVariables false
set_option linter.unusedSimpArgs false
open Go.RowKit Ev Hu

set_option maxHeartbeats 1000000 in
theorem join2 (lf d fu : Nat) (hlf : 3000000 ≤ lf) {W : Nat → Prop} {n0 : Nat} {Q : Value → H → Nat → Prop} (h : H) (n lo n1 n4 bo N c : Nat) (next : Nat) (hnx : next ≤ 1000000) (v57 : Value) (l2 : List RT) (wa wb : Int) (ma mb la lb : Value) (lsa lsb : List Nat) (out : List Int) (x0 x2 x3 x9 x11 x18 x19 x20 x21 x39 : Value) (k : Ex → Fr → M Value)
    (G1 : h.get n1 = some ⟨75, true, [.int .i64 wa, ma, la]⟩) (G2 : h.get n4 = some ⟨75, true, [.int .i64 wb, mb, lb]⟩) (l1 : n1 < n) (l4 : n4 < n) (Ra : Row h n 3 .i64 la (natsI lsa)) (Rb : Row h n 3 .i64 lb (natsI lsb))
    (go : h.get bo = some ⟨3, true, ints out⟩) (hbo : bo < n) (nbo : n0 ≤ bo) (b1 : n1 ≠ bo) (b4 : n4 ≠ bo) (o6 : Own3 h lo n 75 v57 (l2.map tv)) (hlo : n0 ≤ lo) (hln : lo ≤ n) (s6 : ¬ InBlk v57 bo) (hl2 : l2.length ≤ 1000) (hla : lsa.length ≤ 1000) (hlb : lsb.length ≤ 1000)
    (hnd : (lsa ++ lsb).Nodup) (hil : ∀ i ∈ lsa ++ lsb, i < N) (hol : out.length = N) (hob : ∀ i, 0 ≤ out.getD i 0 ∧ out.getD i 0 ≤ 1000000) (hw0 : 0 ≤ wa + wb) (hw1 : wa + wb ≤ 1152921504606846976)
    (hK : ∀ h' n' v10 lv8, n ≤ n' → Own3 h' lo n' 75 v10 ((l2 ++ [(wa + wb, next, lv8)]).map tv) → (∀ b, InBlk v10 b → n ≤ b) → Row h' n' 3 .i64 lv8 (natsI (lsa ++ lsb)) → IsSl lv8 → (∀ b, InBlk lv8 b → n ≤ b ∧ ¬ InBlk v10 b) → h'.get bo = some ⟨3, true, ints (incAll out (lsa ++ lsb))⟩ → (∀ b, b < n → b ≠ bo → ¬ InBlk v57 b → h'.get b = h.get b) →
      Run W n0 (lpB_balerref09_Depths lf d fu k x0 x2 x3 v10 (.slice (some ⟨bo, 0, none⟩) N c) (.int .i64 ((next + 1 : Nat) : Int)) x18 x19 x20 x21) h' n' Q) :
    Run W n0 (optK (evFieldAddr Tryd.prog 75 (.pointer (some ⟨n1, 0, none⟩)) 2) fun v59 => (inside (evLoad Tryd.prog 22 v59)).bind fun v60 => (inside (evAppend Tryd.prog 22 (.slice none 0 0) v60)).bind fun v61 =>
      optK (evFieldAddr Tryd.prog 75 (.pointer (some ⟨n4, 0, none⟩)) 2) fun v63 => (inside (evLoad Tryd.prog 22 v63)).bind fun v64 => (inside (evAppend Tryd.prog 22 v61 v64)).bind fun v65 =>
      optK (len2 Tryd.prog #[22] [v65]) fun v67 => lpC_balerref09_Depths lf d lf (kcC_balerref09_Depths lf d fu k) x0 x2 x3 v57 (.slice (some ⟨bo, 0, none⟩) N c) (.int .i64 (next : Nat)) x9 (.pointer (some ⟨n1, 0, none⟩)) x11 (.pointer (some ⟨n4, 0, none⟩)) v65 x18 x19 x20 x21 x39 v65 v67 (.int .i64 0)) h n Q := by
  try simp (disch := first | omega | assumption | exact one_int _ _ | exact one_slice _ _ _ | exact one_ptr _ | exact one_bool _ | exact one_string _) only [RXA, RXB, Nat.reduceAdd, Nat.reduceLT, wrap_id, wrap_succ, wrap_pred, FX1, G1, G2, inv_fld2]
  refine run_appO c1x22 (lo := n) (Own.nil h n n 3) Ra (by rw [natsI_len]; simp; omega) (by omega) (Nat.le_refl _) _ (fun v7 h7 n7 hn7 o7 b7 k7 => ?_)
  have k7' : ∀ c, c < n → h7.get c = h.get c := fun c hc => k7 c hc fun q => q.not_nil
  try simp (disch := first | omega | assumption | exact one_int _ _ | exact one_slice _ _ _ | exact one_ptr _ | exact one_bool _ | exact one_string _) only [RXA, RXB, Nat.reduceAdd, Nat.reduceLT, wrap_id, wrap_succ, wrap_pred, FX1, (k7' n4 l4).trans G2, inv_fld2]
  refine run_appO c1x22 (lo := n) o7 (Rb.keep hn7 k7') (by rw [natsI_len, List.length_append, intsV_len, natsI_len]; simp; omega) (by omega) (by omega) _ (fun v8 h8 n8 hn8 o8 b8 k8 => ?_)
  have k8' : ∀ c, c < n → h8.get c = h7.get c := fun c hc => k8 c (by omega) fun q => by
    rcases b7 c q with r | r
    · exact r.not_nil
    · omega
  have e8 : ([] ++ intsV .i64 (natsI lsa)) ++ intsV .i64 (natsI lsb) = intsV .i64 (natsI (lsa ++ lsb)) := by unfold intsV natsI; simp
  rw [e8] at o8
  have R8 : Row h8 n8 3 .i64 v8 (natsI (lsa ++ lsb)) := o8.row
  have v8lt := fun c hc => o8.lt (b := c) hc
  obtain ⟨a8, c8, rfl⟩ := R8.len
  rw [len22, optK_some_eq]
  have K8 : ∀ c, c < n → h8.get c = h.get c := fun c hc => by rw [k8' c hc, k7' c hc]
  obtain ⟨ls, hls⟩ : ∃ ls, lsa ++ lsb = ls := ⟨_, rfl⟩
  have hll : ls.length ≤ 2000 := by rw [← hls, List.length_append]; omega
  rw [hls] at hnd hil o8 R8 v8lt ⊢
  simp only [hls] at hK
  clear o7 b7 k7 b8 k8 e8
  have e0 : (.int .i64 0 : Value) = .int .i64 ((0 : Nat) : Int) := rfl
  rw [e0]
  have hR0 := R8
  have e67 : (Value.int .i64 ((natsI ls).length : Nat)) = .int .i64 (ls.length : Nat) := by rw [natsI_len]
  rw [e67]
  refine rdC lf d n8 h8 _ ls hR0 (by omega) bo N c out (by omega) (fun q hq => by have := (v8lt q hq).1; omega) hol hnd hil hob _ _ _ _ _ _ _ _ _ _ _ _ _ _ _ nbo _ (fun h9 y69 go9 k9 => ?_) ls.length 0 lf h8 (by omega) (by omega) (by omega) (by rw [List.take_zero]; exact (K8 bo hbo).trans go) (fun _ _ => rfl)
  rw [kcCa_balerref09_Depths]
  have G1' : h9.get n1 = some ⟨75, true, [.int .i64 wa, ma, la]⟩ := by rw [k9 n1 b1, K8 n1 l1]; exact G1
  have G2' : h9.get n4 = some ⟨75, true, [.int .i64 wb, mb, lb]⟩ := by rw [k9 n4 b4, K8 n4 l4]; exact G2
  have wr1 : IntKind.i64.wrap (wa + wb) = wa + wb := wrap_id (by omega) (by omega)
  have wr2 : ((next : Nat) : Int) + 1 = ((next + 1 : Nat) : Int) := by omega
  try simp (disch := first | omega | assumption | exact one_int _ _ | exact one_slice _ _ _ | exact one_ptr _ | exact one_bool _ | exact one_string _) only [RXA, RXB, Nat.reduceAdd, Nat.reduceLT, wrap_id, wrap_succ, wrap_pred, FX1, G1', G2', inv_fld0, wr1]
  have o6' : Own3 h9 lo n8 75 v57 (l2.map tv) := o6.keep (by omega) fun c hc => by
    have := o6.lt hc
    rw [k9 c (fun e => s6 (e ▸ hc)), K8 c this.2]
  refine run_push3 c3t (x := tv (wa + wb, next, .slice a8 (natsI ls).length c8)) ⟨rfl, rfl, rfl⟩ o6' (by rw [List.length_map]; omega) hlo (by omega) _ (fun v10 h10 o10 b10 k10 => ?_)
  try simp (disch := first | omega | assumption | exact one_int _ _ | exact one_slice _ _ _ | exact one_ptr _ | exact one_bool _ | exact one_string _) only [RXA, RXB, Nat.reduceAdd, Nat.reduceLT, wrap_id, wrap_succ, wrap_pred, FX1]
  rw [wr2]
  refine hK h10 (n8 + 2) v10 (.slice a8 (natsI ls).length c8) (by omega) (by rw [List.map_append]; exact o10) (fun b hb => by have := b10 b hb; omega) (R8.keep' (by omega) fun q hq => ?_) ⟨_, _, _, rfl⟩ (fun q hq => ⟨(v8lt q hq).1, fun r => by have := b10 q r; have := v8lt q hq; omega⟩) ?_ (fun q hq hne hns => ?_)
  · have := v8lt q hq
    rw [k10 q (by omega) (fun r => by have := (o6.lt r).2; omega), k9 q (by omega)]
  · rw [k10 bo (by omega) s6]
    exact go9
  · rw [k10 q (by omega) hns, k9 q hne, K8 q hq]

end Go.Proofs.YtdagfcflbphoiaaDoor
/- The reference's depths whole: they are the program's. -/
namespace Go.Proofs.YtdagfcflbphoiaaDoor
set_option linter.unusedVariables false
set_option linter.unusedSimpArgs false
open Go.RowKit Ev Hu

theorem len_mem_flat {lv : Nat → List Nat} : ∀ {L : List Nat} {t : Nat}, t ∈ L → (lv t).length ≤ (L.flatMap lv).length
  | [], t, h => by simp at h
  | x :: L, t, h => by
    rw [List.flatMap_cons, List.length_append]
    rcases List.mem_cons.1 h with e | e
    · subst e; omega
    · have := len_mem_flat (lv := lv) e; omega
set_option maxHeartbeats 2000000 in
theorem rdB (lf d : Nat) (hlf : 3000000 ≤ lf) {ws : List Int} {D : List Nat} {w : Nat → Int} {I A B : Nat → Nat} {X R : Nat → List Nat} {dep : Nat → Nat} (dd : Deps ws D w I A B X R dep) (hN3 : ws.length ≤ 258) (hroot : w (2 * ws.length - 2) ≤ 1152921504606846976) (nb bo c : Nat) (hc : ws.length ≤ c) (hbo : nb ≤ bo) (x0 x2 x3 x18 x19 x20 x21 : Value) {W : Nat → Prop} {n0 : Nat} (hn0 : n0 ≤ nb) :
    ∀ (m k fu : Nat) (h : H) (n : Nat) (v4 : Value) (l : List RT) (lv : Nat → List Nat) (out : List Int), ws.length - 1 - k = m → m < fu → k + 1 ≤ ws.length → bo < n → RM h nb n v4 l lv → PInv ws.length dep X k (l.map (·.2.1)) lv out → (∀ t ∈ l, t.1 = w t.2.1) → h.get bo = some ⟨3, true, ints out⟩ → ¬ InBlk v4 bo → (∀ t ∈ l, ¬ InBlk t.2.2 bo) →
      Run W n0 (lpB_balerref09_Depths lf (d + 2) fu (kcB_balerref09_Depths lf (d + 2)) x0 x2 x3 v4 (.slice (some ⟨bo, 0, none⟩) ws.length c) (.int .i64 ((ws.length + k : Nat) : Int)) x18 x19 x20 x21) h n fun v' h' n' => Row h' n' 3 .i64 v' (depthsP ws D) ∧ ∀ b, InBlk v' b → n0 ≤ b := by
  intro m
  have hN := dd.m.two
  induction m with
  | zero =>
    intro k fu h n v4 l lv out hm hfu hk hbn hM hP hw hgo hs1 hs2
    obtain ⟨fu, rfl⟩ : ∃ f, fu = f + 1 := ⟨fu - 1, by omega⟩
    have hll : l.length = 1 := by
      have := hP.prm.length_eq
      rw [dd.m.len (by omega), List.length_map] at this
      omega
    obtain ⟨a, cc, rfl⟩ := hM.own.len
    rw [List.length_map, hll] at *
    have e1 : ¬ (1 : Int) < ((1 : Nat) : Int) := by omega
    rw [succB_balerref09_Depths]
    try simp (disch := first | omega | assumption | exact one_int _ _ | exact one_slice _ _ _ | exact one_ptr _ | exact one_bool _ | exact one_string _) only [RXA, RXB, Nat.reduceAdd, Nat.reduceLT, wrap_id, wrap_succ, wrap_pred, FX1, e1]
    rw [kcBa_balerref09_Depths]
    try simp (disch := first | omega | assumption | exact one_int _ _ | exact one_slice _ _ _ | exact one_ptr _ | exact one_bool _ | exact one_string _) only [RXA, RXB, Nat.reduceAdd, Nat.reduceLT, wrap_id, wrap_succ, wrap_pred, FX1]
    obtain rfl : k = ws.length - 1 := by omega
    have ho := hP.last dd.m dd.d0
    rw [← dd.eq] at ho
    subst ho
    have dl : (depthsP ws D).length = ws.length := depthsP_len _ _ (by omega)
    refine ⟨.inr ⟨bo, 0, c, true, _, by rw [dl], hgo, hbn, by rw [ints_len]; omega, ?_, by omega⟩, fun b hb => by rw [hb.inj]; omega⟩
    rw [List.drop_zero, List.take_of_length_le (by rw [ints_len]; exact Nat.le_refl _)]
    rfl
  | succ m ih =>
    intro k fu h n v4 l lv out hm hfu hk hbn hM hP hw hgo hs1 hs2
    obtain ⟨fu, rfl⟩ : ∃ f, fu = f + 1 := ⟨fu - 1, by omega⟩
    have hk2 : k + 2 ≤ ws.length := by omega
    have hll : l.length = ws.length - k := by
      have := hP.prm.length_eq
      rw [dd.m.len (by omega), List.length_map] at this
      omega
    have hsl : ∀ t ∈ l, IsSl t.2.2 := fun t ht => (hM.row t ht).2
    have hO := hM.own
    obtain ⟨a4, c4, ev4⟩ := hO.len
    rw [List.length_map] at ev4
    have e1 : (1 : Int) < ((l.length : Nat) : Int) := by omega
    have hlen4 : len2 Tryd.prog #[73] [v4] = some (.int .i64 (l.length : Nat)) := by
      rw [ev4]
      exact len73 _ _ _
    rw [succB_balerref09_Depths, hlen4]
    try simp (disch := first | omega | assumption | exact one_int _ _ | exact one_slice _ _ _ | exact one_ptr _ | exact one_bool _ | exact one_string _) only [RXA, RXB, Nat.reduceAdd, Nat.reduceLT, wrap_id, wrap_succ, wrap_pred, FX1, e1]
    refine take1 lf d hlf h n nb v4 l hO (by omega) (by omega) (diff_of hP.srt) hsl (by omega) _ (fun a h3 n3 n1 v48 ha hmin hn1 hn1' G1 K3 o3 => ?_)
    have st := dd.m.st k hk2
    have pmem : ∀ x, x ∈ l.map (·.2.1) ↔ x ∈ A k :: B k :: R k := fun x => (hP.prm.trans st).mem_iff
    have ea : l[a].2.1 = A k := min_num hw ha hmin ((pmem _).2 (by simp)) fun x hx hne => dd.m.mA k hk2 x (by
      rcases List.mem_cons.1 ((pmem x).1 hx) with q | q
      · exact absurd q hne
      · exact q)
    obtain ⟨l1, hl1⟩ : ∃ l1, l.eraseIdx a = l1 := ⟨_, rfl⟩
    rw [hl1] at o3
    have hl1l : l1.length = l.length - 1 := by rw [← hl1, List.length_eraseIdx_of_lt ha]
    have hl1m : ∀ t ∈ l1, t ∈ l := fun t ht => (List.eraseIdx_sublist l a).subset (by rw [hl1]; exact ht)
    have nm1 : l1.map (·.2.1) = (l.map (·.2.1)).eraseIdx a := by rw [← hl1, erase_map]
    have hal : a < (l.map (·.2.1)).length := by rw [List.length_map]; exact ha
    have ea' : (l.map (·.2.1))[a] = A k := by rw [List.getElem_map]; exact ea
    have pe := erase_perm hal
    rw [ea', ← nm1] at pe
    have p1 : (l1.map (·.2.1)).Perm (B k :: R k) := ((pe.symm.trans hP.prm).trans st).cons_inv
    have hpw : (l1.map (·.2.1)).Pairwise (· < ·) := by rw [nm1]; exact hP.srt.sublist (List.eraseIdx_sublist _ _)
    refine take1 lf d hlf h3 n3 (n1 + 1) v48 l1 o3 (by omega) (by omega) (diff_of hpw) (fun t ht => hsl t (hl1m t ht)) (by omega) _ (fun b h6 n6 n4 v57 hb hmin2 hn4 hn4' G2 K6 o6 => ?_)
    have eb : l1[b].2.1 = B k := min_num (fun t ht => hw t (hl1m t ht)) hb hmin2 (p1.mem_iff.2 (by simp)) fun x hx hne => dd.m.mB k hk2 x (by
      rcases List.mem_cons.1 (p1.mem_iff.1 hx) with q | q
      · exact absurd q hne
      · exact q)
    obtain ⟨l2, hl2⟩ : ∃ l2, l1.eraseIdx b = l2 := ⟨_, rfl⟩
    rw [hl2] at o6
    have hl2m : ∀ t ∈ l2, t ∈ l := fun t ht => hl1m t ((List.eraseIdx_sublist l1 b).subset (by rw [hl2]; exact ht))
    have hl2l : l2.length = l1.length - 1 := by rw [← hl2, List.length_eraseIdx_of_lt hb]
    have nm2 : l2.map (·.2.1) = ((l.map (·.2.1)).eraseIdx a).eraseIdx b := by rw [← hl2, erase_map, nm1]
    have hbl : b < ((l.map (·.2.1)).eraseIdx a).length := by rw [← nm1, List.length_map]; exact hb
    have eb' : ((l.map (·.2.1)).eraseIdx a)[b] = B k := by
      have : (l1.map (·.2.1))[b]'(by rw [List.length_map]; exact hb) = B k := by rw [List.getElem_map]; exact eb
      simp only [nm1] at this
      exact this
    obtain ⟨hP', hnd, hil⟩ := hP.next dd.m dd.d1 hk2 hal hbl ea' eb'
    rw [← nm2] at hP'
    have KK : ∀ q, q < n → h6.get q = h.get q := fun q hq => by rw [K6 q (by omega), K3 q hq]
    have G1' := (K6 n1 hn1').trans G1
    have mla := List.getElem_mem ha
    have mlb := hl1m _ (List.getElem_mem hb)
    obtain ⟨ta, hta⟩ : ∃ t, l[a] = t := ⟨_, rfl⟩
    obtain ⟨tb, htb⟩ : ∃ t, l1[b] = t := ⟨_, rfl⟩
    rw [hta] at mla ea G1'
    rw [htb] at mlb eb G2
    have Ra : Row h6 n6 3 .i64 ta.2.2 (natsI (lv (A k))) := by
      have := (hM.row _ mla).1
      rw [ea] at this
      exact this.keep (by omega) KK
    have Rb : Row h6 n6 3 .i64 tb.2.2 (natsI (lv (B k))) := by
      have := (hM.row _ mlb).1
      rw [eb] at this
      exact this.keep (by omega) KK
    have lsl : ∀ t, t ∈ l.map (·.2.1) → (lv t).length ≤ 258 := fun t ht => by
      have hsub := len_mem_flat (lv := lv) ht
      rw [hP.cov.length_eq, List.length_range] at hsub
      omega
    have la := lsl (A k) ((pmem _).2 (by simp))
    have lb := lsl (B k) ((pmem _).2 (by simp))
    have outb : ∀ i, 0 ≤ out.getD i 0 ∧ out.getD i 0 ≤ 1000000 := fun i => by
      refine ⟨hP.pos i, ?_⟩
      by_cases hi : i < ws.length
      · obtain ⟨t, ht, hit⟩ := List.mem_flatMap.1 (hP.cov.mem_iff.2 (List.mem_range.2 hi))
        have := (hP.lv t ht i hit).2
        have := dd.le hi
        omega
      · rw [List.getD_eq_getElem?_getD, List.getElem?_eq_none (by rw [hP.len]; omega)]
        simp
    have wa : ta.1 = w (A k) := by rw [hw _ mla, ea]
    have wb : tb.1 = w (B k) := by rw [hw _ mlb, eb]
    have wn := dd.m.wn k hk2
    have wsum : ta.1 + tb.1 = w (ws.length + k) := by rw [wa, wb, wn]
    have wle := dd.m.mono (ws.length + k) (2 * ws.length - 2) (by omega) (by omega) (Nat.le_refl _)
    have wge := dd.m.pos (ws.length + k) (by omega)
    have o6lt := fun q hq => o6.lt (b := q) hq
    refine join2 lf (d + 2) fu hlf h6 n6 (n4 + 1) n1 n4 bo ws.length c (ws.length + k) (by omega) v57 l2 ta.1 tb.1 _ _ ta.2.2 tb.2.2 (lv (A k)) (lv (B k)) out _ _ _ _ _ _ _ _ _ _ _ G1' G2 (by omega) hn4' Ra Rb ((KK bo hbn).trans hgo) (by omega) (by omega) (by omega) (by omega) o6 (by omega) (by omega) (fun q => by have := o6lt bo q; omega) (by omega) (by omega) (by omega) hnd hil hP.len outb (by omega) (by omega) (fun h10 n10 v10 lv8 hn10 o10 b10 R8 sl8 s8 go10 K10 => ?_)
    have K11 : ∀ q, q < n → q ≠ bo → h10.get q = h.get q := fun q hq hne => by
      rw [K10 q (by omega) hne (fun r => by have := o6lt q r; omega), KK q hq]
    have nlt : ∀ t ∈ l2, t.2.1 ≠ ws.length + k := fun t ht e => by
      have := dd.m.lt (k := k) (by omega) (hP.prm.mem_iff.1 (List.mem_map.2 ⟨t, hl2m t ht, rfl⟩))
      omega
    rw [wsum] at o10
    refine ih (k + 1) fu h10 n10 v10 (l2 ++ [(w (ws.length + k), ws.length + k, lv8)]) _ _ (by omega) (by omega) (by omega) (by omega) ⟨o10.low (by omega), fun t ht => ?_, fun t ht q hq r => ?_⟩ (by rw [List.map_append]; exact hP') (fun t ht => ?_) go10 (fun q => by have := b10 bo q; omega) (fun t ht q => ?_)
    · rcases List.mem_append.1 ht with q | q
      · obtain ⟨r, s⟩ := hM.row t (hl2m t q)
        rw [if_neg (nlt t q)]
        exact ⟨r.keep' (by omega) fun q hq => K11 q (r.lt hq) (fun e => hs2 t (hl2m t (by assumption)) (e ▸ hq)), s⟩
      · obtain rfl := List.mem_singleton.1 q
        show Row h10 _ _ _ _ (natsI (if ws.length + k = ws.length + k then _ else _)) ∧ _
        rw [if_pos rfl]
        exact ⟨R8, sl8⟩
    · rcases List.mem_append.1 ht with s | s
      · have := (hM.row t (hl2m t s)).1.lt hq
        have := b10 q r
        omega
      · obtain rfl := List.mem_singleton.1 s
        exact (s8 q hq).2 r
    · rcases List.mem_append.1 ht with q | q
      · exact hw t (hl2m t q)
      · obtain rfl := List.mem_singleton.1 q
        rfl
    · rcases List.mem_append.1 ht with r | r
      · exact hs2 t (hl2m t r) q
      · obtain rfl := List.mem_singleton.1 r
        have := (s8 bo q).1
        omega

/-- the reference's depths -/
theorem s_DepthsR (lf d n : Nat) (h : H) (v : Value) (ws : List Int) (hR : Row h n 3 .i64 v ws) (hW : Ws ws) (so : Sorts ws (sortD ws)) (hlf : 3000000 ≤ lf) (hd : 300 ≤ d) :
    Run (fun _ => False) n (evCall2 Tryd.prog gt lf d 57 #[v]) h n fun v' h' n' => Row h' n' 3 .i64 v' (depF ws) ∧ ∀ b, InBlk v' b → n ≤ b := by
  obtain ⟨d, rfl⟩ : ∃ e, d = e + 3 := ⟨d - 3, by omega⟩
  obtain ⟨w, I, A, B, X, R, dep, D⟩ := hW.deps so
  have hN := hW.l2
  have hN3 := hW.l3
  have hroot : w (2 * ws.length - 2) ≤ 1152921504606846976 := by
    rw [← D.m.root]
    have e : (List.range ws.length).map w = ws := by
      apply List.ext_getElem
      · simp
      · intro i h1 h2
        have hi : i < ws.length := h2
        simp only [List.getElem_map, List.getElem_range]
        rw [D.ww i hi, List.getD_eq_getElem?_getD, List.getElem?_eq_getElem hi]
        rfl
    rw [e]
    exact sum_fits hW.l3 hW.hi
  rw [sh_balerref09_Depths]
  refine Run.inside_ ?_
  unfold b_balerref09_Depths
  have hR0 := hR
  obtain ⟨a, c, rfl⟩ := hR.len
  try simp (disch := first | omega | assumption | exact one_int _ _ | exact one_slice _ _ _ | exact one_ptr _ | exact one_bool _ | exact one_string _) only [RXA, RXB, Nat.reduceAdd, Nat.reduceLT, wrap_id, wrap_succ, wrap_pred, FX1]
  have e0 : (.int .i64 0 : Value) = .int .i64 ((0 : Nat) : Int) := rfl
  rw [e0]
  refine rdA lf (d + 2) n h _ ws hR0 (by omega) _ _ (Nat.le_refl n) _ (fun h1 n1 v4 y21 l hn1 hM hnum hw => ?_) ws.length 0 lf h n _ [] (by omega) (by omega) (by omega) (Nat.le_refl _) (fun _ _ => rfl) ⟨Own3.nil _ _ _ _, fun t ht => by simp at ht, fun t ht => by simp at ht⟩ (by simp) (fun t ht => by simp at ht)
  rw [kcAa_balerref09_Depths]
  refine Ev.run_make c1x22 ws.length ws.length _ (Nat.le_refl _) (by omega) ?_
  obtain ⟨h2, hh2⟩ : ∃ h2, h1.set n1 (some ⟨3, true, List.replicate ws.length (.int .i64 0)⟩) = h2 := ⟨_, rfl⟩
  have g2 : h2.get n1 = some ⟨3, true, ints (List.replicate ws.length 0)⟩ := by
    rw [← hh2, get_eq]
    unfold ints
    rw [List.map_replicate]
  have k2 : ∀ b, b < n1 → h2.get b = h1.get b := fun b hb => by rw [← hh2, get_ne _ _ (by omega)]
  rw [hh2]
  have hP := PInv.init (dep := dep) D.m
  rw [← hnum] at hP
  unfold depF
  exact rdB lf d hlf D hN3 hroot n n1 ws.length (Nat.le_refl _) hn1 _ _ _ _ _ _ _ (Nat.le_refl n) (ws.length - 1) 0 lf h2 (n1 + 1) v4 l (fun i => [i]) _ (by omega) (by omega) (by omega) (by omega)
    ⟨hM.own.keep (by omega) fun b hb => k2 b (hM.own.lt hb).2, fun t ht => ⟨(hM.row t ht).1.keep (by omega) k2, (hM.row t ht).2⟩, hM.sep⟩ hP (fun t ht => by
      rw [hw t ht, D.ww]
      have : t.2.1 ∈ l.map (·.2.1) := List.mem_map.2 ⟨t, ht, rfl⟩
      rw [hnum] at this
      exact List.mem_range.1 this) g2 (fun q => by have := hM.own.lt q; omega) (fun t ht q => by have := (hM.row t ht).1.lt q; omega)

end Go.Proofs.YtdagfcflbphoiaaDoor
/- The reference's halving and lengths; the statements LensDepths and LensOf. -/
namespace Go.Proofs.YtdagfcflbphoiaaDoor
set_option linter.unusedVariables false
set_option linter.unusedSimpArgs false
open Go.RowKit Ev Hu

theorem take_next {α : Type} (d : α) {xs : List α} {i : Nat} (h : i < xs.length) : xs.take (i + 1) = xs.take i ++ [xs.getD i d] := by
  rw [List.take_succ_eq_append_getElem h, List.getD_eq_getElem?_getD, List.getElem?_eq_getElem h]
  rfl
theorem intsV_next {xs : List Int} {i : Nat} (h : i < xs.length) : intsV .i64 (xs.take (i + 1)) = intsV .i64 (xs.take i) ++ [.int .i64 (xs.getD i 0)] := by
  rw [take_next 0 h]
  unfold intsV
  rw [List.map_append]
  rfl
theorem rhA (lf d nb : Nat) (h0 : H) (v : Value) (xs : List Int) (hR : Row h0 nb 3 .i64 v xs) (hl : xs.length ≤ 1000000) (hx : ∀ x ∈ xs, x ≤ 9223372036854775807) (x2 : Value) {W : Nat → Prop} {n0 : Nat} (hn0 : n0 ≤ nb) :
    ∀ (m i fu : Nat) (h : H) (n : Nat) (v3 : Value), xs.length - i = m → m < fu → i ≤ xs.length → nb ≤ n → (∀ b, b < nb → h.get b = h0.get b) → Own h nb n 3 v3 (intsV .i64 ((halvL xs).take i)) →
      Run W n0 (lpA_balerref09_Halved lf d fu (kcA_balerref09_Halved lf d) v x2 v3 v (.int .i64 (xs.length : Nat)) (.int .i64 (i : Nat))) h n (fun v' h' n' => Row h' n' 3 .i64 v' (halvL xs) ∧ ∀ b, InBlk v' b → nb ≤ b) := by
  intro m
  induction m with
  | zero =>
    intro i fu h n v3 hm hfu hi hn hk hO
    obtain ⟨fu, rfl⟩ : ∃ f, fu = f + 1 := ⟨fu - 1, by omega⟩
    obtain rfl : i = xs.length := by omega
    rw [succA_balerref09_Halved]
    try simp (disch := first | omega | assumption | exact one_int _ _ | exact one_slice _ _ _ | exact one_ptr _ | exact one_bool _ | exact one_string _) only [RXA, RXB, Nat.reduceAdd, Nat.reduceLT, wrap_id, wrap_succ, wrap_pred, FX1, Int.lt_irrefl]
    rw [kcAa_balerref09_Halved]
    try simp (disch := first | omega | assumption | exact one_int _ _ | exact one_slice _ _ _ | exact one_ptr _ | exact one_bool _ | exact one_string _) only [RXA, RXB, Nat.reduceAdd, Nat.reduceLT, wrap_id, wrap_succ, wrap_pred, FX1]
    rw [← halvL_len xs, List.take_length] at hO
    exact ⟨hO.row, fun b hb => (hO.lt hb).1⟩
  | succ m ih =>
    intro i fu h n v3 hm hfu hi hn hk hO
    obtain ⟨fu, rfl⟩ : ∃ f, fu = f + 1 := ⟨fu - 1, by omega⟩
    have hR1 : Row h n 3 .i64 v xs := hR.keep hn hk
    have hlt := fun b hb => hR.lt (b := b) hb
    have hil : i < xs.length := by omega
    obtain ⟨b, off, cap, o, cs, rfl, hg, hb, _, _, _, hat⟩ := hR1.some (by omega)
    have e1 : ((i : Nat) : Int) < ((xs.length : Nat) : Int) := by omega
    have c1 := hat i hil
    have w1 : ((i : Nat) : Int) + 1 = ((i + 1 : Nat) : Int) := by omega
    have hxi := hx (xs.getD i 0) (mem_getD hil)
    obtain ⟨wa, wb⟩ := halv_wrap _ hxi
    have hn2 := intsV_next (xs := halvL xs) (i := i) (by rw [halvL_len]; exact hil)
    rw [halvL_at hil] at hn2
    have hlen : (intsV .i64 ((halvL xs).take i)).length + 1 ≤ 1099511627776 := by rw [intsV_len, List.length_take, halvL_len]; omega
    have fin : ∀ v' h', h'.get (n + 1) = some ⟨3, true, intsV .i64 ((halvL xs).take i) ++ [.int .i64 (halv1 (xs.getD i 0))]⟩ → (∀ b, b < n → ¬ InBlk v3 b → h'.get b = h.get b) → v' = .slice (some ⟨n + 1, 0, none⟩) ((intsV .i64 ((halvL xs).take i)).length + 1) (CAP + ((intsV .i64 ((halvL xs).take i)).length + 1)) →
        Run W n0 (lpA_balerref09_Halved lf d fu (kcA_balerref09_Halved lf d) (.slice (some ⟨b, off, none⟩) xs.length cap) x2 v' (.slice (some ⟨b, off, none⟩) xs.length cap) (.int .i64 (xs.length : Nat)) (.int .i64 ((i + 1 : Nat) : Int))) h' (n + 2) (fun v' h' n' => Row h' n' 3 .i64 v' (halvL xs) ∧ ∀ b, InBlk v' b → nb ≤ b) := by
      intro v' h' g k e
      subst e
      rw [← hn2] at g
      refine ih (i + 1) fu h' (n + 2) _ (by omega) (by omega) (by omega) (by omega) (fun q hq => by rw [k q (by omega) (fun r => by have := (hO.lt r).1; omega)]; exact hk q hq) (Own.mk' g (by omega) (by omega) ?_)
      rw [hn2]
      simp
    rw [succA_balerref09_Halved]
    by_cases hlt0 : xs.getD i 0 < 0
    · rw [if_pos hlt0] at wa wb
      try simp (disch := first | omega | assumption | exact one_int _ _ | exact one_slice _ _ _ | exact one_ptr _ | exact one_bool _ | exact one_string _) only [RXA, RXB, Nat.reduceAdd, Nat.reduceLT, wrap_id, wrap_succ, wrap_pred, FX1, e1, hg, c1, hlt0, wa, wb]
      refine run_pushO c1x22 (one_int _ _) hO hlen (by omega) _ (fun h2 g2 k2 => ?_)
      try simp (disch := first | omega | assumption | exact one_int _ _ | exact one_slice _ _ _ | exact one_ptr _ | exact one_bool _ | exact one_string _) only [RXA, RXB, Nat.reduceAdd, Nat.reduceLT, wrap_id, wrap_succ, wrap_pred, FX1]
      rw [w1]
      exact fin _ h2 g2 k2 rfl
    · rw [if_neg hlt0] at wa wb
      try simp (disch := first | omega | assumption | exact one_int _ _ | exact one_slice _ _ _ | exact one_ptr _ | exact one_bool _ | exact one_string _) only [RXA, RXB, Nat.reduceAdd, Nat.reduceLT, wrap_id, wrap_succ, wrap_pred, FX1, e1, hg, c1, hlt0, wa, wb]
      refine run_pushO c1x22 (one_int _ _) hO hlen (by omega) _ (fun h2 g2 k2 => ?_)
      try simp (disch := first | omega | assumption | exact one_int _ _ | exact one_slice _ _ _ | exact one_ptr _ | exact one_bool _ | exact one_string _) only [RXA, RXB, Nat.reduceAdd, Nat.reduceLT, wrap_id, wrap_succ, wrap_pred, FX1]
      rw [w1]
      exact fin _ h2 g2 k2 rfl
theorem s_HalvedR (lf d n : Nat) (h : H) (v : Value) (xs : List Int) (hR : Row h n 3 .i64 v xs) (hl : xs.length ≤ 1000000) (hx : ∀ x ∈ xs, x ≤ 9223372036854775807) (hlf : 3000000 ≤ lf) :
    Run (fun _ => False) n (evCall2 Tryd.prog gt lf (d + 1) 58 #[v]) h n fun v' h' n' => Row h' n' 3 .i64 v' (halvL xs) ∧ ∀ b, InBlk v' b → n ≤ b := by
  rw [sh_balerref09_Halved]
  refine Run.inside_ ?_
  unfold b_balerref09_Halved
  have hR0 := hR
  obtain ⟨a, c, rfl⟩ := hR.len
  try simp (disch := first | omega | assumption | exact one_int _ _ | exact one_slice _ _ _ | exact one_ptr _ | exact one_bool _ | exact one_string _) only [RXA, RXB, Nat.reduceAdd, Nat.reduceLT, wrap_id, wrap_succ, wrap_pred, FX1]
  have e0 : (.int .i64 0 : Value) = .int .i64 ((0 : Nat) : Int) := rfl
  rw [e0]
  exact rhA lf d n h _ xs hR0 hl hx _ (Nat.le_refl n) xs.length 0 lf h n _ (by omega) (by omega) (by omega) (Nat.le_refl _) (fun _ _ => rfl) (by rw [List.take_zero]; exact Own.nil _ _ _ _)

theorem may_dep {w : List Int} (hW : Ws w) (so : Sorts w (sortD w)) : allIn 1 20 (depF w) = decide (lngL (depF w) 0 ≤ 20) := by
  obtain ⟨wf, I, A, B, X, R, dep, D⟩ := hW.deps so
  have h1 : ∀ x ∈ depF w, 1 ≤ x := by
    unfold depF
    rw [D.mem]
    intro i hi
    have := D.ge1 hi
    omega
  by_cases h : lngL (depF w) 0 ≤ 20
  · rw [decide_eq_true h]
    rw [lngL_le] at h
    exact allIn_iff.2 fun x hx => ⟨h1 x hx, h.2 x hx⟩
  · rw [decide_eq_false h]
    refine Bool.eq_false_iff.2 fun q => h ?_
    rw [lngL_le]
    exact ⟨by omega, fun x hx => (allIn_iff.1 q x hx).2⟩
theorem rfB (lf d : Nat) (hlf : 3000000 ≤ lf) (hd : 300 ≤ d) (x0 x2 x7 x8 x9 x10 : Value) {W : Nat → Prop} {n0 : Nat} :
    ∀ {r : Nat} {w l : List Int}, Rounds r w l → ∀ (fu j : Nat) (h : H) (n : Nat) (v3 : Value), r < fu → j + r < 100 → n0 ≤ n → Row h n 3 .i64 v3 w →
      Run W n0 (lpB_balerref09_Of lf d fu (kcB_balerref09_Of lf d) x0 x2 v3 x7 x8 x9 x10 (.int .i64 (j : Nat))) h n fun v' h' n' => Row h' n' 3 .i64 v' l := by
  intro r w l hr
  obtain ⟨e, rfl⟩ : ∃ e, d = e + 1 := ⟨d - 1, by omega⟩
  induction hr with
  | stop w hW so hs =>
    intro fu j h n v3 hfu hj hn hR
    obtain ⟨fu, rfl⟩ : ∃ f, fu = f + 1 := ⟨fu - 1, by omega⟩
    have e1 : ((j : Nat) : Int) < 100 := by omega
    have hl2 := hW.l2
    have hl3 := hW.l3
    have dl := depF_len (ws := w) (by omega)
    rw [succB_balerref09_Of]
    try simp (disch := first | omega | assumption | exact one_int _ _ | exact one_slice _ _ _ | exact one_ptr _ | exact one_bool _ | exact one_string _) only [RXA, RXB, Nat.reduceAdd, Nat.reduceLT, wrap_id, wrap_succ, wrap_pred, FX1, e1]
    refine run_call okd (s_DepthsR lf (e + 1) n h v3 w hR hW so hlf hd) hn (fun _ _ h => h.elim) fun v1 h1 n1 hn1 fr1 hq => ?_
    refine run_same (s_May lf e n1 h1 v1 _ hq.1 1 20 (by omega) hlf) (by omega) (fun _ _ h => h.elim) ?_
    rw [may_dep hW so, decide_eq_true hs]
    try simp (disch := first | omega | assumption | exact one_int _ _ | exact one_slice _ _ _ | exact one_ptr _ | exact one_bool _ | exact one_string _) only [RXA, RXB, Nat.reduceAdd, Nat.reduceLT, wrap_id, wrap_succ, wrap_pred, FX1]
    rw [kcBa_balerref09_Of]
    try simp (disch := first | omega | assumption | exact one_int _ _ | exact one_slice _ _ _ | exact one_ptr _ | exact one_bool _ | exact one_string _) only [RXA, RXB, Nat.reduceAdd, Nat.reduceLT, wrap_id, wrap_succ, wrap_pred, FX1]
    exact hq.1
  | next hW so hs hr ih =>
    rename_i k w l
    intro fu j h n v3 hfu hj hn hR
    obtain ⟨fu, rfl⟩ : ∃ f, fu = f + 1 := ⟨fu - 1, by omega⟩
    have e1 : ((j : Nat) : Int) < 100 := by omega
    have w1 : ((j : Nat) : Int) + 1 = ((j + 1 : Nat) : Int) := by omega
    have hl2 := hW.l2
    have hl3 := hW.l3
    have dl := depF_len (ws := w) (by omega)
    rw [succB_balerref09_Of]
    try simp (disch := first | omega | assumption | exact one_int _ _ | exact one_slice _ _ _ | exact one_ptr _ | exact one_bool _ | exact one_string _) only [RXA, RXB, Nat.reduceAdd, Nat.reduceLT, wrap_id, wrap_succ, wrap_pred, FX1, e1]
    refine run_call okd (s_DepthsR lf (e + 1) n h v3 w hR hW so hlf hd) hn (fun _ _ h => h.elim) fun v1 h1 n1 hn1 fr1 hq => ?_
    refine run_same (s_May lf e n1 h1 v1 _ hq.1 1 20 (by omega) hlf) (by omega) (fun _ _ h => h.elim) ?_
    rw [may_dep hW so, decide_eq_false hs]
    try simp (disch := first | omega | assumption | exact one_int _ _ | exact one_slice _ _ _ | exact one_ptr _ | exact one_bool _ | exact one_string _) only [RXA, RXB, Nat.reduceAdd, Nat.reduceLT, wrap_id, wrap_succ, wrap_pred, FX1]
    refine run_call okd (s_HalvedR lf e n1 h1 v3 w (hR.keep hn1 fun b hb => fr1 b hb id) (by omega) (fun x hx => by have := hW.hi x hx; omega) hlf) (by omega) (fun _ _ h => h.elim) fun v2 h2 n2 hn2 fr2 hq2 => ?_
    try simp (disch := first | omega | assumption | exact one_int _ _ | exact one_slice _ _ _ | exact one_ptr _ | exact one_bool _ | exact one_string _) only [RXA, RXB, Nat.reduceAdd, Nat.reduceLT, wrap_id, wrap_succ, wrap_pred, FX1]
    rw [w1]
    exact ih fu (j + 1) h2 n2 v2 (by omega) (by omega) (by omega) hq2.1
theorem rfA (lf d nb : Nat) (h0 : H) (v : Value) (xs : List Int) (hR : Row h0 nb 3 .i64 v xs) (hl : xs.length ≤ 1000000) (hx : ∀ x ∈ xs, 0 ≤ x) (x2 : Value) {W : Nat → Prop} {n0 : Nat} (hn0 : n0 ≤ nb) {Q : Value → H → Nat → Prop} (k : Ex → Fr → M Value)
    (hK : ∀ h n v3 y10, nb ≤ n → Row h n 3 .i64 v3 (cntL xs) → Run W n0 (k (Ex.exit 0) [(0, v), (2, x2), (3, v3), (7, v), (8, .int .i64 (xs.length : Nat)), (9, .int .i64 (xs.length : Nat)), (10, y10)]) h n Q) :
    ∀ (m i fu : Nat) (h : H) (n : Nat) (v3 : Value), xs.length - i = m → m < fu → i ≤ xs.length → nb ≤ n → (∀ b, b < nb → h.get b = h0.get b) → Own h nb n 3 v3 (intsV .i64 ((cntL xs).take i)) →
      Run W n0 (lpA_balerref09_Of lf d fu k v x2 v3 v (.int .i64 (xs.length : Nat)) (.int .i64 (i : Nat))) h n Q := by
  intro m
  induction m with
  | zero =>
    intro i fu h n v3 hm hfu hi hn hk hO
    obtain ⟨fu, rfl⟩ : ∃ f, fu = f + 1 := ⟨fu - 1, by omega⟩
    obtain rfl : i = xs.length := by omega
    rw [succA_balerref09_Of]
    try simp (disch := first | omega | assumption | exact one_int _ _ | exact one_slice _ _ _ | exact one_ptr _ | exact one_bool _ | exact one_string _) only [RXA, RXB, Nat.reduceAdd, Nat.reduceLT, wrap_id, wrap_succ, wrap_pred, FX1, Int.lt_irrefl]
    rw [← cntL_len xs, List.take_length] at hO
    exact hK h n v3 _ hn hO.row
  | succ m ih =>
    intro i fu h n v3 hm hfu hi hn hk hO
    obtain ⟨fu, rfl⟩ : ∃ f, fu = f + 1 := ⟨fu - 1, by omega⟩
    have hR1 : Row h n 3 .i64 v xs := hR.keep hn hk
    have hil : i < xs.length := by omega
    obtain ⟨b, off, cap, o, cs, rfl, hg, hb, _, _, _, hat⟩ := hR1.some (by omega)
    have e1 : ((i : Nat) : Int) < ((xs.length : Nat) : Int) := by omega
    have c1 := hat i hil
    have w1 : ((i : Nat) : Int) + 1 = ((i + 1 : Nat) : Int) := by omega
    have hxi := hx (xs.getD i 0) (mem_getD hil)
    have hn2 := intsV_next (xs := cntL xs) (i := i) (by rw [cntL_len]; exact hil)
    rw [cntL_at hil] at hn2
    have hlen : (intsV .i64 ((cntL xs).take i)).length + 1 ≤ 1099511627776 := by rw [intsV_len, List.length_take, cntL_len]; omega
    have fin : ∀ h', h'.get (n + 1) = some ⟨3, true, intsV .i64 ((cntL xs).take i) ++ [.int .i64 (cnt1 (xs.getD i 0))]⟩ → (∀ b, b < n → ¬ InBlk v3 b → h'.get b = h.get b) →
        Run W n0 (lpA_balerref09_Of lf d fu k (.slice (some ⟨b, off, none⟩) xs.length cap) x2 (.slice (some ⟨n + 1, 0, none⟩) ((intsV .i64 ((cntL xs).take i)).length + 1) (CAP + ((intsV .i64 ((cntL xs).take i)).length + 1))) (.slice (some ⟨b, off, none⟩) xs.length cap) (.int .i64 (xs.length : Nat)) (.int .i64 ((i + 1 : Nat) : Int))) h' (n + 2) Q := by
      intro h' g k
      rw [← hn2] at g
      refine ih (i + 1) fu h' (n + 2) _ (by omega) (by omega) (by omega) (by omega) (fun q hq => by rw [k q (by omega) (fun r => by have := (hO.lt r).1; omega)]; exact hk q hq) (Own.mk' g (by omega) (by omega) ?_)
      rw [hn2]
      simp
    rw [succA_balerref09_Of]
    by_cases hz : xs.getD i 0 = 0
    · have z1 : (xs.getD i 0 == 0) = true := by rw [hz]; rfl
      have z2 : cnt1 (xs.getD i 0) = 1 := by rw [hz]; rfl
      rw [z2] at fin
      try simp (disch := first | omega | assumption | exact one_int _ _ | exact one_slice _ _ _ | exact one_ptr _ | exact one_bool _ | exact one_string _) only [RXA, RXB, Nat.reduceAdd, Nat.reduceLT, wrap_id, wrap_succ, wrap_pred, FX1, e1, hg, c1, z1]
      refine run_pushO c1x22 (one_int _ _) hO hlen (by omega) _ (fun h2 g2 k2 => ?_)
      try simp (disch := first | omega | assumption | exact one_int _ _ | exact one_slice _ _ _ | exact one_ptr _ | exact one_bool _ | exact one_string _) only [RXA, RXB, Nat.reduceAdd, Nat.reduceLT, wrap_id, wrap_succ, wrap_pred, FX1]
      rw [w1]
      exact fin h2 g2 k2
    · have z1 : (xs.getD i 0 == 0) = false := beq_eq_false_iff_ne.2 hz
      have z2 : cnt1 (xs.getD i 0) = xs.getD i 0 := by unfold cnt1; rw [if_neg (by omega)]
      rw [z2] at fin
      try simp (disch := first | omega | assumption | exact one_int _ _ | exact one_slice _ _ _ | exact one_ptr _ | exact one_bool _ | exact one_string _) only [RXA, RXB, Nat.reduceAdd, Nat.reduceLT, wrap_id, wrap_succ, wrap_pred, FX1, e1, hg, c1, z1]
      refine run_pushO c1x22 (one_int _ _) hO hlen (by omega) _ (fun h2 g2 k2 => ?_)
      try simp (disch := first | omega | assumption | exact one_int _ _ | exact one_slice _ _ _ | exact one_ptr _ | exact one_bool _ | exact one_string _) only [RXA, RXB, Nat.reduceAdd, Nat.reduceLT, wrap_id, wrap_succ, wrap_pred, FX1]
      rw [w1]
      exact fin h2 g2 k2
theorem s_OfR (lf d n : Nat) (h : H) (v : Value) (xs l : List Int) (r : Nat) (hR : Row h n 3 .i64 v xs) (hl : xs.length ≤ 1000000) (hx : ∀ x ∈ xs, 0 ≤ x) (hr : Rounds r (cntL xs) l) (hr2 : r ≤ 40) (hlf : 3000000 ≤ lf) (hd : 300 ≤ d) :
    Run (fun _ => False) n (evCall2 Tryd.prog gt lf (d + 1) 46 #[v]) h n fun v' h' n' => Row h' n' 3 .i64 v' l := by
  rw [sh_balerref09_Of]
  refine Run.inside_ ?_
  unfold b_balerref09_Of
  have hR0 := hR
  obtain ⟨a, c, rfl⟩ := hR.len
  try simp (disch := first | omega | assumption | exact one_int _ _ | exact one_slice _ _ _ | exact one_ptr _ | exact one_bool _ | exact one_string _) only [RXA, RXB, Nat.reduceAdd, Nat.reduceLT, wrap_id, wrap_succ, wrap_pred, FX1]
  have e0 : (.int .i64 0 : Value) = .int .i64 ((0 : Nat) : Int) := rfl
  rw [e0]
  refine rfA lf d n h _ xs hR0 hl hx _ (Nat.le_refl n) _ (fun h1 n1 v3 y10 hn1 hr1 => ?_) xs.length 0 lf h n _ (by omega) (by omega) (by omega) (Nat.le_refl _) (fun _ _ => rfl) (by rw [List.take_zero]; exact Own.nil _ _ _ _)
  rw [kcAa_balerref09_Of, e0]
  exact rfB lf d hlf hd _ _ _ _ _ _ hr lf 0 h1 n1 v3 (by omega) (by omega) (by omega) hr1

end Go.Proofs.YtdagfcflbphoiaaDoor
/- Layer 12 by the second form: a round. -/
namespace Go.Proofs.YtdagfcflbphoiaaDoor
set_option linter.unusedVariables false
set_option linter.unusedSimpArgs false
open Go.RowKit Ev Tb

theorem Rounds.det {r : Nat} {w l : List Int} (x : Rounds r w l) : ∀ {r' : Nat} {l' : List Int}, Rounds r' w l' → l = l' := by
  induction x with
  | stop w hW so hs =>
    intro r' l' y
    cases y with
    | stop => rfl
    | next _ _ hn _ => exact absurd hs hn
  | next hW so hs hr ih =>
    intro r' l' y
    cases y with
    | stop _ _ _ hn => exact absurd hn hs
    | next _ _ _ hr2 => exact ih hr2
/-- the lengths of counts -/
noncomputable def tbl (c : List Int) : List Int := Classical.epsilon fun l => ∃ r, Rounds r (cntL c) l ∧ r ≤ 40
theorem tbl_of {c l : List Int} {r : Nat} (h : Rounds r (cntL c) l) (hr : r ≤ 40) : l = tbl c := by
  obtain ⟨r', h', _⟩ := Classical.epsilon_spec (p := fun l => ∃ r, Rounds r (cntL c) l ∧ r ≤ 40) ⟨l, r, h, hr⟩
  exact h.det h'
section
variable (lf d n : Nat) (h : H) (hlf : 3000000 ≤ lf)
include hlf
theorem s_tbl (v : Value) (c : List Int) (hR : Row h n 3 .i64 v c) (h3 : 3 ≤ c.length) (h258 : c.length ≤ 258) (hm : allIn 0 1099511627776 c = true) (hd : 400 ≤ d) :
    Run (fun _ => False) n (evCall2 Tryd.prog gt lf d 39 #[v]) h n fun v' h' n' => ∃ v1, v' = .tuple #[v1, .int .i64 0] ∧ Row h' n' 3 .i64 v1 (tbl c) := by
  refine (s_Of_ok lf d n h v c hR h3 h258 hm hlf hd).mono ?_
  rintro v' h' n' _ ⟨v1, l, r, rfl, hr, hr2, hrow⟩
  rw [tbl_of hr hr2] at hrow
  exact ⟨v1, rfl, hrow⟩
omit hlf in
theorem tbl_ex {c : List Int} (h3 : 3 ≤ c.length) (h258 : c.length ≤ 258) (hm : allIn 0 1099511627776 c = true) : ∃ r, Rounds r (cntL c) (tbl c) ∧ r ≤ 40 := by
  obtain ⟨_, _, _, _, _, _, _, v1, l, r, _, hr, hr2, _⟩ := s_Of_ok 3000000 400 1 (H.set .nil 0 (some ⟨3, true, intsV .i64 c⟩)) _ c (Row.ofBlk (get_eq _ _ _) (Nat.lt_succ_self 0) rfl) h3 h258 hm (Nat.le_refl _) (Nat.le_refl _)
  have e := tbl_of hr hr2
  rw [e] at hr
  exact ⟨r, hr, hr2⟩
theorem r_tbl (v : Value) (c : List Int) (hR : Row h n 3 .i64 v c) (h3 : 3 ≤ c.length) (h258 : c.length ≤ 258) (hm : allIn 0 1099511627776 c = true) (hd : 300 ≤ d) :
    Run (fun _ => False) n (evCall2 Tryd.prog gt lf (d + 1) 46 #[v]) h n fun v' h' n' => Row h' n' 3 .i64 v' (tbl c) := by
  obtain ⟨r, hr, hr2⟩ := tbl_ex h3 h258 hm
  exact s_OfR lf d n h v c _ r hR (by omega) (fun x hx => (allIn_iff.1 hm x hx).1) hr hr2 hlf hd
omit hlf in
theorem tbl_good {c : List Int} (h3 : 3 ≤ c.length) (h258 : c.length ≤ 258) (hm : allIn 0 1099511627776 c = true) : (tbl c).length = c.length ∧ allIn 1 20 (tbl c) = true ∧ shrL (tbl c) = 1048576 := by
  obtain ⟨r, hr, _⟩ := tbl_ex h3 h258 hm
  obtain ⟨a, b, e⟩ := hr.whole
  rw [cntL_len] at a
  exact ⟨a, b, e⟩

end
/-- tables that may be taken -/
def GoodT (s : Nat) (T : List (List Int)) : Prop := ∀ t ∈ T, t.length = s ∧ ∀ y ∈ t, 0 ≤ y ∧ y ≤ 20
/-- groups that may be -/
def GoodG (s : Nat) (gs : List (List Int)) : Prop := (∀ g ∈ gs, g.length ≤ 50 ∧ inB s g = true) ∧ gs.length ≤ 40000
noncomputable def tabsL (gs T : List (List Int)) (s : Nat) : List (List Int) := (List.range T.length).map fun p => tbl (tabC gs T s p)
def picksI (gs T : List (List Int)) : List Int := (picksL gs T).map fun (x : Nat) => (x : Int)
theorem picksL_len (gs T : List (List Int)) : (picksL gs T).length = gs.length := by unfold picksL; simp
theorem picksI_len (gs T : List (List Int)) : (picksI gs T).length = gs.length := by unfold picksI; rw [List.length_map, picksL_len]
theorem tabC_in (gs T : List (List Int)) (s p : Nat) {gs' : List (List Int)} {qs : List Nat} (hg : GoodG s gs) (hs : ∀ g ∈ gs', g ∈ gs) (hl : gs'.length ≤ gs.length) : allIn 0 1099511627776 (countsL (allP p gs' qs) s) = true := by
  refine allIn_iff.2 fun x hx => ?_
  have h1 := countsL_mem hx
  have h2 := allP_len p gs' qs fun g hg' => (hg.1 g (hs g hg')).1
  have := hg.2
  omega
theorem goodT_pick {s : Nat} {T : List (List Int)} {g : List Int} (hT : GoodT s T) (hs : s ≤ 258) (hg : inB s g = true) : ∀ t ∈ T, t.length ≤ 1000000 ∧ allIn 0 1099511627776 t = true ∧ inB t.length g = true := fun t ht => by
  obtain ⟨a, b⟩ := hT t ht
  exact ⟨by omega, allIn_iff.2 fun y hy => by have := b y hy; omega, by rw [a]; exact hg⟩
theorem tabsL_good {gs T : List (List Int)} {s : Nat} (hg : GoodG s gs) (h3 : 3 ≤ s) (h258 : s ≤ 258) : GoodT s (tabsL gs T s) := by
  intro t ht
  unfold tabsL at ht
  obtain ⟨p, _, rfl⟩ := List.mem_map.1 ht
  have hl : (tabC gs T s p).length = s := countsL_len _ _
  obtain ⟨a, b, _⟩ := tbl_good (c := tabC gs T s p) (by omega) (by omega) (tabC_in gs T s p hg (fun _ h => h) (Nat.le_refl _))
  exact ⟨by omega, fun y hy => by have := allIn_iff.1 b y hy; omega⟩
theorem tabsL_len (gs T : List (List Int)) (s : Nat) : (tabsL gs T s).length = T.length := by unfold tabsL; simp

section
variable (lf d n : Nat) (h : H) (hlf : 3000000 ≤ lf)
include hlf
set_option maxHeartbeats 1000000 in
theorem s_round (u v : Value) (gs T : List (List Int)) (s : Nat) (hG : RR h n 22 3 u gs) (hT : RR h n 22 3 v T) (hg : GoodG s gs) (ht : GoodT s T) (h0 : 0 < T.length) (h6 : T.length ≤ 6) (h3 : 3 ≤ s) (h258 : s ≤ 258) (hd : 500 ≤ d) :
    Run (fun _ => False) n (evCall2 Tryd.prog gt lf d 37 #[u, v, .int .i64 (s : Int)]) h n fun v' h' n' => ∃ x y, v' = .tuple #[x, y] ∧ Row h' n' 3 .i64 x (picksI gs T) ∧ RR h' n' 22 3 y (tabsL gs T s) := by
  obtain ⟨d, rfl⟩ : ∃ e, d = e + 8 := ⟨d - 8, by omega⟩
  rw [sh_tables_round]
  refine Run.inside_ ?_
  unfold b_tables_round
  have hG0 := hG
  have hT0 := hT
  obtain ⟨a, c, rfl⟩ := hT.len
  obtain ⟨a2, c2, rfl⟩ := hG.len
  obtain ⟨t, htt⟩ : ∃ t, T.length = t := ⟨_, rfl⟩
  rw [htt] at h0 h6 hT0 ⊢
  try simp (disch := first | omega | assumption | exact one_int _ _ | exact one_slice _ _ _ | exact one_ptr _ | exact one_bool _ | exact one_string _) only [RXA, RXB, Nat.reduceAdd, Nat.reduceLT, wrap_id, wrap_succ, wrap_pred, FX1]
  refine Ev.run_make c1x23 t t _ (Nat.le_refl _) (by omega) ?_
  try simp (disch := first | omega | assumption | exact one_int _ _ | exact one_slice _ _ _ | exact one_ptr _ | exact one_bool _ | exact one_string _) only [RXA, RXB, Nat.reduceAdd, Nat.reduceLT, wrap_id, wrap_succ, wrap_pred, FX1]
  let cel : Nat → Value := fun j => .slice (some ⟨n + 1 + j, 0, none⟩) s s
  refine run_for t (fun fu i (_ : Unit) => lpA_tables_round lf (d + 7) fu (kcA_tables_round lf (d + 7)) (.slice a2 gs.length c2) (.slice a t c) (.int .i64 (s : Nat)) (.slice none 0 0) (.slice none 0 0) (.slice none 0 0) (.slice (some ⟨n, 0, none⟩) t t) (.int .i64 (t : Nat)) (.int .i64 (i : Nat)))
    (fun i _ h' n' => n' = n + 1 + i ∧ (∀ b, b < n → h'.get b = h.get b) ∧ h'.get n = some ⟨22, true, rc cel (.slice none 0 0) t i⟩ ∧ ∀ j, j < i → h'.get (n + 1 + j) = some ⟨3, true, intsV .i64 (List.replicate s 0)⟩) ?_ ?_ lf 0 () _ _ (Nat.zero_le _) (by omega) ⟨rfl, fun b hb => get_ne _ _ (by omega), by rw [get_eq, rc_zero], fun j hj => absurd hj (Nat.not_lt_zero j)⟩
  · rintro fu _ h' n' ⟨rfl, hk, hgn, hj⟩
    rw [succA_tables_round]
    try simp (disch := first | omega | assumption | exact one_int _ _ | exact one_slice _ _ _ | exact one_ptr _ | exact one_bool _ | exact one_string _) only [RXA, RXB, Nat.reduceAdd, Nat.reduceLT, wrap_id, wrap_succ, wrap_pred, FX1, Int.lt_irrefl]
    rw [kcAa_tables_round]
    try simp (disch := first | omega | assumption | exact one_int _ _ | exact one_slice _ _ _ | exact one_ptr _ | exact one_bool _ | exact one_string _) only [RXA, RXB, Nat.reduceAdd, Nat.reduceLT, wrap_id, wrap_succ, wrap_pred, FX1]
    rw [rc_all] at hgn
    have hgl := hg.2
    -- the groups
    refine run_for gs.length (fun fu i (q : Value) => lpB_tables_round lf (d + 7) fu (kcB_tables_round lf (d + 7)) (.slice a2 gs.length c2) (.slice a t c) (.int .i64 (s : Nat)) (.slice none 0 0) (.slice none 0 0) q (.slice (some ⟨n, 0, none⟩) t t) _ _ _ (.slice a2 gs.length c2) (.int .i64 (gs.length : Nat)) (.int .i64 (i : Nat)))
      (fun i q h' n' => n < n' ∧ (∀ b, b < n → h'.get b = h.get b) ∧ Own h' (n + 1) n' 3 q (intsV .i64 ((picksI gs T).take i)) ∧ ∃ cs : List Value, h'.get n = some ⟨22, true, cs⟩ ∧ cs.length = t ∧ ∀ p, p < t → Row h' n' 3 .i64 (cs.getD p undef) (countsL (allP p (gs.take i) ((picksL gs T).take i)) s) ∧ (∀ b, InBlk (cs.getD p undef) b → ¬ InBlk q b)) ?_ ?_ lf 0 _ _ _ (Nat.zero_le _) (by omega) ⟨by omega, hk, Own.nil _ _ _ _, _, hgn, by simp, fun p hp => ⟨?_, fun b _ q => q.not_nil⟩⟩
    · rintro fu q h' n' ⟨hn, hk, hO, cs, hgc, hcl, hrow⟩
      rw [succB_tables_round]
      try simp (disch := first | omega | assumption | exact one_int _ _ | exact one_slice _ _ _ | exact one_ptr _ | exact one_bool _ | exact one_string _) only [RXA, RXB, Nat.reduceAdd, Nat.reduceLT, wrap_id, wrap_succ, wrap_pred, FX1, Int.lt_irrefl]
      rw [kcBa_tables_round]
      try simp (disch := first | omega | assumption | exact one_int _ _ | exact one_slice _ _ _ | exact one_ptr _ | exact one_bool _ | exact one_string _) only [RXA, RXB, Nat.reduceAdd, Nat.reduceLT, wrap_id, wrap_succ, wrap_pred, FX1]
      rw [List.take_of_length_le (by rw [picksI_len]; exact Nat.le_refl _)] at hO
      have hrow2 : ∀ p, p < t → Row h' n' 3 .i64 (cs.getD p undef) (tabC gs T s p) := fun p hp => by
        have := (hrow p hp).1
        rw [List.take_length, List.take_of_length_le (by rw [picksL_len]; exact Nat.le_refl _)] at this
        exact this
      have hx := hO.row
      refine run_for t (fun fu i (w : Value) => lpC_tables_round lf (d + 7) fu (kcC_tables_round lf (d + 7)) (.slice a2 gs.length c2) (.slice a t c) (.int .i64 (s : Nat)) (.slice none 0 0) (.slice none 0 0) q (.slice (some ⟨n, 0, none⟩) t t) w _ _ _ _ _ _ _ (.slice (some ⟨n, 0, none⟩) t t) (.int .i64 (t : Nat)) (.int .i64 (i : Nat)))
        (fun i w h2 n2 => n' ≤ n2 ∧ (∀ b, b < n' → h2.get b = h'.get b) ∧ OwnRR h2 n' n2 n2 22 3 w ((List.range i).map fun p => tbl (tabC gs T s p))) ?_ ?_ lf 0 _ _ _ (Nat.zero_le _) (by omega) ⟨Nat.le_refl _, fun _ _ => rfl, OwnRR.nil _ _ _ _ _ _⟩
      · rintro fu w h2 n2 ⟨hn2, hk2, hO2⟩
        rw [succC_tables_round]
        try simp (disch := first | omega | assumption | exact one_int _ _ | exact one_slice _ _ _ | exact one_ptr _ | exact one_bool _ | exact one_string _) only [RXA, RXB, Nat.reduceAdd, Nat.reduceLT, wrap_id, wrap_succ, wrap_pred, FX1, Int.lt_irrefl]
        rw [kcCa_tables_round]
        try simp (disch := first | omega | assumption | exact one_int _ _ | exact one_slice _ _ _ | exact one_ptr _ | exact one_bool _ | exact one_string _) only [RXA, RXB, Nat.reduceAdd, Nat.reduceLT, wrap_id, wrap_succ, wrap_pred, FX1]
        refine ⟨_, _, rfl, hx.keep hn2 hk2, ?_⟩
        have := hO2.rr
        unfold tabsL
        rw [htt]
        exact this
      · rintro fu i w h2 n2 hi ⟨hn2, hk2, hO2⟩ next
        have e1 : ((i : Nat) : Int) < ((t : Nat) : Int) := by omega
        have hgc2 : h2.get n = some ⟨22, true, cs⟩ := (hk2 n (by omega)).trans hgc
        have cx : cs[i]? = some (cs.getD i undef) := by rw [List.getD_eq_getElem?_getD, List.getElem?_eq_getElem (by omega)]; rfl
        have lt1 : n < n2 := by omega
        have hri := (hrow2 i hi).keep hn2 hk2
        rw [succC_tables_round]
        try simp (disch := first | omega | assumption | exact one_int _ _ | exact one_slice _ _ _ | exact one_ptr _ | exact one_bool _ | exact one_string _) only [RXA, RXB, Nat.reduceAdd, Nat.reduceLT, wrap_id, wrap_succ, wrap_pred, FX1, e1, hgc2, cx]
        refine run_call okd (s_tbl lf (d + 7) n2 h2 hlf _ _ hri (by show 3 ≤ (countsL _ _).length; rw [countsL_len]; exact h3) (by show (countsL _ _).length ≤ 258; rw [countsL_len]; exact h258) (tabC_in gs T s i hg (fun _ h => h) (Nat.le_refl _)) (by omega)) (by omega) (fun _ _ h => h.elim) fun v1 h4 n4 hn4 fr4 hq => ?_
        obtain ⟨l, rfl, hl⟩ := hq
        have hO4 := (hO2.keep hn4 fun b hb _ => fr4 b hb id).up hn4
        try simp (disch := first | omega | assumption | exact one_int _ _ | exact one_slice _ _ _ | exact one_ptr _ | exact one_bool _ | exact one_string _) only [RXA, RXB, Nat.reduceAdd, Nat.reduceLT, wrap_id, wrap_succ, wrap_pred, FX1, ext0, ext1]
        refine run_pushRR c1x23 (by decide) hO4 hl (Nat.le_refl _) (by simp; omega) (by omega) (by omega) _ fun v2 h5 o5 k5 _ => ?_
        try simp (disch := first | omega | assumption | exact one_int _ _ | exact one_slice _ _ _ | exact one_ptr _ | exact one_bool _ | exact one_string _) only [RXA, RXB, Nat.reduceAdd, Nat.reduceLT, wrap_id, wrap_succ, wrap_pred, FX1]
        refine next v2 h5 (n4 + 2) ⟨by omega, fun b hb => ?_, ?_⟩
        · rw [k5 b (by omega) fun q => by have := (hO4.lt q).1; omega, fr4 b (by omega) id]
          exact hk2 b hb
        · rw [List.range_succ, List.map_append]
          exact o5.up (by omega)
    · rintro fu i q h' n' hi ⟨hn, hk, hO, cs, hgc, hcl, hrow⟩ next
      have e1 : ((i : Nat) : Int) < ((gs.length : Nat) : Int) := by omega
      obtain ⟨b, off, cap, o, ks, hv, hgx, hb, hat⟩ := (hG0.keep (Nat.le_of_lt hn) hk).at (by omega)
      cases hv
      obtain ⟨x, hx, hrx⟩ := hat i hi
      have hT1 := hT0.keep (Nat.le_of_lt hn) hk
      have gm : gs.getD i [] ∈ gs := by rw [List.getD_eq_getElem?_getD, List.getElem?_eq_getElem hi]; exact List.getElem_mem hi
      obtain ⟨g1, g2⟩ := hg.1 _ gm
      have pl := pickL_lt (gs.getD i []) (T := T) (by omega)
      obtain ⟨p, hp⟩ : ∃ p, pickL (gs.getD i []) T = p := ⟨_, rfl⟩
      rw [hp, htt] at pl
      rw [succB_tables_round]
      try simp (disch := first | omega | assumption | exact one_int _ _ | exact one_slice _ _ _ | exact one_ptr _ | exact one_bool _ | exact one_string _) only [RXA, RXB, Nat.reduceAdd, Nat.reduceLT, wrap_id, wrap_succ, wrap_pred, FX1, e1, hgx, hx]
      refine run_same (s_pick lf d n' h' hlf x _ _ T hrx hT1 (by omega) (by omega) (goodT_pick ht h258 g2)) (by omega) (fun _ _ h => h.elim) ?_
      rw [hp]
      refine run_pushO c1x22 (one_int _ _) hO (by rw [intsV_len, List.length_take, picksI_len]; omega) (by omega) _ fun h2 hg2 hk2 => ?_
      have pn : intsV .i64 ((picksI gs T).take i) ++ [.int .i64 (p : Int)] = intsV .i64 ((picksI gs T).take (i + 1)) := by
        have : (picksI gs T).take (i + 1) = (picksI gs T).take i ++ [(p : Int)] := by
          rw [List.take_succ_eq_append_getElem (by rw [picksI_len]; exact hi)]
          congr 2
          unfold picksI picksL
          simp only [List.getElem_map]
          rw [← hp, List.getD_eq_getElem?_getD, List.getElem?_eq_getElem hi]
          rfl
        rw [this]
        unfold intsV
        rw [List.map_append]
        rfl
      rw [pn] at hg2
      have pn2 : (picksL gs T).take (i + 1) = (picksL gs T).take i ++ [p] := by
        rw [List.take_succ_eq_append_getElem (by rw [picksL_len]; exact hi)]
        congr 2
        unfold picksL
        simp only [List.getElem_map]
        rw [← hp, List.getD_eq_getElem?_getD, List.getElem?_eq_getElem hi]
        rfl
      have gn2 : gs.take (i + 1) = gs.take i ++ [gs.getD i []] := by
        rw [List.take_succ_eq_append_getElem hi, List.getD_eq_getElem?_getD, List.getElem?_eq_getElem hi]
        rfl
      have ll : (intsV .i64 ((picksI gs T).take i)).length = i := by rw [intsV_len, List.length_take, picksI_len]; omega
      rw [ll]
      have hk2' : ∀ b, b < n + 1 → h2.get b = h'.get b := fun b hb => hk2 b (by omega) fun q => by have := (hO.lt q).1; omega
      have hO2 : Own h2 (n + 1) (n' + 2) 3 (.slice (some ⟨n' + 1, 0, none⟩) (i + 1) (CAP + (i + 1))) (intsV .i64 ((picksI gs T).take (i + 1))) := Own.mk' hg2 (by omega) (by omega) (by rw [intsV_len, List.length_take, picksI_len]; omega)
      have hrx2 : Row h2 (n' + 2) 3 .i64 x (gs.getD i []) := hrx.keep' (by omega) fun c hc => hk2 c (hrx.lt hc) fun q => by
        obtain ⟨q1, q2⟩ := hO.lt q
        have := (hG0.keep (Nat.le_refl n) (fun _ _ => rfl))
        obtain ⟨b', off', cap', o', ks', hv', hgx', hb', hat'⟩ := this.at (by omega)
        cases hv'
        obtain ⟨x', hx', hrx'⟩ := hat' i hi
        rw [hk b hb', hgx'] at hgx
        cases hgx
        rw [hx'] at hx
        cases hx
        have := hrx'.lt hc
        omega
      try simp (disch := first | omega | assumption | exact one_int _ _ | exact one_slice _ _ _ | exact one_ptr _ | exact one_bool _ | exact one_string _) only [RXA, RXB, Nat.reduceAdd, Nat.reduceLT, wrap_id, wrap_succ, wrap_pred, FX1]
      refine run_call okd (s_Counts lf (d + 6) (n' + 2) h2 hlf x _ hrx2 (by omega) s h3 h258) (by omega) (fun _ _ h => h.elim) fun v3 h3' n3 hn3 fr3 hq3 => ?_
      rcases hq3 with ⟨_, m, rfl, hm⟩ | ⟨hbad, _⟩
      rotate_left
      · rw [g2] at hbad; cases hbad
      have e2 : ((p : Nat) : Int) < ((t : Nat) : Int) := by omega
      have hgc3 : h3'.get n = some ⟨22, true, cs⟩ := by rw [fr3 n (by omega) id, hk2' n (by omega)]; exact hgc
      have cx : cs[p]? = some (cs.getD p undef) := by rw [List.getD_eq_getElem?_getD, List.getElem?_eq_getElem (by omega)]; rfl
      have lt1 : n < n3 := by omega
      have keep3 : ∀ j, j < t → Row h3' n3 3 .i64 (cs.getD j undef) (countsL (allP j (gs.take i) ((picksL gs T).take i)) s) := fun j hj =>
        ((hrow j hj).1.keep' (show n' ≤ n' + 2 by omega) fun c hc => hk2 c ((hrow j hj).1.lt hc) ((hrow j hj).2 c hc)).keep hn3 fun c hc => fr3 c hc id
      try simp (disch := first | omega | assumption | exact one_int _ _ | exact one_slice _ _ _ | exact one_ptr _ | exact one_bool _ | exact one_string _) only [RXA, RXB, Nat.reduceAdd, Nat.reduceLT, wrap_id, wrap_succ, wrap_pred, FX1, ext0, ext1, e2, hgc3, cx]
      refine run_call okd (s_Add lf (d + 1) n3 h3' hlf _ _ _ _ (keep3 p pl) hm (by rw [countsL_len]; omega) (by rw [countsL_len, countsL_len]) (tabC_in gs T s p hg (fun g hg' => List.mem_of_mem_take hg') (by rw [List.length_take]; omega)) (allIn_iff.2 fun y hy => by have := countsL_mem hy; omega)) (by omega) (fun _ _ h => h.elim) fun v4 h4 n4 hn4 fr4 hq4 => ?_
      obtain ⟨z, rfl, hz, hfz⟩ := hq4
      have hgc4 : h4.get n = some ⟨22, true, cs⟩ := (fr4 n lt1 id).trans hgc3
      have lt2 : n < n4 := by omega
      have one_z : one z = true := by obtain ⟨_, _, rfl⟩ := hz.len; rfl
      try simp (disch := first | omega | assumption | exact one_int _ _ | exact one_slice _ _ _ | exact one_ptr _ | exact one_bool _ | exact one_string _) only [RXA, RXB, Nat.reduceAdd, Nat.reduceLT, wrap_id, wrap_succ, wrap_pred, FX1, ext0, ext1, e2, hgc4, one_z]
      refine ⟨by omega, .inl (Nat.le_refl _), ?_⟩
      have za := addL_counts (allP p (gs.take i) ((picksL gs T).take i)) (gs.getD i []) s (by
        have := allP_len p (gs.take i) ((picksL gs T).take i) fun g hg' => (hg.1 g (List.mem_of_mem_take hg')).1
        rw [List.length_take] at this
        omega)
      rw [za] at hz
      have rr : ∀ {y : Value} {ys : List Int} {m : Nat} (q : Row h4 m 3 .i64 y ys), Row (h4.set n (some ⟨22, true, cs.set p z⟩)) m 3 .i64 y ys := fun q => q.keep' (Nat.le_refl _) fun c hc => get_ne _ _ fun e => by
        obtain ⟨B, b1, b2⟩ := q.elem hc
        rw [e, hgc4] at b1
        cases b1
        exact absurd (show (22 : Nat) = 3 from b2) (by decide)
      have oo : Own (h4.set n (some ⟨22, true, cs.set p z⟩)) (n + 1) n4 3 (.slice (some ⟨n' + 1, 0, none⟩) (i + 1) (CAP + (i + 1))) (intsV .i64 ((picksI gs T).take (i + 1))) :=
        ((hO2.keep hn3 fun c hc => fr3 c (hO2.lt hc).2 id).keep hn4 fun c hc => fr4 c (by have := (hO2.lt hc).2; omega) id).keep (Nat.le_refl _) fun c hc => get_ne _ _ (by have := (hO2.lt hc).1; omega)
      refine next _ _ _ ⟨by omega, fun c hc => ?_, oo, cs.set p z, get_eq _ _ _, by simp [hcl], fun j hj => ?_⟩
      · rw [get_ne _ _ (by omega), fr4 c (by omega) id, fr3 c (by omega) id, hk2' c (by omega)]
        exact hk c hc
      · have al : (gs.take i).length = ((picksL gs T).take i).length := by rw [List.length_take, List.length_take, picksL_len]
        rw [gn2, pn2, allP_app j _ _ _ _ al]
        by_cases e : j = p
        · subst e
          have : (cs.set j z).getD j undef = z := by rw [List.getD_eq_getElem?_getD, List.getElem?_set_self (by omega)]; rfl
          rw [this, if_pos rfl]
          exact ⟨rr hz, fun c hc q => by have := hfz c hc; have := q.inj; omega⟩
        · have : (cs.set p z).getD j undef = cs.getD j undef := by rw [List.getD_eq_getElem?_getD, List.getElem?_set_ne (fun q => e q.symm), List.getD_eq_getElem?_getD]
          rw [this, if_neg (fun q => e q.symm), List.append_nil]
          exact ⟨rr ((keep3 j hj).keep hn4 fun c hc => fr4 c hc id), fun c hc q => by have := (hrow j hj).1.lt hc; have := q.inj; omega⟩
    · have : ((List.range t).map cel).getD p undef = cel p := map_gd _ _ hp
      rw [this]
      have e : countsL (allP p (gs.take 0) ((picksL gs T).take 0)) s = List.replicate s 0 := by
        rw [List.take_zero, List.take_zero]
        exact countsL_nil s
      rw [e]
      exact Row.ofBlk (hj p hp) (by omega) (by simp)
  · rintro fu i _ h' n' hi ⟨rfl, hk, hg', hj⟩ next
    have e2 : ((i : Nat) : Int) < ((t : Nat) : Int) := by omega
    rw [succA_tables_round]
    try simp (disch := first | omega | assumption | exact one_int _ _ | exact one_slice _ _ _ | exact one_ptr _ | exact one_bool _ | exact one_string _) only [RXA, RXB, Nat.reduceAdd, Nat.reduceLT, wrap_id, wrap_succ, wrap_pred, FX1, e2]
    refine Ev.run_make c1x22 s s _ (Nat.le_refl _) (by omega) ?_
    have hg2 : (h'.set (n + 1 + i) (some ⟨3, true, List.replicate s (.int .i64 0)⟩)).get n = some ⟨22, true, rc cel (.slice none 0 0) t i⟩ := by rw [get_ne _ _ (by omega)]; exact hg'
    have lt2 : n < n + 1 + i + 1 := by omega
    have rs := rc_set (f := cel) (z := .slice none 0 0) hi
    have hcel : cel i = .slice (some ⟨n + 1 + i, 0, none⟩) s s := rfl
    rw [hcel] at rs
    try simp (disch := first | omega | assumption | exact one_int _ _ | exact one_slice _ _ _ | exact one_ptr _ | exact one_bool _ | exact one_string _) only [RXA, RXB, Nat.reduceAdd, Nat.reduceLT, wrap_id, wrap_succ, wrap_pred, FX1, e2, hg2, rs, rc_len]
    refine ⟨hi, .inl (by omega), ?_⟩
    refine next () _ _ ⟨by omega, fun b hb => by rw [get_ne _ _ (by omega), get_ne _ _ (by omega)]; exact hk b hb, get_eq _ _ _, fun j hj3 => ?_⟩
    rw [get_ne _ _ (by omega)]
    by_cases q : j = i
    · subst q
      rw [get_eq, intsV_rep]
    · rw [get_ne _ _ (by omega)]
      exact hj j (by omega)
end
end Go.Proofs.YtdagfcflbphoiaaDoor
/- Layer 12 by the second form: the choice. -/
namespace Go.Proofs.YtdagfcflbphoiaaDoor
set_option linter.unusedVariables false
set_option linter.unusedSimpArgs false
open Go.RowKit Ev Tb

/-- the tables behind so many rounds -/
noncomputable def tabIt (xs : List Int) (s : Nat) : Nat → List (List Int)
  | 0 => firstL (countsL xs s) (xs.length : Int)
  | k + 1 => tabsL (groupsL xs) (tabIt xs s k) s
theorem tabIt_len (xs : List Int) (s : Nat) : ∀ k, (tabIt xs s k).length = numL (xs.length : Int)
  | 0 => firstL_len _ _
  | k + 1 => (tabsL_len _ _ _).trans (tabIt_len xs s k)
theorem groups_good {xs : List Int} {s : Nat} (hl : xs.length ≤ 1000000) (hin : inB s xs = true) : GoodG s (groupsL xs) := by
  refine ⟨fun g hg => ?_, by rw [groupsL_len]; unfold grpN; omega⟩
  obtain ⟨a, _, b⟩ := groups_mem hg
  exact ⟨b, inB_iff.2 fun x hx => inB_iff.1 hin x (a x hx)⟩
theorem tabIt_good {xs : List Int} {s : Nat} (hl : xs.length ≤ 1000000) (hin : inB s xs = true) (h3 : 3 ≤ s) (h258 : s ≤ 258) : ∀ k, GoodT s (tabIt xs s k)
  | 0 => fun t ht => by
    unfold tabIt firstL at ht
    obtain ⟨p, _, rfl⟩ := List.mem_map.1 ht
    exact ⟨by rw [firstT_len, countsL_len], fun y hy => by have := firstT_mem hy; omega⟩
  | k + 1 => tabsL_good (groups_good hl hin) h3 h258
section
variable (lf d n : Nat) (h : H) (hlf : 3000000 ≤ lf)
include hlf
theorem s_TablesOf (v : Value) (xs : List Int) (s : Nat) (g : Gd h n) (hR : Row h n 3 .i64 v xs) (h0 : 0 < xs.length) (hl : xs.length ≤ 1000000) (h3 : 3 ≤ s) (h258 : s ≤ 258) (hin : inB s xs = true) (hd : 600 ≤ d) :
    Run (fun _ => False) n (evCall2 Tryd.prog gt lf d 15 #[v, .int .i64 (s : Int)]) h n fun v' h' n' => ∃ x y, v' = .tuple #[.agg #[x, y], .int .i64 0] ∧ RR h' n' 22 3 x (tabIt xs s 4) ∧ Row h' n' 3 .i64 y (picksI (groupsL xs) (tabIt xs s 3)) := by
  obtain ⟨d, rfl⟩ : ∃ e, d = e + 8 := ⟨d - 8, by omega⟩
  rw [sh_tables_Of]
  refine Run.inside_ ?_
  unfold b_tables_Of
  have hR0 := hR
  obtain ⟨a, c, rfl⟩ := hR.len
  refine run_alloc zr25 _ ?_
  obtain ⟨ha, hha⟩ : ∃ ha, h.set n (some ⟨25, true, (Value.agg #[Value.slice none 0 0, Value.slice none 0 0]).cells.toList⟩) = ha := ⟨_, rfl⟩
  have ka : ∀ b, b < n → ha.get b = h.get b := fun b hb => by rw [← hha]; exact get_ne _ _ (by omega)
  have ga : ha.get n = some ⟨25, true, [.slice none 0 0, .slice none 0 0]⟩ := by rw [← hha, get_eq]; rfl
  rw [hha]
  refine run_call okd (s_Counts lf (d + 6) (n + 1) ha hlf _ xs (hR0.keep (Nat.le_succ n) ka) hl s h3 h258) (Nat.le_succ n) (fun _ _ h => h.elim) fun v1 h1 n1 hn1 fr1 hq => ?_
  rcases hq with ⟨_, u, rfl, hu⟩ | ⟨hbad, _⟩
  rotate_left
  · rw [hin] at hbad; cases hbad
  have k1 : ∀ b, b < n → h1.get b = h.get b := fun b hb => (fr1 b (by omega) id).trans (ka b hb)
  have hR1 := hR0.keep (show n ≤ n1 by omega) k1
  have z0 : (((xs.length : Nat) : Int) == 0) = false := beq_eq_false_iff_ne.2 (by omega)
  have z1 : ((0 : Int) != 0) = false := rfl
  try simp (disch := first | omega | assumption | exact one_int _ _ | exact one_slice _ _ _ | exact one_ptr _ | exact one_bool _ | exact one_string _) only [RXA, RXB, Nat.reduceAdd, Nat.reduceLT, wrap_id, wrap_succ, wrap_pred, FX1, ext0, ext1, z0, z1]
  refine run_same (s_fGroups lf (d + 6) n1 h1 xs.length (by omega)) (by omega) (fun _ _ h => h.elim) ?_
  have z2 : ¬ ((32767 : Int) < (grpN xs.length : Int)) := by unfold grpN; omega
  try simp (disch := first | omega | assumption | exact one_int _ _ | exact one_slice _ _ _ | exact one_ptr _ | exact one_bool _ | exact one_string _) only [RXA, RXB, Nat.reduceAdd, Nat.reduceLT, wrap_id, wrap_succ, wrap_pred, FX1, z2]
  refine run_call okd (s_groupsOf lf (d + 3) n1 h1 hlf _ xs hR1 hl) (by omega) (fun _ _ h => h.elim) fun vg h2 n2 hn2 fr2 hg2 => ?_
  have k2 : ∀ b, b < n → h2.get b = h.get b := fun b hb => (fr2 b (by omega) id).trans (k1 b hb)
  have hu2 := hu.keep hn2 fun b hb => fr2 b hb id
  have cm : ∀ x ∈ countsL xs s, 0 ≤ x ∧ x ≤ 1099511627776 := fun x hx => by have := countsL_mem hx; omega
  try simp (disch := first | omega | assumption | exact one_int _ _ | exact one_slice _ _ _ | exact one_ptr _ | exact one_bool _ | exact one_string _) only [RXA, RXB, Nat.reduceAdd, Nat.reduceLT, wrap_id, wrap_succ, wrap_pred, FX1]
  refine run_call okd (s_first lf (d + 5) n2 h2 hlf u (countsL xs s) (xs.length : Int) (g.keep (by omega) k2) hu2 (by rw [countsL_len]; exact h258) cm (by omega) (by omega)) (by omega) (fun _ _ h => h.elim) fun vf h3' n3 hn3 fr3 hf => ?_
  have hg3 := hg2.keep hn3 fun b hb => fr3 b hb id
  have hf0 := hf
  obtain ⟨af, cf, rfl⟩ := hf.len
  try simp (disch := first | omega | assumption | exact one_int _ _ | exact one_slice _ _ _ | exact one_ptr _ | exact one_bool _ | exact one_string _) only [RXA, RXB, Nat.reduceAdd, Nat.reduceLT, wrap_id, wrap_succ, wrap_pred, FX1]
  refine run_alloc zr25 _ ?_
  refine run_sta (cs := [.slice none 0 0, .slice none 0 0]) sz25 (vs := [.slice af (firstL (countsL xs s) (xs.length : Int)).length cf, .slice none 0 0]) rfl rfl rfl (get_eq _ _ _) (Nat.lt_succ_self n3) (Nat.le_refl _) (.inl (by omega)) _ fun h4 hg4 k4 => ?_
  have k4' : ∀ b, b < n3 → h4.get b = h3'.get b := fun b hb => by rw [k4 b (by omega), get_ne _ _ (by omega)]
  have hgr := groups_good hl hin
  have ht := tabIt_good hl hin h3 h258
  have ht2 := tabIt_len xs s
  have hn6 := numL_ge (xs.length : Int)
  have gn4 : h4.get n = some ⟨25, true, [.slice none 0 0, .slice none 0 0]⟩ := by rw [k4' n (by omega), fr3 n (by omega) id, fr2 n (by omega) id, fr1 n (by omega) id]; exact ga
  have hg4' := hg3.keep (Nat.le_succ n3) k4'
  have hf4 := hf0.keep (Nat.le_succ n3) k4'
  refine run_for 4 (fun fu i (_ : Unit) => lpA_tables_Of lf (d + 7) fu (kcA_tables_Of lf (d + 7)) (.slice a xs.length c) (.int .i64 (s : Nat)) (.pointer (some ⟨n, 0, none⟩)) (.int .i64 0) u (.int .i64 0) vg (.pointer (some ⟨n3, 0, none⟩)) (.bool false) (.bool false) (.int .i64 (i : Nat)))
    (fun i _ h' n' => n3 < n' ∧ (∀ b, b < n3 → h'.get b = h4.get b) ∧ ∃ x y, h'.get n3 = some ⟨25, true, [x, y]⟩ ∧ RR h' n' 22 3 x (tabIt xs s i) ∧ one y = true ∧ (0 < i → Row h' n' 3 .i64 y (picksI (groupsL xs) (tabIt xs s (i - 1))))) ?_ ?_ lf 0 () _ _ (Nat.zero_le _) (by omega) ⟨Nat.lt_succ_self n3, fun _ _ => rfl, _, _, hg4, hf4, rfl, fun q => absurd q (Nat.lt_irrefl 0)⟩
  · rintro fu _ h' n' ⟨hn', hk', x, y, hg', hx, hy1, hy⟩
    have z4 : ¬ (((4 : Nat) : Int) < 4) := by omega
    rw [succA_tables_Of]
    try simp (disch := first | omega | assumption | exact one_int _ _ | exact one_slice _ _ _ | exact one_ptr _ | exact one_bool _ | exact one_string _) only [RXA, RXB, Nat.reduceAdd, Nat.reduceLT, wrap_id, wrap_succ, wrap_pred, FX1, z4]
    rw [kcAa_tables_Of]
    refine run_lda aga25 sz25 _ _ _ hg' hn' (by simp) ?_
    have ga' : h'.get n = some ⟨25, true, [.slice none 0 0, .slice none 0 0]⟩ := by rw [hk' n (by omega)]; exact gn4
    have hy2 := hy (by omega)
    have hx1 : one x = true := by obtain ⟨_, _, rfl⟩ := hx.len; rfl
    refine run_sta sz25 (vs := [x, y]) rfl rfl (by simp [hx1, hy1]) ga' (by omega) (Nat.le_refl _) (.inl (Nat.le_refl _)) _ fun h5 hg5 k5 => ?_
    refine run_lda0 aga25 sz25 _ _ _ hg5 (by omega) (by simp) ?_
    have e5 : ∀ b, (∀ B, h'.get b = some B → B.elem ≠ 25) → h5.get b = h'.get b := fun b hb => k5 b fun e => by subst e; exact hb _ ga' rfl
    try simp (disch := first | omega | assumption | exact one_int _ _ | exact one_slice _ _ _ | exact one_ptr _ | exact one_bool _ | exact one_string _) only [RXA, RXB, Nat.reduceAdd, Nat.reduceLT, wrap_id, wrap_succ, wrap_pred, FX1]
    refine ⟨x, y, rfl, ?_, hy2.keep' (Nat.le_refl _) fun b hb => e5 b fun B hB e => by
      obtain ⟨B', q1, q2⟩ := hy2.elem hb
      rw [hB] at q1; cases q1
      exact absurd (show (3 : Nat) = 25 from q2.symm.trans e) (by decide)⟩
    obtain ⟨cs, r1, r2, r3⟩ := hx
    have vel : ∀ b, InBlk x b → ∃ B, h'.get b = some B ∧ B.elem = 22 := fun b hb => by
      rcases r1 with ⟨a, c, rfl, hne, _⟩ | ⟨b', off, cap, o, ks, rfl, hg, _⟩
      · obtain ⟨o, l, k, q⟩ := hb
        cases q
        exact absurd rfl (hne b o)
      · rw [hb.inj]; exact ⟨_, hg, rfl⟩
    refine ⟨cs, r1.keep (Nat.le_refl _) fun b hb => e5 b fun B hB e => ?_, r2, fun i hi => (r3 i hi).keep' (Nat.le_refl _) fun b hb => e5 b fun B hB e => ?_⟩
    · obtain ⟨B', q1, q2⟩ := vel b hb
      rw [hB] at q1; cases q1
      exact absurd (show (22 : Nat) = 25 from q2.symm.trans e) (by decide)
    · obtain ⟨B', q1, q2⟩ := (r3 i hi).elem hb
      rw [hB] at q1; cases q1
      exact absurd (show (3 : Nat) = 25 from q2.symm.trans e) (by decide)
  · rintro fu i _ h' n' hi ⟨hn', hk', x, y, hg', hx, hy1, hy⟩ next
    have e1 : ((i : Nat) : Int) < 4 := by omega
    have hx1 : one x = true := by obtain ⟨_, _, rfl⟩ := hx.len; rfl
    rw [succA_tables_Of]
    try simp (disch := first | omega | assumption | exact one_int _ _ | exact one_slice _ _ _ | exact one_ptr _ | exact one_bool _ | exact one_string _) only [RXA, RXB, Nat.reduceAdd, Nat.reduceLT, wrap_id, wrap_succ, wrap_pred, FX1, e1, hg']
    refine run_call okd (s_round lf (d + 7) n' h' hlf vg x (groupsL xs) (tabIt xs s i) s (hg3.keep (by omega) fun b hb => by rw [hk' b hb]; exact k4' b hb) hx hgr (ht i) (by rw [ht2]; omega) (by rw [ht2]; omega) h3 h258 (by omega)) (by omega) (fun _ _ h => h.elim) fun v5 h5 n5 hn5 fr5 hq5 => ?_
    obtain ⟨px, ty, rfl, hpx, hty⟩ := hq5
    have hg5 := (fr5 n3 hn' id).trans hg'
    have hpx0 := hpx
    have hty0 := hty
    obtain ⟨a6, c6, rfl⟩ := hpx.len
    obtain ⟨a7, c7, rfl⟩ := hty.len
    try simp (disch := first | omega | assumption | exact one_int _ _ | exact one_slice _ _ _ | exact one_ptr _ | exact one_bool _ | exact one_string _) only [RXA, RXB, Nat.reduceAdd, Nat.reduceLT, wrap_id, wrap_succ, wrap_pred, FX1, ext0, ext1]
    refine run_sta sz25 (vs := [.slice a7 (tabsL (groupsL xs) (tabIt xs s i) s).length c7, .slice a6 (picksI (groupsL xs) (tabIt xs s i)).length c6]) rfl rfl rfl hg5 (by omega) (Nat.le_refl _) (.inl (by omega)) _ fun h6 hg6 k6 => ?_
    have e6 : ∀ b, (∀ B, h5.get b = some B → B.elem ≠ 25) → h6.get b = h5.get b := fun b hb => k6 b fun e => by subst e; exact hb _ hg5 rfl
    try simp (disch := first | omega | assumption | exact one_int _ _ | exact one_slice _ _ _ | exact one_ptr _ | exact one_bool _ | exact one_string _) only [RXA, RXB, Nat.reduceAdd, Nat.reduceLT, wrap_id, wrap_succ, wrap_pred, FX1]
    refine next () h6 n5 ⟨by omega, fun b hb => by rw [k6 b (by omega), fr5 b (by omega) id]; exact hk' b hb, _, _, hg6, ?_, rfl, fun _ => ?_⟩
    · obtain ⟨cs, r1, r2, r3⟩ := hty0
      refine ⟨cs, r1.keep (Nat.le_refl _) fun b hb => e6 b fun B hB e => ?_, r2, fun i hi => (r3 i hi).keep' (Nat.le_refl _) fun b hb => e6 b fun B hB e => ?_⟩
      · rcases r1 with ⟨a, c, q, hne, _⟩ | ⟨b', off, cap, o, ks, q, hg, _⟩
        · obtain ⟨o, l, k, q2⟩ := hb
          rw [q2] at q
          cases q
          exact absurd rfl (hne b o)
        · rw [q] at hb
          rw [hb.inj, hg] at hB
          cases hB
          exact absurd (show (22 : Nat) = 25 from e) (by decide)
      · obtain ⟨B', q1, q2⟩ := (r3 i hi).elem hb
        rw [hB] at q1; cases q1
        exact absurd (show (3 : Nat) = 25 from q2.symm.trans e) (by decide)
    · exact hpx0.keep' (Nat.le_refl _) fun b hb => e6 b fun B hB e => by
        obtain ⟨B', q1, q2⟩ := hpx0.elem hb
        rw [hB] at q1; cases q1
        exact absurd (show (3 : Nat) = 25 from q2.symm.trans e) (by decide)
theorem s_TablesOf_no (v : Value) (xs : List Int) (z : Int) (hR : Row h n 3 .i64 v xs) (hl : xs.length ≤ 1000000) (hno : z < 3 ∨ 258 < z ∨ xs = [] ∨ inB z xs = false) (hd : 600 ≤ d) :
    Run (fun _ => False) n (evCall2 Tryd.prog gt lf d 15 #[v, .int .i64 z]) h n fun v' h' n' => v' = .tuple #[.agg #[.slice none 0 0, .slice none 0 0], .int .i64 1] := by
  obtain ⟨d, rfl⟩ : ∃ e, d = e + 8 := ⟨d - 8, by omega⟩
  rw [sh_tables_Of]
  refine Run.inside_ ?_
  unfold b_tables_Of
  have hR0 := hR
  obtain ⟨a, c, rfl⟩ := hR.len
  refine run_alloc zr25 _ ?_
  obtain ⟨ha, hha⟩ : ∃ ha, h.set n (some ⟨25, true, (Value.agg #[Value.slice none 0 0, Value.slice none 0 0]).cells.toList⟩) = ha := ⟨_, rfl⟩
  have ka : ∀ b, b < n → ha.get b = h.get b := fun b hb => by rw [← hha]; exact get_ne _ _ (by omega)
  have ga : ha.get n = some ⟨25, true, [.slice none 0 0, .slice none 0 0]⟩ := by rw [← hha, get_eq]; rfl
  rw [hha]
  have fin : ∀ (h1 : H) (n1 : Nat) (k : Value → M Value), n < n1 → h1.get n = some ⟨25, true, [.slice none 0 0, .slice none 0 0]⟩ → (∀ q, k q = outK [q, .int .i64 1]) → Run (fun _ => False) n ((inside (evStore Tryd.prog 25 (.pointer (some ⟨n, 0, none⟩)) (.agg #[.slice none 0 0, .slice none 0 0]))).bind fun _ => (evLoad Tryd.prog 25 (.pointer (some ⟨n, 0, none⟩))).bind k) h1 n1 fun v' h' n' => v' = .tuple #[.agg #[.slice none 0 0, .slice none 0 0], .int .i64 1] := by
    intro h1 n1 k hn hg hk
    refine run_sta sz25 (vs := [.slice none 0 0, .slice none 0 0]) rfl rfl rfl hg hn (Nat.le_refl _) (.inl (Nat.le_refl _)) _ fun h5 hg5 k5 => ?_
    refine run_lda0 aga25 sz25 _ _ _ hg5 (by omega) (by simp) ?_
    rw [hk, run_out2]
    rfl
  have z1 : ((1 : Int) != 0) = true := rfl
  have z2 : ((0 : Int) != 0) = false := rfl
  by_cases c1 : z < 3 ∨ 258 < z
  · refine run_same (s_Counts_size lf (d + 6) (n + 1) ha _ z c1) (Nat.le_succ n) (fun _ _ h => h.elim) ?_
    try simp (disch := first | omega | assumption | exact one_int _ _ | exact one_slice _ _ _ | exact one_ptr _ | exact one_bool _ | exact one_string _) only [RXA, RXB, Nat.reduceAdd, Nat.reduceLT, wrap_id, wrap_succ, wrap_pred, FX1, ext0, ext1, z1]
    exact fin _ _ _ (Nat.lt_succ_self n) ga fun _ => rfl
  · obtain ⟨s, rfl⟩ : ∃ s : Nat, z = (s : Int) := ⟨z.toNat, by omega⟩
    refine run_call okd (s_Counts lf (d + 6) (n + 1) ha hlf _ xs (hR0.keep (Nat.le_succ n) ka) hl s (by omega) (by omega)) (Nat.le_succ n) (fun _ _ h => h.elim) fun v1 h1 n1 hn1 fr1 hq => ?_
    have ga1 := (fr1 n (Nat.lt_succ_self n) id).trans ga
    rcases hq with ⟨hin, u, rfl, hu⟩ | ⟨hbad, rfl⟩
    · have hx : xs = [] := by
        rcases hno with q | q | q | q
        · omega
        · omega
        · exact q
        · rw [hin] at q; cases q
      subst hx
      have z0 : ((([] : List Int).length : Int) == 0) = true := rfl
      try simp (disch := first | omega | assumption | exact one_int _ _ | exact one_slice _ _ _ | exact one_ptr _ | exact one_bool _ | exact one_string _) only [RXA, RXB, Nat.reduceAdd, Nat.reduceLT, wrap_id, wrap_succ, wrap_pred, FX1, ext0, ext1, z2, z0]
      exact fin _ _ _ (by omega) ga1 fun _ => rfl
    · try simp (disch := first | omega | assumption | exact one_int _ _ | exact one_slice _ _ _ | exact one_ptr _ | exact one_bool _ | exact one_string _) only [RXA, RXB, Nat.reduceAdd, Nat.reduceLT, wrap_id, wrap_succ, wrap_pred, FX1, ext0, ext1, z1]
      exact fin _ _ _ (by omega) ga1 fun _ => rfl
end
end Go.Proofs.YtdagfcflbphoiaaDoor
/- Layer 12 by the second form: the reference's tables at first, and its choice. -/
namespace Go.Proofs.YtdagfcflbphoiaaDoor
set_option linter.unusedVariables false
set_option linter.unusedSimpArgs false
open Go.RowKit Ev Tb

def clampI (z q : Int) : Int := if z - 1 < q then z - 1 else q
theorem firstT_next {xs : List Int} {z : Int} {p i : Nat} (hi : i < xs.length) : intsV .i64 ((firstT xs z p).take (i + 1)) = intsV .i64 ((firstT xs z p).take i) ++ [.int .i64 (if mineL xs z i = p then 0 else 15)] := by
  rw [List.take_succ_eq_append_getElem (by rw [firstT_len]; exact hi)]
  unfold intsV firstT
  rw [List.map_append]
  simp
section
variable (lf d n : Nat) (h : H) (hlf : 3000000 ≤ lf)
include hlf
set_option maxHeartbeats 1000000 in
theorem r_First (v : Value) (xs : List Int) (z : Int) (hR : Row h n 3 .i64 v xs) (hl : xs.length ≤ 258) (hx : ∀ x ∈ xs, 0 ≤ x ∧ x ≤ 1099511627776) (hz : 1 ≤ z) (hz2 : z ≤ 1099511627776) :
    Run (fun _ => False) n (evCall2 Tryd.prog gt lf (d + 2) 23 #[v, .int .i64 z]) h n fun v' h' n' => RR h' n' 22 3 v' (firstL xs z) := by
  rw [sh_balerref12_First]
  refine Run.inside_ ?_
  unfold b_balerref12_First
  have hR0 := hR
  obtain ⟨a, c, rfl⟩ := hR.len
  refine run_same (r_Number lf d n h z) (Nat.le_refl _) (fun _ _ h => h.elim) ?_
  have ht := numL_ge z
  obtain ⟨t, htt⟩ : ∃ t, numL z = t := ⟨_, rfl⟩
  rw [htt] at ht ⊢
  refine run_for t (fun fu i (q : Value) => lpA_balerref12_First lf (d + 1) fu (kcA_balerref12_First lf (d + 1)) (.slice a xs.length c) (.int .i64 z) (.slice none 0 0) (.int .i64 (t : Nat)) q (.int .i64 (t : Nat)) (.int .i64 (i : Nat)))
    (fun i q h' n' => n ≤ n' ∧ (∀ b, b < n → h'.get b = h.get b) ∧ OwnRR h' n n' n' 22 3 q ((List.range i).map (firstT xs z))) ?_ ?_ lf 0 _ _ _ (Nat.zero_le _) (by omega) ⟨Nat.le_refl _, fun _ _ => rfl, OwnRR.nil _ _ _ _ _ _⟩
  · rintro fu q h' n' ⟨hn, hk, hO⟩
    rw [succA_balerref12_First]
    try simp (disch := first | omega | assumption | exact one_int _ _ | exact one_slice _ _ _ | exact one_ptr _ | exact one_bool _ | exact one_string _) only [RXA, RXB, Nat.reduceAdd, Nat.reduceLT, wrap_id, wrap_succ, wrap_pred, FX1, Int.lt_irrefl]
    rw [kcAa_balerref12_First]
    try simp (disch := first | omega | assumption | exact one_int _ _ | exact one_slice _ _ _ | exact one_ptr _ | exact one_bool _ | exact one_string _) only [RXA, RXB, Nat.reduceAdd, Nat.reduceLT, wrap_id, wrap_succ, wrap_pred, FX1]
    have := hO.rr
    unfold firstL
    rw [htt]
    exact this
  · rintro fu i q h1 n1 hi ⟨hn, hk, hO⟩ next
    have e1 : ((i : Nat) : Int) < ((t : Nat) : Int) := by omega
    rw [succA_balerref12_First]
    try simp (disch := first | omega | assumption | exact one_int _ _ | exact one_slice _ _ _ | exact one_ptr _ | exact one_bool _ | exact one_string _) only [RXA, RXB, Nat.reduceAdd, Nat.reduceLT, wrap_id, wrap_succ, wrap_pred, FX1, e1]
    refine run_for xs.length (fun f2 j (w : Value × Int) => lpB_balerref12_First lf (d + 1) f2 (kcB_balerref12_First lf (d + 1) fu (kcA_balerref12_First lf (d + 1))) (.slice a xs.length c) (.int .i64 z) (.slice none 0 0) (.int .i64 (t : Nat)) q (.int .i64 (i : Nat)) w.1 (.int .i64 w.2) (.int .i64 (t : Nat)) (.int .i64 (i : Nat)) _ (.slice a xs.length c) (.int .i64 (xs.length : Nat)) (.int .i64 (j : Nat)))
      (fun j w h' n' => n1 ≤ n' ∧ (∀ b, b < n1 → h'.get b = h1.get b) ∧ Own h' n1 n' 3 w.1 (intsV .i64 ((firstT xs z i).take j)) ∧ clampI z w.2 = belowL xs z j ∧ 0 ≤ w.2 ∧ w.2 ≤ 2199023255552) ?_ ?_ lf 0 (.slice none 0 0, 0) _ _ (Nat.zero_le _) (by omega) ⟨Nat.le_refl _, fun _ _ => rfl, Own.nil _ _ _ _, by unfold clampI belowL; simp only [List.take_zero, sumI], by omega, by omega⟩
    · rintro f2 ⟨w, q2⟩ h' n' ⟨hn', hk', hO', _, _⟩
      simp only at hO'
      rw [succB_balerref12_First]
      try simp (disch := first | omega | assumption | exact one_int _ _ | exact one_slice _ _ _ | exact one_ptr _ | exact one_bool _ | exact one_string _) only [RXA, RXB, Nat.reduceAdd, Nat.reduceLT, wrap_id, wrap_succ, wrap_pred, FX1, Int.lt_irrefl]
      rw [kcBa_balerref12_First]
      rw [List.take_of_length_le (by rw [firstT_len]; exact Nat.le_refl _)] at hO'
      have hO1 := (hO.keep hn' fun b hb _ => hk' b hb).up hn'
      refine run_pushRR c1x23 (by decide) hO1 hO'.row (Nat.le_refl _) (by simp; omega) (Nat.le_refl _) (by omega) _ fun v2 h2 o2 k2 _ => ?_
      try simp (disch := first | omega | assumption | exact one_int _ _ | exact one_slice _ _ _ | exact one_ptr _ | exact one_bool _ | exact one_string _) only [RXA, RXB, Nat.reduceAdd, Nat.reduceLT, wrap_id, wrap_succ, wrap_pred, FX1]
      refine next v2 h2 (n' + 2) ⟨by omega, fun b hb => ?_, ?_⟩
      · rw [k2 b (by omega) fun q => by have := (hO1.lt q).1; omega, hk' b (by omega)]
        exact hk b hb
      · rw [List.range_succ, List.map_append]
        exact o2.up (by omega)
    · rintro f2 j ⟨w, q2⟩ h' n' hj ⟨hn', hk', hO', hq, hq0, hq1⟩ next2
      simp only at hO' hq hq0 hq1
      obtain ⟨b, off, cap, o, cs, hv, hgx, hb, _, _, _, hat⟩ := (hR0.keep (show n ≤ n' by omega) (fun b hb => (hk' b (by omega)).trans (hk b hb))).some (by omega)
      cases hv
      have e2 : ((j : Nat) : Int) < ((xs.length : Nat) : Int) := by omega
      have c1 := hat j hj
      obtain ⟨g0, g1⟩ := belowL_ge (fun x hx' => (hx x hx').1) hz (v := j)
      have g2 := mineL_eq (fun x hx' => (hx x hx').1) hz j
      rw [htt] at g2
      have g4 : 0 ≤ belowL xs z j * (t : Int) := Int.mul_nonneg g0 (by omega)
      have g5 : belowL xs z j * (t : Int) ≤ 1099511627776 * 6 := Int.mul_le_mul (by omega) (by omega) (by omega) (by omega)
      have w1 : IntKind.i64.wrap (belowL xs z j * (t : Int)) = belowL xs z j * (t : Int) := wrap_id (by omega) (by omega)
      have g6 : (mineL xs z j : Int) ≤ 1099511627776 * 6 := by
        have := Int.ediv_le_self z g4
        have h2 : (belowL xs z j * (t : Int)) / z = (mineL xs z j : Int) := by rw [← g2, Int.tdiv_eq_ediv_of_nonneg g4]
        omega
      have w2 : IntKind.i64.wrap (mineL xs z j : Int) = (mineL xs z j : Int) := wrap_id (by omega) (by omega)
      have z0 : z ≠ 0 := by omega
      have xb := hx _ (gd_mem hj)
      have w3 : IntKind.i64.wrap (belowL xs z j + xs.getD j 0) = belowL xs z j + xs.getD j 0 := wrap_id (by omega) (by omega)
      have w4 : IntKind.i64.wrap (z - 1) = z - 1 := wrap_id (by omega) (by omega)
      have bn := belowL_next (fun x hx' => (hx x hx').1) (n := z) hj
      have fn := firstT_next (z := z) (p := i) hj
      have hlen : (intsV .i64 ((firstT xs z i).take j)).length + 1 ≤ 1099511627776 := by rw [intsV_len, List.length_take, firstT_len]; omega
      have hll : (intsV .i64 ((firstT xs z i).take j)).length = j := by rw [intsV_len, List.length_take, firstT_len]; omega
      have fin : ∀ h2, h2.get (n' + 1) = some ⟨3, true, intsV .i64 ((firstT xs z i).take j) ++ [.int .i64 (if mineL xs z j = i then 0 else 15)]⟩ → (∀ b, b < n' → ¬ InBlk w b → h2.get b = h'.get b) →
          Run (fun _ => False) n (lpB_balerref12_First lf (d + 1) f2 (kcB_balerref12_First lf (d + 1) fu (kcA_balerref12_First lf (d + 1))) (.slice (some ⟨b, off, none⟩) xs.length c) (.int .i64 z) (.slice none 0 0) (.int .i64 (t : Nat)) q (.int .i64 (i : Nat)) (.slice (some ⟨n' + 1, 0, none⟩) (j + 1) (CAP + (j + 1))) (.int .i64 (belowL xs z j + xs.getD j 0)) (.int .i64 (t : Nat)) (.int .i64 (i : Nat)) (.bool true) (.slice (some ⟨b, off, none⟩) xs.length c) (.int .i64 (xs.length : Nat)) (.int .i64 ((j + 1 : Nat) : Int))) h2 (n' + 2) fun v' h' n' => RR h' n' 22 3 v' (firstL xs z) := by
        intro h2 hg2 hk2
        rw [← fn] at hg2
        refine next2 (_, belowL xs z j + xs.getD j 0) h2 (n' + 2) ⟨by omega, fun b hb => ?_, Own.mk' hg2 (by omega) (by omega) (by rw [intsV_len, List.length_take, firstT_len]; omega), ?_, by simp only; omega, by simp only; omega⟩
        · rw [hk2 b (by omega) fun q => by have := (hO'.lt q).1; omega]
          exact hk' b hb
        · exact bn
      have cases2 : ∀ (kk : Value → M Value), (∀ h2, h2.get (n' + 1) = some ⟨3, true, intsV .i64 ((firstT xs z i).take j) ++ [.int .i64 (if mineL xs z j = i then 0 else 15)]⟩ → (∀ b, b < n' → ¬ InBlk w b → h2.get b = h'.get b) → Run (fun _ => False) n (kk (.slice (some ⟨n' + 1, 0, none⟩) (j + 1) (CAP + (j + 1)))) h2 (n' + 2) fun v' h' n' => RR h' n' 22 3 v' (firstL xs z)) →
          Run (fun _ => False) n ((inside (evBuildSlice Tryd.prog 22 1 [(0, .int .i64 (if mineL xs z j = i then 0 else 15))])).bind fun u => (inside (evAppend Tryd.prog 22 w u)).bind kk) h' n' fun v' h' n' => RR h' n' 22 3 v' (firstL xs z) := by
        intro kk hkk
        refine run_pushO c1x22 (one_int _ _) hO' hlen (by omega) _ fun h2 hg2 hk2 => ?_
        rw [hll]
        exact hkk h2 hg2 hk2
      rw [succB_balerref12_First]
      by_cases cl : z - 1 < q2
      · have hq' : z - 1 = belowL xs z j := by rw [← hq]; unfold clampI; rw [if_pos cl]
        rw [← hq'] at w1 g2 w3 fin
        by_cases m : mineL xs z j = i
        · have n1 : ((mineL xs z j : Int) == (i : Int)) = true := by rw [m]; simp
          rw [if_pos m] at cases2 fin
          try simp (disch := first | omega | assumption | exact one_int _ _ | exact one_slice _ _ _ | exact one_ptr _ | exact one_bool _ | exact one_string _) only [RXA, RXB, Nat.reduceAdd, Nat.reduceLT, wrap_id, wrap_succ, wrap_pred, FX1, e2, hgx, c1, w4, cl, w1, z0, g2, w2, n1]
          refine cases2 _ fun h2 hg2 hk2 => ?_
          try simp (disch := first | omega | assumption | exact one_int _ _ | exact one_slice _ _ _ | exact one_ptr _ | exact one_bool _ | exact one_string _) only [RXA, RXB, Nat.reduceAdd, Nat.reduceLT, wrap_id, wrap_succ, wrap_pred, FX1, w3]
          exact fin h2 hg2 hk2
        · have n1 : ((mineL xs z j : Int) == (i : Int)) = false := beq_eq_false_iff_ne.2 fun e => m (by omega)
          rw [if_neg m] at cases2 fin
          try simp (disch := first | omega | assumption | exact one_int _ _ | exact one_slice _ _ _ | exact one_ptr _ | exact one_bool _ | exact one_string _) only [RXA, RXB, Nat.reduceAdd, Nat.reduceLT, wrap_id, wrap_succ, wrap_pred, FX1, e2, hgx, c1, w4, cl, w1, z0, g2, w2, n1]
          refine cases2 _ fun h2 hg2 hk2 => ?_
          try simp (disch := first | omega | assumption | exact one_int _ _ | exact one_slice _ _ _ | exact one_ptr _ | exact one_bool _ | exact one_string _) only [RXA, RXB, Nat.reduceAdd, Nat.reduceLT, wrap_id, wrap_succ, wrap_pred, FX1, w3]
          exact fin h2 hg2 hk2
      · have hq' : q2 = belowL xs z j := by rw [← hq]; unfold clampI; rw [if_neg cl]
        rw [← hq'] at w1 g2 w3 fin
        by_cases m : mineL xs z j = i
        · have n1 : ((mineL xs z j : Int) == (i : Int)) = true := by rw [m]; simp
          rw [if_pos m] at cases2 fin
          try simp (disch := first | omega | assumption | exact one_int _ _ | exact one_slice _ _ _ | exact one_ptr _ | exact one_bool _ | exact one_string _) only [RXA, RXB, Nat.reduceAdd, Nat.reduceLT, wrap_id, wrap_succ, wrap_pred, FX1, e2, hgx, c1, w4, cl, w1, z0, g2, w2, n1]
          refine cases2 _ fun h2 hg2 hk2 => ?_
          try simp (disch := first | omega | assumption | exact one_int _ _ | exact one_slice _ _ _ | exact one_ptr _ | exact one_bool _ | exact one_string _) only [RXA, RXB, Nat.reduceAdd, Nat.reduceLT, wrap_id, wrap_succ, wrap_pred, FX1, w3]
          exact fin h2 hg2 hk2
        · have n1 : ((mineL xs z j : Int) == (i : Int)) = false := beq_eq_false_iff_ne.2 fun e => m (by omega)
          rw [if_neg m] at cases2 fin
          try simp (disch := first | omega | assumption | exact one_int _ _ | exact one_slice _ _ _ | exact one_ptr _ | exact one_bool _ | exact one_string _) only [RXA, RXB, Nat.reduceAdd, Nat.reduceLT, wrap_id, wrap_succ, wrap_pred, FX1, e2, hgx, c1, w4, cl, w1, z0, g2, w2, n1]
          refine cases2 _ fun h2 hg2 hk2 => ?_
          try simp (disch := first | omega | assumption | exact one_int _ _ | exact one_slice _ _ _ | exact one_ptr _ | exact one_bool _ | exact one_string _) only [RXA, RXB, Nat.reduceAdd, Nat.reduceLT, wrap_id, wrap_succ, wrap_pred, FX1, w3]
          exact fin h2 hg2 hk2
end
end Go.Proofs.YtdagfcflbphoiaaDoor
/- Layer 12 by the second form: the reference's choice. -/
namespace Go.Proofs.YtdagfcflbphoiaaDoor
set_option linter.unusedVariables false
set_option linter.unusedSimpArgs false
open Go.RowKit Ev Tb

theorem allP_next {p : Nat} {gs T : List (List Int)} {i : Nat} (hi : i < gs.length) : allP p (gs.take (i + 1)) ((picksL gs T).take (i + 1)) = allP p (gs.take i) ((picksL gs T).take i) ++ (if pickL (gs.getD i []) T = p then gs.getD i [] else []) := by
  have pn2 : (picksL gs T).take (i + 1) = (picksL gs T).take i ++ [pickL (gs.getD i []) T] := by
    rw [List.take_succ_eq_append_getElem (by rw [picksL_len]; exact hi)]
    congr 2
    unfold picksL
    simp only [List.getElem_map]
    rw [List.getD_eq_getElem?_getD, List.getElem?_eq_getElem hi]
    rfl
  have gn2 : gs.take (i + 1) = gs.take i ++ [gs.getD i []] := by
    rw [List.take_succ_eq_append_getElem hi, List.getD_eq_getElem?_getD, List.getElem?_eq_getElem hi]
    rfl
  rw [pn2, gn2, allP_app p _ _ _ _ (by rw [List.length_take, List.length_take, picksL_len])]
theorem picksI_next {gs T : List (List Int)} {i : Nat} (hi : i < gs.length) : intsV .i64 ((picksI gs T).take (i + 1)) = intsV .i64 ((picksI gs T).take i) ++ [.int .i64 (pickL (gs.getD i []) T : Int)] := by
  have : (picksI gs T).take (i + 1) = (picksI gs T).take i ++ [(pickL (gs.getD i []) T : Int)] := by
    rw [List.take_succ_eq_append_getElem (by rw [picksI_len]; exact hi)]
    congr 2
    unfold picksI picksL
    simp only [List.getElem_map]
    rw [List.getD_eq_getElem?_getD, List.getElem?_eq_getElem hi]
    rfl
  rw [this]
  unfold intsV
  rw [List.map_append]
  rfl
theorem picksI_at {gs T : List (List Int)} {i : Nat} (hi : i < gs.length) : (picksI gs T).getD i 0 = (pickL (gs.getD i []) T : Int) := by
  have h1 : i < (picksI gs T).length := by rw [picksI_len]; exact hi
  have : (picksI gs T)[i] = (pickL gs[i] T : Int) := by unfold picksI picksL; simp
  rw [List.getD_eq_getElem?_getD, List.getElem?_eq_getElem h1, Option.getD_some, this, List.getD_eq_getElem?_getD, List.getElem?_eq_getElem hi]
  rfl
section
variable (lf d n : Nat) (h : H) (hlf : 3000000 ≤ lf)
include hlf
set_option maxHeartbeats 2000000 in
theorem r_TablesOf (v : Value) (xs : List Int) (s : Nat) (hR : Row h n 3 .i64 v xs) (h0 : 0 < xs.length) (hl : xs.length ≤ 1000000) (h3 : 3 ≤ s) (h258 : s ≤ 258) (hin : inB s xs = true) (hd : 600 ≤ d) :
    Run (fun _ => False) n (evCall2 Tryd.prog gt lf d 27 #[v, .int .i64 (s : Int)]) h n fun v' h' n' => ∃ x y, v' = .agg #[x, y] ∧ RR h' n' 22 3 x (tabIt xs s 4) ∧ Row h' n' 3 .i64 y (picksI (groupsL xs) (tabIt xs s 3)) := by
  obtain ⟨d, rfl⟩ : ∃ e, d = e + 8 := ⟨d - 8, by omega⟩
  rw [sh_balerref12_Of]
  refine Run.inside_ ?_
  unfold b_balerref12_Of
  have hR0 := hR
  obtain ⟨a, c, rfl⟩ := hR.len
  refine run_alloc zr47 _ ?_
  obtain ⟨ha, hha⟩ : ∃ ha, h.set n (some ⟨47, true, (Value.agg #[Value.slice none 0 0, Value.slice none 0 0]).cells.toList⟩) = ha := ⟨_, rfl⟩
  have ka : ∀ b, b < n → ha.get b = h.get b := fun b hb => by rw [← hha]; exact get_ne _ _ (by omega)
  have ga : ha.get n = some ⟨47, true, [.slice none 0 0, .slice none 0 0]⟩ := by rw [← hha, get_eq]; rfl
  rw [hha]
  have hRa := hR0.keep (Nat.le_succ n) ka
  refine run_call okd (r_Counts lf (d + 5) (n + 1) ha hlf _ xs hRa hl s (by omega)) (Nat.le_succ n) (fun _ _ h => h.elim) fun u h1 n1 hn1 fr1 hu => ?_
  have cm : ∀ x ∈ countsL xs s, 0 ≤ x ∧ x ≤ 1099511627776 := fun x hx => by have := countsL_mem hx; omega
  try simp (disch := first | omega | assumption | exact one_int _ _ | exact one_slice _ _ _ | exact one_ptr _ | exact one_bool _ | exact one_string _) only [RXA, RXB, Nat.reduceAdd, Nat.reduceLT, wrap_id, wrap_succ, wrap_pred, FX1]
  refine run_call okd (r_First lf (d + 5) n1 h1 hlf u (countsL xs s) (xs.length : Int) hu (by rw [countsL_len]; exact h258) cm (by omega) (by omega)) (by omega) (fun _ _ h => h.elim) fun vf h2 n2 hn2 fr2 hf => ?_
  have k2 : ∀ b, b < n + 1 → h2.get b = ha.get b := fun b hb => (fr2 b (by omega) id).trans (fr1 b hb id)
  have hf0 := hf
  obtain ⟨af, cf, rfl⟩ := hf.len
  try simp (disch := first | omega | assumption | exact one_int _ _ | exact one_slice _ _ _ | exact one_ptr _ | exact one_bool _ | exact one_string _) only [RXA, RXB, Nat.reduceAdd, Nat.reduceLT, wrap_id, wrap_succ, wrap_pred, FX1]
  refine run_alloc zr47 _ ?_
  refine run_sta (cs := [.slice none 0 0, .slice none 0 0]) sz47 (vs := [.slice af (firstL (countsL xs s) (xs.length : Int)).length cf, .slice none 0 0]) rfl rfl rfl (get_eq _ _ _) (Nat.lt_succ_self n2) (Nat.le_refl _) (.inl (by omega)) _ fun h3' hg3 k3 => ?_
  have k3' : ∀ b, b < n2 → h3'.get b = h2.get b := fun b hb => by rw [k3 b (by omega), get_ne _ _ (by omega)]
  have hR3 : Row h3' (n2 + 1) 3 .i64 (.slice a xs.length c) xs := hRa.keep (by omega) fun b hb => by rw [k3' b (by omega)]; exact k2 b hb
  refine run_call okd (r_Groups lf (d + 6) (n2 + 1) h3' hlf _ xs hR3 hl) (by omega) (fun _ _ h => h.elim) fun vg h4 n4 hn4 fr4 hg4 => ?_
  have hgr := groups_good hl hin
  have ht := tabIt_good hl hin h3 h258
  have ht2 := tabIt_len xs s
  have hn6 := numL_ge (xs.length : Int)
  have gn4 : h4.get n = some ⟨47, true, [.slice none 0 0, .slice none 0 0]⟩ := by rw [fr4 n (by omega) id, k3' n (by omega), k2 n (by omega)]; exact ga
  have hb4 : h4.get n2 = some ⟨47, true, [.slice af (firstL (countsL xs s) (xs.length : Int)).length cf, .slice none 0 0]⟩ := (fr4 n2 (by omega) id).trans hg3
  have hf4 : RR h4 n4 22 3 (.slice af (firstL (countsL xs s) (xs.length : Int)).length cf) (tabIt xs s 0) := (hf0.keep (Nat.le_succ n2) k3').keep hn4 fun b hb => fr4 b hb id
  obtain ⟨gs, hgs⟩ : ∃ gs, groupsL xs = gs := ⟨_, rfl⟩
  have tabIt_succ : ∀ k, tabIt xs s (k + 1) = tabsL gs (tabIt xs s k) s := fun k => by rw [← hgs]; rfl
  have gl5 : gs.length ≤ 20000 := by rw [← hgs, groupsL_len]; unfold grpN; omega
  rw [hgs] at hgr hg4 ⊢
  have hg40 := hg4
  obtain ⟨ag, cg, rfl⟩ := hg4.len
  refine run_for 4 (fun fu i (_ : Unit) => lpA_balerref12_Of lf (d + 7) fu (kcA_balerref12_Of lf (d + 7)) (.slice a xs.length c) (.int .i64 (s : Nat)) (.pointer (some ⟨n, 0, none⟩)) (.pointer (some ⟨n2, 0, none⟩)) (.slice ag gs.length cg) (.int .i64 (i : Nat)))
    (fun i _ h' n' => n4 ≤ n' ∧ (∀ b, b < n4 → b ≠ n2 → h'.get b = h4.get b) ∧ ∃ x y, h'.get n2 = some ⟨47, true, [x, y]⟩ ∧ RR h' n' 22 3 x (tabIt xs s i) ∧ one y = true ∧ (0 < i → Row h' n' 3 .i64 y (picksI gs (tabIt xs s (i - 1))))) ?_ ?_ lf 0 () _ _ (Nat.zero_le _) (by omega) ⟨Nat.le_refl n4, fun _ _ _ => rfl, _, _, hb4, hf4, rfl, fun q => absurd q (Nat.lt_irrefl 0)⟩
  · rintro fu _ h' n' ⟨hn', hk', x, y, hg', hx, hy1, hy⟩
    have z4 : ¬ (((4 : Nat) : Int) < 4) := by omega
    rw [succA_balerref12_Of]
    try simp (disch := first | omega | assumption | exact one_int _ _ | exact one_slice _ _ _ | exact one_ptr _ | exact one_bool _ | exact one_string _) only [RXA, RXB, Nat.reduceAdd, Nat.reduceLT, wrap_id, wrap_succ, wrap_pred, FX1, z4]
    rw [kcAa_balerref12_Of]
    refine run_lda aga47 sz47 _ _ _ hg' (by omega) (by simp) ?_
    have ga' : h'.get n = some ⟨47, true, [.slice none 0 0, .slice none 0 0]⟩ := by rw [hk' n (by omega) (by omega)]; exact gn4
    have hy2 := hy (by omega)
    have hx1 : one x = true := by obtain ⟨_, _, rfl⟩ := hx.len; rfl
    refine run_sta sz47 (vs := [x, y]) rfl rfl (by simp [hx1, hy1]) ga' (by omega) (Nat.le_refl _) (.inl (Nat.le_refl _)) _ fun h5 hg5 k5 => ?_
    refine run_lda0 aga47 sz47 _ _ _ hg5 (by omega) (by simp) ?_
    try simp (disch := first | omega | assumption | exact one_int _ _ | exact one_slice _ _ _ | exact one_ptr _ | exact one_bool _ | exact one_string _) only [RXA, RXB, Nat.reduceAdd, Nat.reduceLT, wrap_id, wrap_succ, wrap_pred, FX1]
    refine ⟨x, y, rfl, hx.keepE (Nat.le_refl _) fun b B _ hB he => other_elem ga' k5 hB fun q => ?_, hy2.keepE (Nat.le_refl _) fun b B _ hB he => other_elem ga' k5 hB fun q => ?_⟩
    · rcases he with he | he
      · exact absurd (show (22 : Nat) = 47 from he.symm.trans q) (by decide)
      · exact absurd (show (3 : Nat) = 47 from he.symm.trans q) (by decide)
    · exact absurd (show (3 : Nat) = 47 from he.symm.trans q) (by decide)
  · rintro fu i _ h5 n5 hi ⟨hn5, hk5, x, y, hg5, hx, hy1, hy⟩ next
    have e1 : ((i : Nat) : Int) < 4 := by omega
    obtain ⟨T, hT⟩ : ∃ T, tabIt xs s i = T := ⟨_, rfl⟩
    have hTg := ht i
    have hTl := ht2 i
    rw [hT] at hTg hTl hx
    have hgx : RR h5 n5 22 3 (.slice ag gs.length cg) gs := hg40.keepE hn5 fun b B hb hB he => hk5 b hb fun q => by
      subst q
      rw [hb4] at hB; cases hB
      rcases he with he | he
      · exact absurd (show (47 : Nat) = 22 from he) (by decide)
      · exact absurd (show (47 : Nat) = 3 from he) (by decide)
    have lt2 : n2 < n5 := by omega
    rw [succA_balerref12_Of]
    try simp (disch := first | omega | assumption | exact one_int _ _ | exact one_slice _ _ _ | exact one_ptr _ | exact one_bool _ | exact one_string _) only [RXA, RXB, Nat.reduceAdd, Nat.reduceLT, wrap_id, wrap_succ, wrap_pred, FX1, e1]
    refine run_for gs.length (fun f2 j (w : Value) => lpB_balerref12_Of lf (d + 7) f2 (kcB_balerref12_Of lf (d + 7) fu (kcA_balerref12_Of lf (d + 7))) (.slice a xs.length c) (.int .i64 (s : Nat)) (.pointer (some ⟨n, 0, none⟩)) (.pointer (some ⟨n2, 0, none⟩)) (.slice ag gs.length cg) w (.int .i64 (i : Nat)) _ (.slice ag gs.length cg) (.int .i64 (gs.length : Nat)) (.int .i64 (j : Nat)))
      (fun j w h' n' => n5 ≤ n' ∧ (∀ b, b < n5 → h'.get b = h5.get b) ∧ Own h' n5 n' 3 w (intsV .i64 ((picksI gs T).take j))) ?_ ?_ lf 0 _ _ _ (Nat.zero_le _) (by omega) ⟨Nat.le_refl _, fun _ _ => rfl, Own.nil _ _ _ _⟩
    rotate_left
    · rintro f2 j w h' n' hj ⟨hn', hk', hO'⟩ next2
      have e2 : ((j : Nat) : Int) < ((gs.length : Nat) : Int) := by omega
      obtain ⟨b, off, cap, o, cs, hv, hgg, hb, hat⟩ := (hgx.keep hn' hk').at (by omega)
      cases hv
      obtain ⟨q, hq, hrq⟩ := hat j hj
      have hg5' : h'.get n2 = some ⟨47, true, [x, y]⟩ := (hk' n2 lt2).trans hg5
      have lt3 : n2 < n' := by omega
      have gm : gs.getD j [] ∈ gs := by rw [List.getD_eq_getElem?_getD, List.getElem?_eq_getElem hj]; exact List.getElem_mem hj
      obtain ⟨g1, g2⟩ := hgr.1 _ gm
      rw [succB_balerref12_Of]
      try simp (disch := first | omega | assumption | exact one_int _ _ | exact one_slice _ _ _ | exact one_ptr _ | exact one_bool _ | exact one_string _) only [RXA, RXB, Nat.reduceAdd, Nat.reduceLT, wrap_id, wrap_succ, wrap_pred, FX1, e2, hgg, hq, hg5']
      refine run_same (r_pick lf (d + 4) n' h' hlf q x _ T hrq (hx.keep hn' hk') (by omega) (by omega) (by omega) fun t ht' => ?_) (by omega) (fun _ _ h => h.elim) ?_
      · obtain ⟨t1, t2⟩ := hTg t ht'
        exact ⟨by omega, fun y hy => by have := t2 y hy; omega, by rw [t1]; exact g2⟩
      · refine run_pushO c1x22 (one_int _ _) hO' (by rw [intsV_len, List.length_take, picksI_len]; omega) (by omega) _ fun h2 hg2 hk2 => ?_
        rw [← picksI_next hj] at hg2
        try simp (disch := first | omega | assumption | exact one_int _ _ | exact one_slice _ _ _ | exact one_ptr _ | exact one_bool _ | exact one_string _) only [RXA, RXB, Nat.reduceAdd, Nat.reduceLT, wrap_id, wrap_succ, wrap_pred, FX1]
        exact next2 _ h2 (n' + 2) ⟨by omega, fun b hb => by rw [hk2 b (by omega) fun q => by have := (hO'.lt q).1; omega]; exact hk' b hb, Own.mk' hg2 (by omega) (by omega) (by rw [intsV_len, intsV_len, List.length_take, List.length_take, picksI_len]; omega)⟩
    · rintro f2 w h6 n6 ⟨hn6', hk6, hO6⟩
      rw [List.take_of_length_le (by rw [picksI_len]; exact Nat.le_refl _)] at hO6
      have hg6 : h6.get n2 = some ⟨47, true, [x, y]⟩ := (hk6 n2 lt2).trans hg5
      have hx6 := hx.keep hn6' hk6
      have hgx6 := hgx.keep hn6' hk6
      have hw6 := hO6.row
      have hw60 := hw6
      obtain ⟨ax, cx, hxl⟩ := hx.len
      obtain ⟨aw, cw, rfl⟩ := hw6.len
      have lt6 : n2 < n6 := by omega
      rw [succB_balerref12_Of]
      try simp (disch := first | omega | assumption | exact one_int _ _ | exact one_slice _ _ _ | exact one_ptr _ | exact one_bool _ | exact one_string _) only [RXA, RXB, Nat.reduceAdd, Nat.reduceLT, wrap_id, wrap_succ, wrap_pred, FX1, Int.lt_irrefl]
      rw [kcBa_balerref12_Of]
      try simp (disch := first | omega | assumption | exact one_int _ _ | exact one_slice _ _ _ | exact one_ptr _ | exact one_bool _ | exact one_string _) only [RXA, RXB, Nat.reduceAdd, Nat.reduceLT, wrap_id, wrap_succ, wrap_pred, FX1, hg6, hxl]
      refine run_for T.length (fun f3 p (q : Value) => lpC_balerref12_Of lf (d + 7) f3 (kcC_balerref12_Of lf (d + 7) fu (kcA_balerref12_Of lf (d + 7))) (.slice a xs.length c) (.int .i64 (s : Nat)) (.pointer (some ⟨n, 0, none⟩)) (.pointer (some ⟨n2, 0, none⟩)) (.slice ag gs.length cg) (.slice aw (picksI gs T).length cw) q (.int .i64 (i : Nat)) _ _ _ _ _ (.int .i64 (T.length : Nat)) (.int .i64 (p : Nat)))
        (fun p q h' n' => n6 ≤ n' ∧ (∀ b, b < n6 → h'.get b = h6.get b) ∧ OwnRR h' n6 n' n' 22 3 q ((List.range p).map fun p => tbl (tabC gs T s p))) ?_ ?_ lf 0 _ _ _ (Nat.zero_le _) (by omega) ⟨Nat.le_refl _, fun _ _ => rfl, OwnRR.nil _ _ _ _ _ _⟩
      · rintro f3 q h7 n7 ⟨hn7, hk7, hO7⟩
        have hg7 : h7.get n2 = some ⟨47, true, [x, y]⟩ := (hk7 n2 lt6).trans hg6
        have hr7 := hO7.rr
        have hr70 := hr7
        obtain ⟨aq, cq, rfl⟩ := hr7.len
        rw [succC_balerref12_Of]
        try simp (disch := first | omega | assumption | exact one_int _ _ | exact one_slice _ _ _ | exact one_ptr _ | exact one_bool _ | exact one_string _) only [RXA, RXB, Nat.reduceAdd, Nat.reduceLT, wrap_id, wrap_succ, wrap_pred, FX1, Int.lt_irrefl]
        rw [kcCa_balerref12_Of]
        try simp (disch := first | omega | assumption | exact one_int _ _ | exact one_slice _ _ _ | exact one_ptr _ | exact one_bool _ | exact one_string _) only [RXA, RXB, Nat.reduceAdd, Nat.reduceLT, wrap_id, wrap_succ, wrap_pred, FX1]
        refine run_sta sz47 (vs := [.slice aq ((List.range T.length).map fun p => tbl (tabC gs T s p)).length cq, .slice aw (picksI gs T).length cw]) rfl rfl rfl hg7 (by omega) (Nat.le_refl _) (.inl (by omega)) _ fun h8 hg8 k8 => ?_
        try simp (disch := first | omega | assumption | exact one_int _ _ | exact one_slice _ _ _ | exact one_ptr _ | exact one_bool _ | exact one_string _) only [RXA, RXB, Nat.reduceAdd, Nat.reduceLT, wrap_id, wrap_succ, wrap_pred, FX1]
        refine next () h8 n7 ⟨by omega, fun b hb hne => by rw [k8 b hne, hk7 b (by omega), hk6 b (by omega)]; exact hk5 b hb hne, _, _, hg8, ?_, rfl, fun _ => ?_⟩
        · have := hr70.keepE (h' := h8) (Nat.le_refl _) fun b B _ hB he => other_elem hg7 k8 hB fun q => ?_
          · rw [tabIt_succ, hT]
            exact this
          · rcases he with he | he
            · exact absurd (show (22 : Nat) = 47 from he.symm.trans q) (by decide)
            · exact absurd (show (3 : Nat) = 47 from he.symm.trans q) (by decide)
        · have := (hw60.keep hn7 hk7).keepE (h' := h8) (Nat.le_refl _) fun b B _ hB he => other_elem hg7 k8 hB fun q => absurd (show (3 : Nat) = 47 from he.symm.trans q) (by decide)
          rw [show i + 1 - 1 = i by omega, hT]
          exact this
      · rintro f3 p q h7 n7 hp ⟨hn7, hk7, hO7⟩ next3
        have e3 : ((p : Nat) : Int) < ((T.length : Nat) : Int) := by omega
        rw [succC_balerref12_Of]
        try simp (disch := first | omega | assumption | exact one_int _ _ | exact one_slice _ _ _ | exact one_ptr _ | exact one_bool _ | exact one_string _) only [RXA, RXB, Nat.reduceAdd, Nat.reduceLT, wrap_id, wrap_succ, wrap_pred, FX1, e3]
        refine run_for gs.length (fun f4 j (w2 : Value) => lpD_balerref12_Of lf (d + 7) f4 (kcD_balerref12_Of lf (d + 7) f3 (kcC_balerref12_Of lf (d + 7) fu (kcA_balerref12_Of lf (d + 7)))) (.slice a xs.length c) (.int .i64 (s : Nat)) (.pointer (some ⟨n, 0, none⟩)) (.pointer (some ⟨n2, 0, none⟩)) (.slice ag gs.length cg) (.slice aw (picksI gs T).length cw) q (.int .i64 (p : Nat)) w2 (.int .i64 (i : Nat)) _ _ _ _ _ (.int .i64 (T.length : Nat)) (.int .i64 (p : Nat)) _ (.slice ag gs.length cg) (.int .i64 (gs.length : Nat)) (.int .i64 (j : Nat)))
          (fun j w2 h' n' => n7 ≤ n' ∧ (∀ b, b < n7 → h'.get b = h7.get b) ∧ Own h' n7 n' 3 w2 (intsV .i64 (allP p (gs.take j) ((picksL gs T).take j)))) ?_ ?_ lf 0 _ _ _ (Nat.zero_le _) (by omega) ⟨Nat.le_refl _, fun _ _ => rfl, Own.nil _ _ _ _⟩
        · rintro f4 w2 h8 n8 ⟨hn8, hk8, hO8⟩
          rw [succD_balerref12_Of]
          try simp (disch := first | omega | assumption | exact one_int _ _ | exact one_slice _ _ _ | exact one_ptr _ | exact one_bool _ | exact one_string _) only [RXA, RXB, Nat.reduceAdd, Nat.reduceLT, wrap_id, wrap_succ, wrap_pred, FX1, Int.lt_irrefl]
          rw [kcDa_balerref12_Of]
          rw [List.take_length, List.take_of_length_le (by rw [picksL_len]; exact Nat.le_refl _)] at hO8
          have al := allP_len p gs (picksL gs T) fun g hg => (hgr.1 g hg).1
          refine run_call okd (r_Counts lf (d + 5) n8 h8 hlf _ _ hO8.row (by omega) s (by omega)) (by omega) (fun _ _ h => h.elim) fun u9 h9 n9 hn9 fr9 hu9 => ?_
          refine run_call okd (r_tbl lf (d + 6) n9 h9 hlf u9 (tabC gs T s p) hu9 (by show 3 ≤ (countsL _ _).length; rw [countsL_len]; exact h3) (by show (countsL _ _).length ≤ 258; rw [countsL_len]; exact h258) (tabC_in gs T s p hgr (fun _ h => h) (Nat.le_refl _)) (by omega)) (by omega) (fun _ _ h => h.elim) fun u10 h10 n10 hn10 fr10 hu10 => ?_
          have hO10 := (hO7.keep (show n7 ≤ n10 by omega) fun b hb _ => by rw [fr10 b (by omega) id, fr9 b (by omega) id]; exact hk8 b hb).up (show n7 ≤ n10 by omega)
          refine run_pushRR c1x23 (by decide) hO10 hu10 (Nat.le_refl _) (by simp; omega) (by omega) (by omega) _ fun v2 h11 o11 k11 _ => ?_
          try simp (disch := first | omega | assumption | exact one_int _ _ | exact one_slice _ _ _ | exact one_ptr _ | exact one_bool _ | exact one_string _) only [RXA, RXB, Nat.reduceAdd, Nat.reduceLT, wrap_id, wrap_succ, wrap_pred, FX1]
          refine next3 v2 h11 (n10 + 2) ⟨by omega, fun b hb => ?_, ?_⟩
          · rw [k11 b (by omega) fun q => by have := (hO10.lt q).1; omega, fr10 b (by omega) id, fr9 b (by omega) id, hk8 b (by omega)]
            exact hk7 b hb
          · rw [List.range_succ, List.map_append]
            exact o11.up (by omega)
        · rintro f4 j w2 h8 n8 hj ⟨hn8, hk8, hO8⟩ next4
          have e4 : ((j : Nat) : Int) < ((gs.length : Nat) : Int) := by omega
          have k68 : ∀ b, b < n6 → h8.get b = h6.get b := fun b hb => (hk8 b (by omega)).trans (hk7 b hb)
          obtain ⟨b, off, cap, o, cs, hv, hgg, hb, hat⟩ := (hgx6.keep (show n6 ≤ n8 by omega) k68).at (by omega)
          cases hv
          obtain ⟨g, hq, hrq⟩ := hat j hj
          have hw8 := hw60.keep (show n6 ≤ n8 by omega) k68
          obtain ⟨b2, off2, cap2, o2, cs2, hv2, hgw, hb2, _, _, _, hat2⟩ := hw8.some (by rw [picksI_len]; omega)
          cases hv2
          have e5 : ((j : Nat) : Int) < (((picksI gs T).length : Nat) : Int) := by rw [picksI_len]; omega
          have c5 := hat2 j (by rw [picksI_len]; exact hj)
          rw [picksI_at hj] at c5
          have an := allP_next (p := p) (T := T) hj
          have al := allP_len p (gs.take j) ((picksL gs T).take j) fun g hg => (hgr.1 g (List.mem_of_mem_take hg)).1
          rw [List.length_take] at al
          have gm : gs.getD j [] ∈ gs := by rw [List.getD_eq_getElem?_getD, List.getElem?_eq_getElem hj]; exact List.getElem_mem hj
          obtain ⟨g1, g2⟩ := hgr.1 _ gm
          rw [succD_balerref12_Of]
          by_cases m : pickL (gs.getD j []) T = p
          · have n1 : ((pickL (gs.getD j []) T : Int) == (p : Int)) = true := by rw [m]; simp
            rw [if_pos m] at an
            try simp (disch := first | omega | assumption | exact one_int _ _ | exact one_slice _ _ _ | exact one_ptr _ | exact one_bool _ | exact one_string _) only [RXA, RXB, Nat.reduceAdd, Nat.reduceLT, wrap_id, wrap_succ, wrap_pred, FX1, e4, hgg, hq, e5, hgw, c5, n1]
            refine run_appO c1x22 hO8 hrq (by rw [intsV_len]; omega) (by omega) (by omega) _ fun w3 h9 n9 hn9 o9 _ k9 => ?_
            try simp (disch := first | omega | assumption | exact one_int _ _ | exact one_slice _ _ _ | exact one_ptr _ | exact one_bool _ | exact one_string _) only [RXA, RXB, Nat.reduceAdd, Nat.reduceLT, wrap_id, wrap_succ, wrap_pred, FX1]
            refine next4 w3 h9 n9 ⟨by omega, fun b hb => by rw [k9 b (by omega) fun q => by have := (hO8.lt q).1; omega]; exact hk8 b hb, ?_⟩
            rw [an]
            have : intsV .i64 (allP p (gs.take j) ((picksL gs T).take j) ++ gs.getD j []) = intsV .i64 (allP p (gs.take j) ((picksL gs T).take j)) ++ intsV .i64 (gs.getD j []) := by unfold intsV; rw [List.map_append]
            rw [this]
            exact o9
          · have n1 : ((pickL (gs.getD j []) T : Int) == (p : Int)) = false := beq_eq_false_iff_ne.2 fun e => m (by omega)
            rw [if_neg m, List.append_nil] at an
            try simp (disch := first | omega | assumption | exact one_int _ _ | exact one_slice _ _ _ | exact one_ptr _ | exact one_bool _ | exact one_string _) only [RXA, RXB, Nat.reduceAdd, Nat.reduceLT, wrap_id, wrap_succ, wrap_pred, FX1, e4, hgg, hq, e5, hgw, c5, n1]
            refine next4 w2 h8 n8 ⟨hn8, hk8, ?_⟩
            rw [an]
            exact hO8
end
end Go.Proofs.YtdagfcflbphoiaaDoor

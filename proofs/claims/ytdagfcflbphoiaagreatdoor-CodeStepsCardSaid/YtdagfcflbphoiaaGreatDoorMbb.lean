import Derived.Test.YtdagfcflbphoiaaGreatDoorMba
namespace Go.Proofs.YtdagfcflbphoiaaGreatDoor
set_option linter.unusedVariables false
set_option linter.unusedSimpArgs false
open Go.RowKit Ev Cn

def ckV (ln : List Nat) (n i j : Nat) : Value := if ln.getD j 0 < n ∨ (ln.getD j 0 = n ∧ j < i) then tx (fieldB (codeC ln j) (ln.getD j 0)) else tx []
def ck (ln : List Nat) (n i : Nat) : List Value := (List.range ln.length).map (ckV ln n i)
theorem zbnm (ln : List Nat) (n i : Nat) : (ck ln n i).length = ln.length := by unfold ck; simp
theorem ck_at {ln : List Nat} {n i j : Nat} (h : j < (ck ln n i).length) : (ck ln n i)[j] = ckV ln n i j := by
  have := List.getElem_map (ckV ln n i) (l := List.range ln.length) (h := h)
  rw [List.getElem_range] at this
  exact this
theorem zciu {ln : List Nat} {n i : Nat} (h : ln.getD i 0 ≠ n) : ck ln n (i + 1) = ck ln n i := by
  unfold ck
  apply List.map_congr_left
  intro j _
  unfold ckV
  by_cases e : j = i
  · subst e
    by_cases h2 : ln.getD j 0 < n
    · rw [if_pos (.inl h2), if_pos (.inl h2)]
    · rw [if_neg (by rintro (q | ⟨q, _⟩); exact h2 q; exact h q), if_neg (by rintro (q | ⟨q, _⟩); exact h2 q; exact h q)]
  · by_cases h2 : ln.getD j 0 < n ∨ (ln.getD j 0 = n ∧ j < i)
    · rw [if_pos h2, if_pos (by omega)]
    · rw [if_neg h2, if_neg (by omega)]
theorem zcjk {ln : List Nat} {n i : Nat} (hi : i < ln.length) (h : ln.getD i 0 = n) : (ck ln n i).set i (tx (fieldB (codeC ln i) n)) = ck ln n (i + 1) := by
  apply List.ext_getElem
  · rw [List.length_set, zbnm, zbnm]
  · intro j h1 h2
    rw [zbnm] at h2
    rw [List.getElem_set, ck_at, ck_at]
    unfold ckV
    by_cases e : i = j
    · subst e
      rw [if_pos rfl, if_pos (.inr ⟨h, by omega⟩), h]
    · rw [if_neg e]
      by_cases h3 : ln.getD j 0 < n ∨ (ln.getD j 0 = n ∧ j < i)
      · rw [if_pos h3, if_pos (by omega)]
      · rw [if_neg h3, if_neg (by omega)]
theorem zcji (ln : List Nat) (n : Nat) : ck ln n ln.length = ck ln (n + 1) 0 := by
  unfold ck
  apply List.map_congr_left
  intro j hj
  rw [List.mem_range] at hj
  unfold ckV
  by_cases h2 : ln.getD j 0 < n + 1 ∨ (ln.getD j 0 = n + 1 ∧ j < 0)
  · rw [if_pos h2, if_pos (by omega)]
  · rw [if_neg h2, if_neg (by omega)]
theorem zciw {ln : List Nat} (w : Wh ln) : ck ln 1 0 = List.replicate ln.length (tx []) := by
  unfold ck
  rw [List.eq_replicate_iff]
  refine ⟨by simp, fun x hx => ?_⟩
  obtain ⟨j, hj, rfl⟩ := List.mem_map.1 hx
  rw [List.mem_range] at hj
  unfold ckV
  have := (w.at hj).1
  rw [if_neg (by omega)]
def txC (ln : List Nat) : List Value := (List.range ln.length).map fun j => tx (fieldB (codeC ln j) (ln.getD j 0))
theorem zckd {ln : List Nat} (w : Wh ln) : ck ln 21 0 = txC ln := by
  unfold ck txC
  apply List.map_congr_left
  intro j hj
  rw [List.mem_range] at hj
  unfold ckV
  have := (w.at hj).2
  rw [if_pos (by omega)]
section
variable {lf d n : Nat} {h : H}
theorem zcfy {v : Value} {ln : List Nat} (hR : Row h n 3 .i64 v (iN ln)) (w : Wh ln) (hl : ln.length ≤ 258) (hl0 : 0 < ln.length) (hlf : 3000 ≤ lf) : Run (fun _ => False) n (zaac Tryz.prog gt lf (d + 2) 48 #[v]) h n fun v' h' n' => v' = .slice (some ⟨n, 0, none⟩) ln.length ln.length ∧ n' = n + 1 ∧ h'.get n = some ⟨9, true, txC ln⟩ ∧ ∀ b, b < n → h'.get b = h.get b := by
  have hil := zadn ln
  obtain ⟨b0, off, cap, o, ks, rfl, hg0, hb0, _, _, _, hv0⟩ := hR.some (by omega)
  rw [zbfw]
  refine Run.inside_ ?_
  unfold zauj
  try simp (disch := first | omega | assumption | exact zaae _ _ | exact zaab _ _ _ | exact zaaf _ | exact zaad _ | exact zaaa _) only [Nat.reduceAdd, Nat.reduceLT, RZ]
  rw [hil]
  refine Ev.run_make c1x82 ln.length ln.length _ (Nat.le_refl _) (by omega) ?_
  refine zafq 20 (fun fu i (s : List Bool) => zagf lf (d + 1) fu (zaec lf (d + 1)) (.slice (some ⟨b0, off, none⟩) ln.length cap) (.slice none 0 0) (.slice (some ⟨n, 0, none⟩) ln.length ln.length) (tx s) (.int .i64 ((i + 1 : Nat) : Int))) (fun i s h' n' => n' = n + 1 ∧ h'.get n = some ⟨9, true, ck ln (i + 1) 0⟩ ∧ (∀ b, b < n → h'.get b = h.get b) ∧ LastC ln (i + 1) 0 s ∧ s.length ≤ i) ?_ ?_ lf 0 [] _ (n + 1) (Nat.zero_le _) (by omega) ⟨rfl, by rw [zaaz, zciw w]; rfl, fun b hb => zaar _ _ (by omega), LastC.zero w, Nat.zero_le _⟩
  · rintro fu s h' n' ⟨rfl, g, k, _⟩
    rw [zans]
    have c1 : ¬ (((20 + 1 : Nat) : Int) ≤ 20) := by omega
    try simp (disch := first | omega | assumption | exact zaae _ _ | exact zaab _ _ _ | exact zaaf _ | exact zaad _ | exact zaaa _) only [Nat.reduceAdd, Nat.reduceLT, RZ, c1]
    rw [zbbg]
    try simp (disch := first | omega | assumption | exact zaae _ _ | exact zaab _ _ _ | exact zaaf _ | exact zaad _ | exact zaaa _) only [Nat.reduceAdd, Nat.reduceLT, RZ]
    exact ⟨by rw [g, zckd w], k⟩
  · rintro fu i s h' n' hi ⟨rfl, g, k, lc, sl⟩ next
    rw [zans]
    have c1 : ((i + 1 : Nat) : Int) ≤ 20 := by omega
    try simp (disch := first | omega | assumption | exact zaae _ _ | exact zaab _ _ _ | exact zaaf _ | exact zaad _ | exact zaaa _) only [Nat.reduceAdd, Nat.reduceLT, RZ, c1]
    refine zafq ln.length (fun fu2 j (s : List Bool) => zadi lf (d + 1) fu2 (zagb lf (d + 1) fu (zaec lf (d + 1))) (.slice (some ⟨b0, off, none⟩) ln.length cap) (.slice none 0 0) (.slice (some ⟨n, 0, none⟩) ln.length ln.length) (tx s) (.int .i64 ((i + 1 : Nat) : Int)) (.bool true) (.slice (some ⟨b0, off, none⟩) ln.length cap) (.int .i64 (ln.length : Int)) (.int .i64 (j : Nat))) (fun j s h' n' => n' = n + 1 ∧ h'.get n = some ⟨9, true, ck ln (i + 1) j⟩ ∧ (∀ b, b < n → h'.get b = h.get b) ∧ LastC ln (i + 1) j s ∧ s.length ≤ i + 1) ?_ ?_ lf 0 s h' (n + 1) (Nat.zero_le _) (by omega) ⟨rfl, g, k, lc, by omega⟩
    · rintro fu2 s2 h2 n2 ⟨rfl, g2, k2, lc2, sl2⟩
      rw [zanr]
      try simp (disch := first | omega | assumption | exact zaae _ _ | exact zaab _ _ _ | exact zaaf _ | exact zaad _ | exact zaaa _) only [Nat.reduceAdd, Nat.reduceLT, RZ, Int.lt_irrefl]
      rw [zbcr]
      try simp (disch := first | omega | assumption | exact zaae _ _ | exact zaab _ _ _ | exact zaaf _ | exact zaad _ | exact zaaa _) only [Nat.reduceAdd, Nat.reduceLT, RZ]
      rw [zcji] at g2
      have := next s2 h2 (n + 1) ⟨rfl, g2, k2, lc2.row, sl2⟩
      first | exact this | (rw [show (((i + 1 : Nat) : Int) + 1) = ((i + 1 + 1 : Nat) : Int) by omega]; exact this)
    · rintro fu2 j s2 h2 n2 hj ⟨rfl, g2, k2, lc2, sl2⟩ next2
      rw [zanr]
      have c2 : ((j : Nat) : Int) < ((ln.length : Nat) : Int) := by omega
      have hv := hv0 j (by omega)
      rw [iN_at] at hv
      have g0 : h2.get b0 = _ := (k2 b0 hb0).trans hg0
      have hb1 : b0 < n + 1 := by omega
      by_cases hn : ln.getD j 0 = i + 1
      · obtain ⟨hit1, hit2⟩ := lc2.hit w hj hn
        have e1 : ((((ln.getD j 0 : Nat) : Int)) != ((i + 1 : Nat) : Int)) = false := by rw [hn]; simp
        have hset := zcjk hj hn
        have hcl : j < (ck ln (i + 1) j).length := by rw [zbnm]; exact hj
        by_cases hs : s2 = []
        · subst hs
          rw [if_pos rfl] at hit1
          have e2 : decide (([] : List Bool) = []) = true := rfl
          try simp (disch := first | omega | assumption | exact zaae _ _ | exact zaab _ _ _ | exact zaaf _ | exact zaad _ | exact zaaa _) only [Nat.reduceAdd, Nat.reduceLT, RZ, c2, g0, hv, e1, zcbx, zbsi, e2]
          refine zafq (i + 1) (fun fu3 r (_ : Unit) => zagc lf (d + 1) fu3 (zajp lf (d + 1) fu2 (zagb lf (d + 1) fu (zaec lf (d + 1)))) (.slice (some ⟨b0, off, none⟩) ln.length cap) (.slice none 0 0) (.slice (some ⟨n, 0, none⟩) ln.length ln.length) (tx (List.replicate r false)) (.int .i64 ((i + 1 : Nat) : Int)) (.int .i64 (j : Nat)) (.int .i64 ((ln.getD j 0 : Nat) : Int)) (.bool true) (.slice (some ⟨b0, off, none⟩) ln.length cap) (.int .i64 (ln.length : Int)) (.int .i64 (j : Nat)) (.bool true) (.bool false) (.bool true) (.int .i64 ((i + 1 : Nat) : Int)) (.int .i64 (r : Nat))) (fun r _ h' n' => n' = n + 1 ∧ h' = h2) ?_ ?_ lf 0 () h2 (n + 1) (Nat.zero_le _) (by omega) ⟨rfl, rfl⟩
          · rintro fu3 _ h3 n3 ⟨rfl, rfl⟩
            rw [zanx]
            try simp (disch := first | omega | assumption | exact zaae _ _ | exact zaab _ _ _ | exact zaaf _ | exact zaad _ | exact zaaa _) only [Nat.reduceAdd, Nat.reduceLT, RZ, Int.lt_irrefl]
            rw [zbco, hit1]
            try simp (disch := first | omega | assumption | exact zaae _ _ | exact zaab _ _ _ | exact zaaf _ | exact zaad _ | exact zaaa _) only [Nat.reduceAdd, Nat.reduceLT, RZ, c2]
            refine zcde sz9 n j _ _ g2 (by omega) hcl (zcce _) (.inl (Nat.le_refl _)) ?_
            try simp (disch := first | omega | assumption | exact zaae _ _ | exact zaab _ _ _ | exact zaaf _ | exact zaad _ | exact zaaa _) only [Nat.reduceAdd, Nat.reduceLT, RZ]
            rw [hset]
            exact next2 (fieldB (codeC ln j) (i + 1)) _ (n + 1) ⟨rfl, zaaz _ _ _, fun b hb => by rw [zaar _ _ (by omega)]; exact k2 b hb, hit2, by rw [zabh]; exact Nat.le_refl _⟩
          · rintro fu3 r _ h3 n3 hr ⟨rfl, rfl⟩ next3
            rw [zanx]
            have c3 : ((r : Nat) : Int) < ((i + 1 : Nat) : Int) := by omega
            have a1 := zbcg (List.replicate r false) [false] (by rw [List.length_replicate]; show _ + 1 ≤ _; omega)
            rw [← List.replicate_succ'] at a1
            try simp (disch := first | omega | assumption | exact zaae _ _ | exact zaab _ _ _ | exact zaaf _ | exact zaad _ | exact zaaa _) only [Nat.reduceAdd, Nat.reduceLT, RZ, c3, tx_0, a1]
            exact next3 () h3 (n + 1) ⟨rfl, rfl⟩
        · have e2 : decide (s2 = []) = false := decide_eq_false hs
          rw [if_neg hs] at hit1
          try simp (disch := first | omega | assumption | exact zaae _ _ | exact zaab _ _ _ | exact zaaf _ | exact zaad _ | exact zaaa _) only [Nat.reduceAdd, Nat.reduceLT, RZ, c2, g0, hv, e1, zcbx, zbsi, e2]
          refine zaaw (zckb (lf := lf) (d := d) s2 (i + 1) (by omega) sl2 (by omega)) (by omega) (fun _ _ h => h.elim) ?_
          rw [hit1]
          try simp (disch := first | omega | assumption | exact zaae _ _ | exact zaab _ _ _ | exact zaaf _ | exact zaad _ | exact zaaa _) only [Nat.reduceAdd, Nat.reduceLT, RZ]
          refine zcde sz9 n j _ _ g2 (by omega) hcl (zcce _) (.inl (Nat.le_refl _)) ?_
          try simp (disch := first | omega | assumption | exact zaae _ _ | exact zaab _ _ _ | exact zaaf _ | exact zaad _ | exact zaaa _) only [Nat.reduceAdd, Nat.reduceLT, RZ]
          rw [hset]
          exact next2 (fieldB (codeC ln j) (i + 1)) _ (n + 1) ⟨rfl, zaaz _ _ _, fun b hb => by rw [zaar _ _ (by omega)]; exact k2 b hb, hit2, by rw [zabh]; exact Nat.le_refl _⟩
      · have e1 : ((((ln.getD j 0 : Nat) : Int)) != ((i + 1 : Nat) : Int)) = true := by rw [bne_iff_ne]; omega
        try simp (disch := first | omega | assumption | exact zaae _ _ | exact zaab _ _ _ | exact zaaf _ | exact zaad _ | exact zaaa _) only [Nat.reduceAdd, Nat.reduceLT, RZ, c2, g0, hv, e1]
        rw [← zciu hn] at g2
        exact next2 s2 h2 (n + 1) ⟨rfl, g2, k2, lc2.skip hj hn, sl2⟩
end
end Go.Proofs.YtdagfcflbphoiaaGreatDoor

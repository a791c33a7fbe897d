import Derived.Test.YtdagfcflbphoiaaGreatDoorMaz
namespace Go.Proofs.YtdagfcflbphoiaaGreatDoor
set_option linter.unusedVariables false
set_option linter.unusedSimpArgs false
open Go.RowKit Ev Cn

theorem bneB (a b : Bool) : bin2 Tryz.prog .neq 4 (.bool a) (.bool b) = some (.bool (xor a b)) := by cases a <;> cases b <;> kernel_rfl
section
variable {lf d n : Nat} {h : H}
theorem zckb (l : List Bool) (k : Nat) (hk : k ≤ 20) (hl : l.length ≤ k) (hlf : 100 ≤ lf) : Run (fun _ => False) n (zaac Tryz.prog gt lf (d + 1) 85 #[tx l, .int .i64 (k : Int)]) h n fun v' h' n' => v' = tx ((incB l).1 ++ List.replicate (k - l.length) false) ∧ h' = h ∧ n' = n := by
  rw [zbht]
  refine Run.inside_ ?_
  unfold zawg
  have pad : ∀ (y7 y13 : Value) (c : Bool) (r fu : Nat) (t : List Bool), t = (incB l).1 ++ List.replicate (k - l.length - r) false → r ≤ k - l.length → r < fu → Run (fun _ => False) n (zahe lf d fu (zakn lf d) (tx l) (.int .i64 (k : Int)) (.string { data := #[] }) (tx t) (.bool c) y7 y13) h n fun v' h' n' => v' = tx ((incB l).1 ++ List.replicate (k - l.length) false) ∧ h' = h ∧ n' = n := by
    intro y7 y13 c r
    induction r with
    | zero =>
      intro fu t ht hr hf
      obtain ⟨fu, rfl⟩ : ∃ f, fu = f + 1 := ⟨fu - 1, by omega⟩
      have htl : t.length = k := by rw [ht, List.length_append, zatj, List.length_replicate]; omega
      have c1 : ¬ (((t.length : Nat) : Int) < (k : Int)) := by omega
      rw [zapn]
      try simp (disch := first | omega | assumption | exact zaae _ _ | exact zaab _ _ _ | exact zaaf _ | exact zaad _ | exact zaaa _) only [Nat.reduceAdd, Nat.reduceLT, RZ, zacs, c1]
      rw [zbcw]
      try simp (disch := first | omega | assumption | exact zaae _ _ | exact zaab _ _ _ | exact zaaf _ | exact zaad _ | exact zaaa _) only [Nat.reduceAdd, Nat.reduceLT, RZ]
      rw [ht]
      rfl
    | succ r ih =>
      intro fu t ht hr hf
      obtain ⟨fu, rfl⟩ : ∃ f, fu = f + 1 := ⟨fu - 1, by omega⟩
      have htl : t.length = k - (r + 1) := by rw [ht, List.length_append, zatj, List.length_replicate]; omega
      have c1 : ((t.length : Nat) : Int) < (k : Int) := by omega
      have a1 := zbcg t [false] (by rw [htl]; show _ + 1 ≤ _; omega)
      rw [zapn]
      try simp (disch := first | omega | assumption | exact zaae _ _ | exact zaab _ _ _ | exact zaaf _ | exact zaad _ | exact zaaa _) only [Nat.reduceAdd, Nat.reduceLT, RZ, zacs, c1, tx_0, a1]
      refine ih fu (t ++ [false]) ?_ (by omega) (by omega)
      rw [ht, List.append_assoc, ← List.replicate_succ', show k - l.length - (r + 1) + 1 = k - l.length - r by omega]
  have key : ∀ (j : Nat) (fu : Nat), j ≤ l.length → j < fu → Run (fun _ => False) n (zaco lf d fu (zakm lf d) (tx l) (.int .i64 (k : Int)) (.string { data := #[] }) (tx (incB (l.drop j)).1) (.bool (incB (l.drop j)).2) (.int .i64 ((j : Int) - 1))) h n fun v' h' n' => v' = tx ((incB l).1 ++ List.replicate (k - l.length) false) ∧ h' = h ∧ n' = n := by
    intro j
    induction j with
    | zero =>
      intro fu hj hf
      obtain ⟨fu, rfl⟩ : ∃ f, fu = f + 1 := ⟨fu - 1, by omega⟩
      rw [zaph]
      have c1 : decide ((0 : Int) ≤ ((0 : Nat) : Int) - 1) = false := decide_eq_false (by omega)
      try simp (disch := first | omega | assumption | exact zaae _ _ | exact zaab _ _ _ | exact zaaf _ | exact zaad _ | exact zaaa _) only [Nat.reduceAdd, Nat.reduceLT, RZ, c1]
      rw [zbdy]
      refine pad _ _ _ (k - l.length) lf _ ?_ (Nat.le_refl _) (by omega)
      rw [Nat.sub_self, List.drop_zero]
      simp
    | succ j ih =>
      intro fu hj hf
      obtain ⟨fu, rfl⟩ : ∃ f, fu = f + 1 := ⟨fu - 1, by omega⟩
      have hi : j < l.length := by omega
      have hdr : l.drop j = l[j] :: l.drop (j + 1) := List.drop_eq_getElem_cons hi
      have hget : l.getD j false = l[j] := by rw [List.getD_eq_getElem?_getD, List.getElem?_eq_getElem hi]; rfl
      have ix := zbcq l .i64 (j : Int) (by omega) (by omega)
      rw [Int.toNat_natCast, hget] at ix
      have := ih fu (by omega) (by omega)
      rw [hdr] at this
      rw [zaph, show (((j + 1 : Nat) : Int) - 1) = (j : Int) by omega]
      obtain ⟨b, hb⟩ : ∃ b, l[j] = b := ⟨_, rfl⟩
      obtain ⟨c, hc⟩ : ∃ c, (incB (l.drop (j + 1))).2 = c := ⟨_, rfl⟩
      obtain ⟨t, ht⟩ : ∃ t, (incB (l.drop (j + 1))).1 = t := ⟨_, rfl⟩
      have htl : t.length ≤ 20 := by rw [← ht, zatj, List.length_drop]; omega
      rw [hb] at this ix
      simp only [incB] at this
      rw [hc, ht] at this
      rw [hc, ht]
      have c1 : (0 : Int) ≤ (j : Int) := by omega
      have a0 := zbcg [false] t (by show 1 + _ ≤ _; omega)
      have a1 := zbcg [true] t (by show 1 + _ ≤ _; omega)
      have k0 : (48 + ((bn false : Nat) : Int) == 49) = false := rfl
      have k1 : (48 + ((bn true : Nat) : Int) == 49) = true := rfl
      cases b <;> cases c
      · try simp (disch := first | omega | assumption | exact zaae _ _ | exact zaab _ _ _ | exact zaaf _ | exact zaad _ | exact zaaa _) only [Nat.reduceAdd, Nat.reduceLT, RZ, c1, ix, k0, k1, tx_0, tx_1, a0, a1, bneB, Bool.xor_false, Bool.xor_true, Bool.not_true, Bool.not_false]
        exact this
      · try simp (disch := first | omega | assumption | exact zaae _ _ | exact zaab _ _ _ | exact zaaf _ | exact zaad _ | exact zaaa _) only [Nat.reduceAdd, Nat.reduceLT, RZ, c1, ix, k0, k1, tx_0, tx_1, a0, a1, bneB, Bool.xor_false, Bool.xor_true, Bool.not_true, Bool.not_false]
        exact this
      · try simp (disch := first | omega | assumption | exact zaae _ _ | exact zaab _ _ _ | exact zaaf _ | exact zaad _ | exact zaaa _) only [Nat.reduceAdd, Nat.reduceLT, RZ, c1, ix, k0, k1, tx_0, tx_1, a0, a1, bneB, Bool.xor_false, Bool.xor_true, Bool.not_true, Bool.not_false]
        exact this
      · try simp (disch := first | omega | assumption | exact zaae _ _ | exact zaab _ _ _ | exact zaaf _ | exact zaad _ | exact zaaa _) only [Nat.reduceAdd, Nat.reduceLT, RZ, c1, ix, k0, k1, tx_0, tx_1, a0, a1, bneB, Bool.xor_false, Bool.xor_true, Bool.not_true, Bool.not_false]
        exact this
  have := key l.length lf (Nat.le_refl _) (by omega)
  rw [List.drop_length] at this
  try simp (disch := first | omega | assumption | exact zaae _ _ | exact zaab _ _ _ | exact zaaf _ | exact zaad _ | exact zaaa _) only [Nat.reduceAdd, Nat.reduceLT, RZ, zacs]
  exact this
end
end Go.Proofs.YtdagfcflbphoiaaGreatDoor

/- From the quick run of a closed test to its call in every world. -/
import Derived.Test.YtdagfcflbphoiaaDoorMae
import Derived.Test.YtdagfcflbphoiaaDoorRows
import Derived.Test.YtdagfcflbphoiaaDoorMaj
import Derived.Test.YtdagfcflbphoiaaDoorMac
import Derived.MakeChecks
import Derived.OpenShut
import Derived.ChangeArms
import Derived.Test.YtdagfcflbphoiaaDoorMai
import Derived.Test.YtdagfcflbphoiaaDoorMah
namespace Go.Proofs.YtdagfcflbphoiaaDoor.Ev
set_option linter.unusedVariables false
set_option linter.unusedSimpArgs false
open Go Go.RowKit
theorem closedN {P : Program} {kn : List FuncId} (hnm : okNames P = true) (hok : okProg P kn = true) (hmix : P.follows .mixedOrders = true) (hkn : Known P kn) (hd : okDsts P = true) {gt : Nat → List Nat} {lf d : Nat} {f : FuncId} {w : World} {m : Mp} {h : H} (x : Laid P w m h P.globals.size) (hr : yieldsTrue (evCallN kn P gt lf d f #[] h P.globals.size) = true) :
    Calls P f #[] w fun e w' => e = .returned (.bool true) ∧ Below w.heap.size w w' := by
  cases ho : evCallN kn P gt lf d f #[] h P.globals.size with
  | none => rw [ho] at hr; cases hr
  | some o =>
    obtain ⟨v, h1, n1, L⟩ := o
    rw [ho] at hr
    obtain ⟨f0, hf0⟩ := callN_ok hd d f #[] h _ v h1 n1 L ho
    refine closed_laid hnm hok hmix hkn x (fuel := f0) ?_
    have e : evCall P kn f0 f #[] h P.globals.size = some ⟨v, h1, n1, L⟩ := hf0 f0 (Nat.le_refl _)
    rw [e]
    exact hr

end Go.Proofs.YtdagfcflbphoiaaDoor.Ev
/- The closed test of layer 12, run quickly. -/
namespace Go.Proofs.YtdagfcflbphoiaaDoor
set_option linter.unusedVariables false
set_option linter.unusedSimpArgs false
open Go.RowKit Ev

theorem ev_names : Ev.okNames Tryd.prog = true := by kernel_rfl
theorem ev_prog0 : Ev.okProg Tryd.prog Fa.kn0 = true := by kernel_rfl
theorem ev_progK : Ev.okProg Tryd.prog Ev.KN = true := by kernel_rfl
theorem ev_mix : Tryd.prog.follows .mixedOrders = true := by kernel_rfl
theorem okd0 : okDsts Tryd.prog = true := by kernel_rfl
theorem nat_known : Ev.NatKnown Tryd.prog := by
  intro f k hf
  simp [natOf, NV, natIn] at hf
theorem bad_known : Ev.Known Tryd.prog Fa.kn0 := ⟨fun f hf => by simp [Fa.kn0] at hf, nat_known⟩
/-- what the laid variable holds -/
def gV : List Value := [.int .i64 200, .int .i64 600, .int .i64 1200, .int .i64 2400]
def hG : H := H.set .nil 0 (some ⟨3, false, gV⟩)
theorem laid_hG {w : World} (x : Ev.GlobAt w) : ∃ m, Laid Tryd.prog w m hG Tryd.prog.globals.size := by
  refine laid_KG x (by decide +kernel) (sz := 1) (by kernel_rfl) (by decide) (fun k v hk => ?_) (by decide)
  match k, hk with
  | 0, hk => cases hk; simp [KG]
  | 1, hk => cases hk; simp [KG]
  | 2, hk => cases hk; simp [KG]
  | 3, hk => cases hk; simp [KG]
set_option maxRecDepth 100000 in
theorem q_three : Ev.yieldsTrue ((inside (Fa.F_balerlaw12_three 100000 1000 (Fa.fast 100000 1000))) hG Tryd.prog.globals.size) = true := by kernel_rfl
theorem l_three (w : World) (x : Ev.GlobAt w) : Calls Tryd.prog 8 #[] w fun e w' => e = .returned (.bool true) ∧ Below w.heap.size w w' := by
  obtain ⟨m, x⟩ := laid_hG x
  refine Ev.closedN (kn := Fa.kn0) ev_names ev_prog0 ev_mix bad_known okd0 x (gt := Fa.gtA) (lf := 100000) (d := 1001) ?_
  have := q_three
  rw [Fa.fast_eq, Fa.fsh_balerlaw12_three] at this
  exact this
theorem known : Ev.Known Tryd.prog Ev.KN := ⟨fun f hf hn hp w x => by
  have : f = 8 := by simpa [Ev.KN] using hf
  subst this
  exact l_three w x, nat_known⟩

end Go.Proofs.YtdagfcflbphoiaaDoor
/- The laid variable of a door seat: what it holds. -/
namespace Go.Proofs.YtdagfcflbphoiaaDoor
set_option linter.unusedVariables false
set_option linter.unusedSimpArgs false
open Go Go.RowKit Go.WideShapes Go.ChangeShapes Go.MakeChecks

theorem gn_b : Tryd.prog.globalNamed "baler/tables.bounds" = some 0 := by kernel_rfl
theorem gt_b : (Tryd.prog.globals[0]?).map (·.type) = some 58 := by kernel_rfl
theorem co_i : Tryd.prog.cellsOf 3 = 1 := by kernel_rfl
theorem co_b : Tryd.prog.cellsOf 58 = 4 := by kernel_rfl
set_option maxRecDepth 10000 in
theorem glob_of_laid {w : World} (hL : laidMetH Tryd.prog [("baler/tables.bounds", Rows.laid_baler_tables_bounds)] w) : Ev.GlobAt w := by
  rw [laidMetH_plain _ _ _ rfl] at hL
  obtain ⟨ps, ⟨g, t, cs, fuel, p, q, hg, ht, hv, hx, _⟩, _⟩ := hL
  rw [gn_b] at hg
  cases hg
  rw [gt_b] at ht
  cases ht
  unfold World.var? at hv
  rw [gn_b] at hv
  simp only [Option.bind_some] at hv
  split at hv
  · rename_i cs' e' fr' hw
    cases hv
    obtain ⟨xs, m, rfl, hx1, hlen, hxn, hall⟩ := DataW.trod_array Tryd.underlying58 hx
    rw [co_b] at hlen
    rw [co_i] at hall
    have hc : ∀ (i : Nat) (z : Int), i < 4 → (xs.map (·.1))[i]? = some (.lit (.int .i64 z)) → w.cell? ⟨0, i, none⟩ = some (.int .i64 z) := by
      intro i z hi hz
      rw [List.getElem?_map] at hz
      cases hxi : xs[i]? with
      | none => rw [hxi] at hz; cases hz
      | some y =>
        rw [hxi] at hz
        have ha := hall i hi
        rw [hxi] at ha
        obtain ⟨k, h1, h2, _⟩ := DataW.trod_int Tryd.underlying3 ha
        rw [h2] at hz
        cases hz
        have h3 : cs.toList[i]? = some (.int .i64 z) := by
          rw [Nat.mul_one, List.drop_eq_getElem_cons (by omega), List.take_succ_cons, List.take_zero] at h1
          rw [List.getElem?_eq_getElem (by omega)]
          exact congrArg some (List.cons.inj h1).1
        unfold World.cell?
        simp only [hw]
        simpa using h3
    have hm : xs.map (·.1) = [.lit (.int .i64 200), .lit (.int .i64 600), .lit (.int .i64 1200), .lit (.int .i64 2400)] := by
      have := congrArg Prod.fst hx1
      simp only [Rows.laid_baler_tables_bounds] at this
      injection this with this
      exact this.symm
    rw [hm] at hc
    intro g hg
    have : g = (0, 0, .int .i64 200) ∨ g = (0, 1, .int .i64 600) ∨ g = (0, 2, .int .i64 1200) ∨ g = (0, 3, .int .i64 2400) := by simpa [Ev.KG] using hg
    rcases this with rfl | rfl | rfl | rfl
    · exact hc 0 200 (by decide) rfl
    · exact hc 1 600 (by decide) rfl
    · exact hc 2 1200 (by decide) rfl
    · exact hc 3 2400 (by decide) rfl
  · cases hv

end Go.Proofs.YtdagfcflbphoiaaDoor
/- From the second form to calls, in a seat whose tables are laid. -/
namespace Go.Proofs.YtdagfcflbphoiaaDoor
set_option linter.unusedVariables false
set_option linter.unusedSimpArgs false
open Go.RowKit Ev

/-- the laid variable is there -/
def Gd (h : H) (n : Nat) : Prop := h.get 0 = some ⟨3, false, gV⟩ ∧ 0 < n
theorem Gd.keep {h h' : H} {n n' : Nat} (x : Gd h n) (hn : n ≤ n') (hk : ∀ b, b < n → h'.get b = h.get b) : Gd h' n' := ⟨(hk _ x.2).trans x.1, Nat.lt_of_lt_of_le x.2 hn⟩
theorem Gd.of {h : H} {n : Nat} (hn : Tryd.prog.globals.size ≤ n) (hg : h.get 0 = some ⟨3, false, gV⟩) : Gd h n := ⟨hg, Nat.lt_of_lt_of_le (by decide +kernel) hn⟩
theorem k_three (lf d n : Nat) (h : H) (x : Gd h n) : Run (fun _ => False) n (evCall2 Tryd.prog gt lf (d + 1) 8 #[]) h n fun v' h' n' => v' = .bool true ∧ h' = h ∧ n' = n := by
  obtain ⟨hg, hn⟩ := x
  have e : evCall2 Tryd.prog gt lf (d + 1) 8 #[] = (chkG Tryd.prog KG).bind fun _ => M.ret (.bool true) := by kernel_rfl
  rw [e]
  have rdg : ∀ (k : Nat) (v : Value), gV[k]? = some v → rd 0 k h n = some ⟨v, h, n, [⟨false, 0, some k⟩]⟩ := fun k v hk => by
    unfold rd
    simp only [hn, hg, hk, if_true]
  have hsz : decide (0 < Tryd.prog.globals.size) = true := by decide +kernel
  have stp : ∀ (k : Nat) (x : Int) (l : List (Nat × Nat × Value)) (L : List En), gV[k]? = some (.int .i64 x) → chkG Tryd.prog l h n = some ⟨(), h, n, L⟩ → chkG Tryd.prog ((0, k, .int .i64 x) :: l) h n = some ⟨(), h, n, [⟨false, 0, some k⟩] ++ L⟩ := fun k x l L hk hl => by
    unfold chkG
    refine bind_run (rdg k _ hk) ?_
    simp only [hsz, sameI, decide_true, Bool.and_self, if_true]
    exact hl
  have c := stp 0 200 _ _ rfl (stp 1 600 _ _ rfl (stp 2 1200 _ _ rfl (stp 3 2400 [] [] rfl rfl)))
  refine Run.step c (Nat.le_refl _) (by simp) ?_
  rw [run_ret]
  exact ⟨rfl, rfl, rfl⟩
theorem run_three {lf d n n0 : Nat} {h : H} {W : Nat → Prop} (hn : n0 ≤ n) (x : Gd h n) : Run W n0 ((inside (evCall2 Tryd.prog gt lf (d + 1) 8 #[])).bind fun v => outK [v]) h n fun v _ _ => v = .bool true := by
  refine run_same (k_three lf d n h x) hn (fun _ _ h => h.elim) ?_
  rw [run_out1]

end Go.Proofs.YtdagfcflbphoiaaDoor
/- Layer 12 by the second form: how many tables, groups, picks. -/
namespace Go.Proofs.YtdagfcflbphoiaaDoor
set_option linter.unusedVariables false
set_option linter.unusedSimpArgs false
open Go.RowKit Ev Tb

section
variable (lf d n : Nat) (h : H) (hlf : 3000000 ≤ lf)
theorem r_Number (z : Int) : Run (fun _ => False) n (evCall2 Tryd.prog gt lf (d + 1) 16 #[.int .i64 z]) h n fun v' h' n' => v' = .int .i64 (numL z : Int) ∧ h' = h ∧ n' = n := by
  rw [sh_balerref12_Number]
  refine Run.inside_ ?_
  unfold b_balerref12_Number numL
  by_cases c1 : z < 200
  · try simp (disch := first | omega | assumption | exact one_int _ _ | exact one_slice _ _ _ | exact one_ptr _ | exact one_bool _ | exact one_string _) only [RXA, RXB, Nat.reduceAdd, Nat.reduceLT, wrap_id, wrap_succ, wrap_pred, FX1, c1]
    all_goals (first | rfl | exact ⟨rfl, rfl, rfl⟩ | exact ⟨rfl, rfl⟩)
  · by_cases c2 : z < 600
    · try simp (disch := first | omega | assumption | exact one_int _ _ | exact one_slice _ _ _ | exact one_ptr _ | exact one_bool _ | exact one_string _) only [RXA, RXB, Nat.reduceAdd, Nat.reduceLT, wrap_id, wrap_succ, wrap_pred, FX1, c1, c2]
      all_goals (first | rfl | exact ⟨rfl, rfl, rfl⟩ | exact ⟨rfl, rfl⟩)
    · by_cases c3 : z < 1200
      · try simp (disch := first | omega | assumption | exact one_int _ _ | exact one_slice _ _ _ | exact one_ptr _ | exact one_bool _ | exact one_string _) only [RXA, RXB, Nat.reduceAdd, Nat.reduceLT, wrap_id, wrap_succ, wrap_pred, FX1, c1, c2, c3]
        all_goals (first | rfl | exact ⟨rfl, rfl, rfl⟩ | exact ⟨rfl, rfl⟩)
      · by_cases c4 : z < 2400
        · try simp (disch := first | omega | assumption | exact one_int _ _ | exact one_slice _ _ _ | exact one_ptr _ | exact one_bool _ | exact one_string _) only [RXA, RXB, Nat.reduceAdd, Nat.reduceLT, wrap_id, wrap_succ, wrap_pred, FX1, c1, c2, c3, c4]
          all_goals (first | rfl | exact ⟨rfl, rfl, rfl⟩ | exact ⟨rfl, rfl⟩)
        · try simp (disch := first | omega | assumption | exact one_int _ _ | exact one_slice _ _ _ | exact one_ptr _ | exact one_bool _ | exact one_string _) only [RXA, RXB, Nat.reduceAdd, Nat.reduceLT, wrap_id, wrap_succ, wrap_pred, FX1, c1, c2, c3, c4]
          all_goals (first | rfl | exact ⟨rfl, rfl, rfl⟩ | exact ⟨rfl, rfl⟩)
theorem bix0 : index2 Tryd.prog 58 (.agg #[.int .i64 200, .int .i64 600, .int .i64 1200, .int .i64 2400]) (.int .i64 0) = some (.int .i64 200) := by kernel_rfl
theorem bix1 : index2 Tryd.prog 58 (.agg #[.int .i64 200, .int .i64 600, .int .i64 1200, .int .i64 2400]) (.int .i64 1) = some (.int .i64 600) := by kernel_rfl
theorem bix2 : index2 Tryd.prog 58 (.agg #[.int .i64 200, .int .i64 600, .int .i64 1200, .int .i64 2400]) (.int .i64 2) = some (.int .i64 1200) := by kernel_rfl
theorem bix3 : index2 Tryd.prog 58 (.agg #[.int .i64 200, .int .i64 600, .int .i64 1200, .int .i64 2400]) (.int .i64 3) = some (.int .i64 2400) := by kernel_rfl
theorem s_Number (z : Int) (g : Gd h n) (hf : 5 ≤ lf) : Run (fun _ => False) n (evCall2 Tryd.prog gt lf (d + 1) 19 #[.int .i64 z]) h n fun v' h' n' => v' = .int .i64 (numL z : Int) ∧ h' = h ∧ n' = n := by
  rw [sh_tables_Number]
  refine Run.inside_ ?_
  unfold b_tables_Number
  refine run_lda aga58 sz58 0 0 _ g.1 g.2 (by decide) ?_
  have go : ∀ F, 5 ≤ F → Run (fun _ => False) n (lpA_tables_Number lf d F (kcA_tables_Number lf d) (.int .i64 z) (.int .i64 0) (.int .i64 2) (.agg #[.int .i64 200, .int .i64 600, .int .i64 1200, .int .i64 2400]) (.int .i64 0)) h n fun v' h' n' => v' = .int .i64 (numL z : Int) ∧ h' = h ∧ n' = n := by
    intro F hF
    obtain ⟨F, rfl⟩ : ∃ f, F = f + 1 + 1 + 1 + 1 + 1 := ⟨F - 5, by omega⟩
    have w : ∀ x : Int, 0 ≤ x → x < 100 → IntKind.i64.wrap (x + 1) = x + 1 := fun x h0 h1 => wrap_id (by omega) (by omega)
    unfold numL
    by_cases c1 : z < 200
    · have d1 : ¬ (200 ≤ z) := by omega
      have d2 : ¬ (600 ≤ z) := by omega
      have d3 : ¬ (1200 ≤ z) := by omega
      have d4 : ¬ (2400 ≤ z) := by omega
      rw [succA_tables_Number]
      try simp (disch := first | omega | assumption | exact one_int _ _ | exact one_slice _ _ _ | exact one_ptr _ | exact one_bool _ | exact one_string _) only [RXA, RXB, Nat.reduceAdd, Nat.reduceLT, wrap_id, wrap_succ, wrap_pred, FX1, Int.reduceBEq, Int.reduceBNe, Int.reduceLT, Int.reduceLE, Int.reduceEq, Int.reduceNe, Int.reduceAdd, Int.reduceSub, Int.reduceMul, Int.reduceNeg, bix0, d1]
      rw [succA_tables_Number]
      try simp (disch := first | omega | assumption | exact one_int _ _ | exact one_slice _ _ _ | exact one_ptr _ | exact one_bool _ | exact one_string _) only [RXA, RXB, Nat.reduceAdd, Nat.reduceLT, wrap_id, wrap_succ, wrap_pred, FX1, Int.reduceBEq, Int.reduceBNe, Int.reduceLT, Int.reduceLE, Int.reduceEq, Int.reduceNe, Int.reduceAdd, Int.reduceSub, Int.reduceMul, Int.reduceNeg, bix1, d2]
      rw [succA_tables_Number]
      try simp (disch := first | omega | assumption | exact one_int _ _ | exact one_slice _ _ _ | exact one_ptr _ | exact one_bool _ | exact one_string _) only [RXA, RXB, Nat.reduceAdd, Nat.reduceLT, wrap_id, wrap_succ, wrap_pred, FX1, Int.reduceBEq, Int.reduceBNe, Int.reduceLT, Int.reduceLE, Int.reduceEq, Int.reduceNe, Int.reduceAdd, Int.reduceSub, Int.reduceMul, Int.reduceNeg, bix2, d3]
      rw [succA_tables_Number]
      try simp (disch := first | omega | assumption | exact one_int _ _ | exact one_slice _ _ _ | exact one_ptr _ | exact one_bool _ | exact one_string _) only [RXA, RXB, Nat.reduceAdd, Nat.reduceLT, wrap_id, wrap_succ, wrap_pred, FX1, Int.reduceBEq, Int.reduceBNe, Int.reduceLT, Int.reduceLE, Int.reduceEq, Int.reduceNe, Int.reduceAdd, Int.reduceSub, Int.reduceMul, Int.reduceNeg, bix3, d4]
      rw [succA_tables_Number]
      try simp (disch := first | omega | assumption | exact one_int _ _ | exact one_slice _ _ _ | exact one_ptr _ | exact one_bool _ | exact one_string _) only [RXA, RXB, Nat.reduceAdd, Nat.reduceLT, wrap_id, wrap_succ, wrap_pred, FX1, Int.reduceBEq, Int.reduceBNe, Int.reduceLT, Int.reduceLE, Int.reduceEq, Int.reduceNe, Int.reduceAdd, Int.reduceSub, Int.reduceMul, Int.reduceNeg]
      rw [kcAa_tables_Number]
      try simp (disch := first | omega | assumption | exact one_int _ _ | exact one_slice _ _ _ | exact one_ptr _ | exact one_bool _ | exact one_string _) only [RXA, RXB, Nat.reduceAdd, Nat.reduceLT, wrap_id, wrap_succ, wrap_pred, FX1, Int.reduceBEq, Int.reduceBNe, Int.reduceLT, Int.reduceLE, Int.reduceEq, Int.reduceNe, Int.reduceAdd, Int.reduceSub, Int.reduceMul, Int.reduceNeg, c1]
      all_goals (first | rfl | exact ⟨rfl, rfl, rfl⟩ | exact ⟨rfl, rfl⟩)
    · have d1 : 200 ≤ z := by omega
      by_cases c2 : z < 600
      · have d2 : ¬ (600 ≤ z) := by omega
        have d3 : ¬ (1200 ≤ z) := by omega
        have d4 : ¬ (2400 ≤ z) := by omega
        rw [succA_tables_Number]
        try simp (disch := first | omega | assumption | exact one_int _ _ | exact one_slice _ _ _ | exact one_ptr _ | exact one_bool _ | exact one_string _) only [RXA, RXB, Nat.reduceAdd, Nat.reduceLT, wrap_id, wrap_succ, wrap_pred, FX1, Int.reduceBEq, Int.reduceBNe, Int.reduceLT, Int.reduceLE, Int.reduceEq, Int.reduceNe, Int.reduceAdd, Int.reduceSub, Int.reduceMul, Int.reduceNeg, bix0, d1]
        rw [succA_tables_Number]
        try simp (disch := first | omega | assumption | exact one_int _ _ | exact one_slice _ _ _ | exact one_ptr _ | exact one_bool _ | exact one_string _) only [RXA, RXB, Nat.reduceAdd, Nat.reduceLT, wrap_id, wrap_succ, wrap_pred, FX1, Int.reduceBEq, Int.reduceBNe, Int.reduceLT, Int.reduceLE, Int.reduceEq, Int.reduceNe, Int.reduceAdd, Int.reduceSub, Int.reduceMul, Int.reduceNeg, bix1, d2]
        rw [succA_tables_Number]
        try simp (disch := first | omega | assumption | exact one_int _ _ | exact one_slice _ _ _ | exact one_ptr _ | exact one_bool _ | exact one_string _) only [RXA, RXB, Nat.reduceAdd, Nat.reduceLT, wrap_id, wrap_succ, wrap_pred, FX1, Int.reduceBEq, Int.reduceBNe, Int.reduceLT, Int.reduceLE, Int.reduceEq, Int.reduceNe, Int.reduceAdd, Int.reduceSub, Int.reduceMul, Int.reduceNeg, bix2, d3]
        rw [succA_tables_Number]
        try simp (disch := first | omega | assumption | exact one_int _ _ | exact one_slice _ _ _ | exact one_ptr _ | exact one_bool _ | exact one_string _) only [RXA, RXB, Nat.reduceAdd, Nat.reduceLT, wrap_id, wrap_succ, wrap_pred, FX1, Int.reduceBEq, Int.reduceBNe, Int.reduceLT, Int.reduceLE, Int.reduceEq, Int.reduceNe, Int.reduceAdd, Int.reduceSub, Int.reduceMul, Int.reduceNeg, bix3, d4]
        rw [succA_tables_Number]
        try simp (disch := first | omega | assumption | exact one_int _ _ | exact one_slice _ _ _ | exact one_ptr _ | exact one_bool _ | exact one_string _) only [RXA, RXB, Nat.reduceAdd, Nat.reduceLT, wrap_id, wrap_succ, wrap_pred, FX1, Int.reduceBEq, Int.reduceBNe, Int.reduceLT, Int.reduceLE, Int.reduceEq, Int.reduceNe, Int.reduceAdd, Int.reduceSub, Int.reduceMul, Int.reduceNeg]
        rw [kcAa_tables_Number]
        try simp (disch := first | omega | assumption | exact one_int _ _ | exact one_slice _ _ _ | exact one_ptr _ | exact one_bool _ | exact one_string _) only [RXA, RXB, Nat.reduceAdd, Nat.reduceLT, wrap_id, wrap_succ, wrap_pred, FX1, Int.reduceBEq, Int.reduceBNe, Int.reduceLT, Int.reduceLE, Int.reduceEq, Int.reduceNe, Int.reduceAdd, Int.reduceSub, Int.reduceMul, Int.reduceNeg, c1, c2]
        all_goals (first | rfl | exact ⟨rfl, rfl, rfl⟩ | exact ⟨rfl, rfl⟩)
      · have d2 : 600 ≤ z := by omega
        by_cases c3 : z < 1200
        · have d3 : ¬ (1200 ≤ z) := by omega
          have d4 : ¬ (2400 ≤ z) := by omega
          rw [succA_tables_Number]
          try simp (disch := first | omega | assumption | exact one_int _ _ | exact one_slice _ _ _ | exact one_ptr _ | exact one_bool _ | exact one_string _) only [RXA, RXB, Nat.reduceAdd, Nat.reduceLT, wrap_id, wrap_succ, wrap_pred, FX1, Int.reduceBEq, Int.reduceBNe, Int.reduceLT, Int.reduceLE, Int.reduceEq, Int.reduceNe, Int.reduceAdd, Int.reduceSub, Int.reduceMul, Int.reduceNeg, bix0, d1]
          rw [succA_tables_Number]
          try simp (disch := first | omega | assumption | exact one_int _ _ | exact one_slice _ _ _ | exact one_ptr _ | exact one_bool _ | exact one_string _) only [RXA, RXB, Nat.reduceAdd, Nat.reduceLT, wrap_id, wrap_succ, wrap_pred, FX1, Int.reduceBEq, Int.reduceBNe, Int.reduceLT, Int.reduceLE, Int.reduceEq, Int.reduceNe, Int.reduceAdd, Int.reduceSub, Int.reduceMul, Int.reduceNeg, bix1, d2]
          rw [succA_tables_Number]
          try simp (disch := first | omega | assumption | exact one_int _ _ | exact one_slice _ _ _ | exact one_ptr _ | exact one_bool _ | exact one_string _) only [RXA, RXB, Nat.reduceAdd, Nat.reduceLT, wrap_id, wrap_succ, wrap_pred, FX1, Int.reduceBEq, Int.reduceBNe, Int.reduceLT, Int.reduceLE, Int.reduceEq, Int.reduceNe, Int.reduceAdd, Int.reduceSub, Int.reduceMul, Int.reduceNeg, bix2, d3]
          rw [succA_tables_Number]
          try simp (disch := first | omega | assumption | exact one_int _ _ | exact one_slice _ _ _ | exact one_ptr _ | exact one_bool _ | exact one_string _) only [RXA, RXB, Nat.reduceAdd, Nat.reduceLT, wrap_id, wrap_succ, wrap_pred, FX1, Int.reduceBEq, Int.reduceBNe, Int.reduceLT, Int.reduceLE, Int.reduceEq, Int.reduceNe, Int.reduceAdd, Int.reduceSub, Int.reduceMul, Int.reduceNeg, bix3, d4]
          rw [succA_tables_Number]
          try simp (disch := first | omega | assumption | exact one_int _ _ | exact one_slice _ _ _ | exact one_ptr _ | exact one_bool _ | exact one_string _) only [RXA, RXB, Nat.reduceAdd, Nat.reduceLT, wrap_id, wrap_succ, wrap_pred, FX1, Int.reduceBEq, Int.reduceBNe, Int.reduceLT, Int.reduceLE, Int.reduceEq, Int.reduceNe, Int.reduceAdd, Int.reduceSub, Int.reduceMul, Int.reduceNeg]
          rw [kcAa_tables_Number]
          try simp (disch := first | omega | assumption | exact one_int _ _ | exact one_slice _ _ _ | exact one_ptr _ | exact one_bool _ | exact one_string _) only [RXA, RXB, Nat.reduceAdd, Nat.reduceLT, wrap_id, wrap_succ, wrap_pred, FX1, Int.reduceBEq, Int.reduceBNe, Int.reduceLT, Int.reduceLE, Int.reduceEq, Int.reduceNe, Int.reduceAdd, Int.reduceSub, Int.reduceMul, Int.reduceNeg, c1, c2, c3]
          all_goals (first | rfl | exact ⟨rfl, rfl, rfl⟩ | exact ⟨rfl, rfl⟩)
        · have d3 : 1200 ≤ z := by omega
          by_cases c4 : z < 2400
          · have d4 : ¬ (2400 ≤ z) := by omega
            rw [succA_tables_Number]
            try simp (disch := first | omega | assumption | exact one_int _ _ | exact one_slice _ _ _ | exact one_ptr _ | exact one_bool _ | exact one_string _) only [RXA, RXB, Nat.reduceAdd, Nat.reduceLT, wrap_id, wrap_succ, wrap_pred, FX1, Int.reduceBEq, Int.reduceBNe, Int.reduceLT, Int.reduceLE, Int.reduceEq, Int.reduceNe, Int.reduceAdd, Int.reduceSub, Int.reduceMul, Int.reduceNeg, bix0, d1]
            rw [succA_tables_Number]
            try simp (disch := first | omega | assumption | exact one_int _ _ | exact one_slice _ _ _ | exact one_ptr _ | exact one_bool _ | exact one_string _) only [RXA, RXB, Nat.reduceAdd, Nat.reduceLT, wrap_id, wrap_succ, wrap_pred, FX1, Int.reduceBEq, Int.reduceBNe, Int.reduceLT, Int.reduceLE, Int.reduceEq, Int.reduceNe, Int.reduceAdd, Int.reduceSub, Int.reduceMul, Int.reduceNeg, bix1, d2]
            rw [succA_tables_Number]
            try simp (disch := first | omega | assumption | exact one_int _ _ | exact one_slice _ _ _ | exact one_ptr _ | exact one_bool _ | exact one_string _) only [RXA, RXB, Nat.reduceAdd, Nat.reduceLT, wrap_id, wrap_succ, wrap_pred, FX1, Int.reduceBEq, Int.reduceBNe, Int.reduceLT, Int.reduceLE, Int.reduceEq, Int.reduceNe, Int.reduceAdd, Int.reduceSub, Int.reduceMul, Int.reduceNeg, bix2, d3]
            rw [succA_tables_Number]
            try simp (disch := first | omega | assumption | exact one_int _ _ | exact one_slice _ _ _ | exact one_ptr _ | exact one_bool _ | exact one_string _) only [RXA, RXB, Nat.reduceAdd, Nat.reduceLT, wrap_id, wrap_succ, wrap_pred, FX1, Int.reduceBEq, Int.reduceBNe, Int.reduceLT, Int.reduceLE, Int.reduceEq, Int.reduceNe, Int.reduceAdd, Int.reduceSub, Int.reduceMul, Int.reduceNeg, bix3, d4]
            rw [succA_tables_Number]
            try simp (disch := first | omega | assumption | exact one_int _ _ | exact one_slice _ _ _ | exact one_ptr _ | exact one_bool _ | exact one_string _) only [RXA, RXB, Nat.reduceAdd, Nat.reduceLT, wrap_id, wrap_succ, wrap_pred, FX1, Int.reduceBEq, Int.reduceBNe, Int.reduceLT, Int.reduceLE, Int.reduceEq, Int.reduceNe, Int.reduceAdd, Int.reduceSub, Int.reduceMul, Int.reduceNeg]
            rw [kcAa_tables_Number]
            try simp (disch := first | omega | assumption | exact one_int _ _ | exact one_slice _ _ _ | exact one_ptr _ | exact one_bool _ | exact one_string _) only [RXA, RXB, Nat.reduceAdd, Nat.reduceLT, wrap_id, wrap_succ, wrap_pred, FX1, Int.reduceBEq, Int.reduceBNe, Int.reduceLT, Int.reduceLE, Int.reduceEq, Int.reduceNe, Int.reduceAdd, Int.reduceSub, Int.reduceMul, Int.reduceNeg, c1, c2, c3, c4]
            all_goals (first | rfl | exact ⟨rfl, rfl, rfl⟩ | exact ⟨rfl, rfl⟩)
          · have d4 : 2400 ≤ z := by omega
            rw [succA_tables_Number]
            try simp (disch := first | omega | assumption | exact one_int _ _ | exact one_slice _ _ _ | exact one_ptr _ | exact one_bool _ | exact one_string _) only [RXA, RXB, Nat.reduceAdd, Nat.reduceLT, wrap_id, wrap_succ, wrap_pred, FX1, Int.reduceBEq, Int.reduceBNe, Int.reduceLT, Int.reduceLE, Int.reduceEq, Int.reduceNe, Int.reduceAdd, Int.reduceSub, Int.reduceMul, Int.reduceNeg, bix0, d1]
            rw [succA_tables_Number]
            try simp (disch := first | omega | assumption | exact one_int _ _ | exact one_slice _ _ _ | exact one_ptr _ | exact one_bool _ | exact one_string _) only [RXA, RXB, Nat.reduceAdd, Nat.reduceLT, wrap_id, wrap_succ, wrap_pred, FX1, Int.reduceBEq, Int.reduceBNe, Int.reduceLT, Int.reduceLE, Int.reduceEq, Int.reduceNe, Int.reduceAdd, Int.reduceSub, Int.reduceMul, Int.reduceNeg, bix1, d2]
            rw [succA_tables_Number]
            try simp (disch := first | omega | assumption | exact one_int _ _ | exact one_slice _ _ _ | exact one_ptr _ | exact one_bool _ | exact one_string _) only [RXA, RXB, Nat.reduceAdd, Nat.reduceLT, wrap_id, wrap_succ, wrap_pred, FX1, Int.reduceBEq, Int.reduceBNe, Int.reduceLT, Int.reduceLE, Int.reduceEq, Int.reduceNe, Int.reduceAdd, Int.reduceSub, Int.reduceMul, Int.reduceNeg, bix2, d3]
            rw [succA_tables_Number]
            try simp (disch := first | omega | assumption | exact one_int _ _ | exact one_slice _ _ _ | exact one_ptr _ | exact one_bool _ | exact one_string _) only [RXA, RXB, Nat.reduceAdd, Nat.reduceLT, wrap_id, wrap_succ, wrap_pred, FX1, Int.reduceBEq, Int.reduceBNe, Int.reduceLT, Int.reduceLE, Int.reduceEq, Int.reduceNe, Int.reduceAdd, Int.reduceSub, Int.reduceMul, Int.reduceNeg, bix3, d4]
            rw [succA_tables_Number]
            try simp (disch := first | omega | assumption | exact one_int _ _ | exact one_slice _ _ _ | exact one_ptr _ | exact one_bool _ | exact one_string _) only [RXA, RXB, Nat.reduceAdd, Nat.reduceLT, wrap_id, wrap_succ, wrap_pred, FX1, Int.reduceBEq, Int.reduceBNe, Int.reduceLT, Int.reduceLE, Int.reduceEq, Int.reduceNe, Int.reduceAdd, Int.reduceSub, Int.reduceMul, Int.reduceNeg]
            rw [kcAa_tables_Number]
            try simp (disch := first | omega | assumption | exact one_int _ _ | exact one_slice _ _ _ | exact one_ptr _ | exact one_bool _ | exact one_string _) only [RXA, RXB, Nat.reduceAdd, Nat.reduceLT, wrap_id, wrap_succ, wrap_pred, FX1, Int.reduceBEq, Int.reduceBNe, Int.reduceLT, Int.reduceLE, Int.reduceEq, Int.reduceNe, Int.reduceAdd, Int.reduceSub, Int.reduceMul, Int.reduceNeg, c1, c2, c3, c4]
            all_goals (first | rfl | exact ⟨rfl, rfl, rfl⟩ | exact ⟨rfl, rfl⟩)
  exact go lf hf

include hlf
end
end Go.Proofs.YtdagfcflbphoiaaDoor
/- Layers 8 and 12 by the second form: the reference's groups; the tables at first. -/
namespace Go.Proofs.YtdagfcflbphoiaaDoor
set_option linter.unusedVariables false
set_option linter.unusedSimpArgs false
open Go.RowKit Ev Tb

section
variable (lf d n : Nat) (h : H) (hlf : 3000000 ≤ lf)
include hlf
end
end Go.Proofs.YtdagfcflbphoiaaDoor
/- Layer 12 by the second form: the tables at first. -/
namespace Go.Proofs.YtdagfcflbphoiaaDoor
set_option linter.unusedVariables false
set_option linter.unusedSimpArgs false
open Go.RowKit Ev Tb

theorem map_gd {α : Type} (d : α) (f : Nat → α) {N i : Nat} (h : i < N) : ((List.range N).map f).getD i d = f i := by
  rw [List.getD_eq_getElem?_getD, List.getElem?_map, List.getElem?_range h]
  rfl
/-- table p when the first v symbols are told -/
def fpart (counts : List Int) (z : Int) (p v : Nat) : List Int := (List.range counts.length).map fun u => if u < v then (if mineL counts z u = p then 0 else 15) else 0
theorem fpart_len (counts : List Int) (z : Int) (p v : Nat) : (fpart counts z p v).length = counts.length := by unfold fpart; simp
theorem fpart_0 (counts : List Int) (z : Int) (p : Nat) : fpart counts z p 0 = List.replicate counts.length 0 := by
  apply List.ext_getElem
  · simp [fpart_len]
  · intro i h1 h2; simp [fpart]
theorem fpart_all (counts : List Int) (z : Int) (p : Nat) : fpart counts z p counts.length = firstT counts z p := by
  unfold fpart firstT
  apply List.map_congr_left
  intro u hu
  rw [if_pos (List.mem_range.1 hu)]
theorem fpart_mine {counts : List Int} {z : Int} {p v : Nat} (hm : mineL counts z v = p) : fpart counts z p (v + 1) = fpart counts z p v := by
  unfold fpart
  apply List.map_congr_left
  intro u hu
  by_cases c : u < v
  · rw [if_pos c, if_pos (show u < v + 1 by omega)]
  · by_cases c2 : u = v
    · subst c2
      rw [if_pos (show u < u + 1 by omega), if_pos hm, if_neg (Nat.lt_irrefl u)]
    · rw [if_neg c, if_neg (show ¬ u < v + 1 by omega)]
theorem fpart_set {counts : List Int} {z : Int} {p v : Nat} (hv : v < counts.length) (hm : mineL counts z v ≠ p) : (fpart counts z p v).set v 15 = fpart counts z p (v + 1) := by
  apply List.ext_getElem
  · simp [fpart_len]
  · intro i h1 h2
    rw [List.getElem_set]
    simp only [fpart, List.getElem_map, List.getElem_range]
    by_cases c : v = i
    · subst c; rw [if_pos rfl, if_pos (show v < v + 1 by omega), if_neg hm]
    · rw [if_neg c]
      by_cases c2 : i < v
      · rw [if_pos c2, if_pos (show i < v + 1 by omega)]
      · rw [if_neg c2, if_neg (show ¬ i < v + 1 by omega)]
section
variable (lf d n : Nat) (h : H) (hlf : 3000000 ≤ lf)
include hlf
theorem s_first (v : Value) (xs : List Int) (z : Int) (g : Gd h n) (hR : Row h n 3 .i64 v xs) (hl : xs.length ≤ 258) (hx : ∀ x ∈ xs, 0 ≤ x ∧ x ≤ 1099511627776) (hz : 1 ≤ z) (hz2 : z ≤ 1099511627776) :
    Run (fun _ => False) n (evCall2 Tryd.prog gt lf (d + 2) 36 #[v, .int .i64 z]) h n fun v' h' n' => RR h' n' 22 3 v' (firstL xs z) := by
  rw [sh_tables_first]
  refine Run.inside_ ?_
  unfold b_tables_first
  have hR0 := hR
  obtain ⟨a, c, rfl⟩ := hR.len
  refine run_same (s_Number lf d n h z g (by omega)) (Nat.le_refl _) (fun _ _ h => h.elim) ?_
  have ht := numL_ge z
  obtain ⟨t, htt⟩ : ∃ t, numL z = t := ⟨_, rfl⟩
  rw [htt] at ht ⊢
  refine Ev.run_make c1x23 t t _ (Nat.le_refl _) (by omega) ?_
  try simp (disch := first | omega | assumption | exact one_int _ _ | exact one_slice _ _ _ | exact one_ptr _ | exact one_bool _ | exact one_string _) only [RXA, RXB, Nat.reduceAdd, Nat.reduceLT, wrap_id, wrap_succ, wrap_pred, FX1]
  let cel : Nat → Value := fun j => .slice (some ⟨n + 1 + j, 0, none⟩) xs.length xs.length
  refine run_for t (fun fu i (_ : Unit) => lpA_tables_first lf (d + 1) fu (kcA_tables_first lf (d + 1)) (.slice a xs.length c) (.int .i64 z) (.slice none 0 0) (.int .i64 (t : Nat)) (.slice (some ⟨n, 0, none⟩) t t) (.int .i64 (t : Nat)) (.int .i64 (i : Nat)))
    (fun i _ h' n' => n' = n + 1 + i ∧ (∀ b, b < n → h'.get b = h.get b) ∧ h'.get n = some ⟨22, true, rc cel (.slice none 0 0) t i⟩ ∧ ∀ j, j < i → h'.get (n + 1 + j) = some ⟨3, true, intsV .i64 (List.replicate xs.length 0)⟩) ?_ ?_ lf 0 () _ _ (Nat.zero_le _) (by omega) ⟨rfl, fun b hb => get_ne _ _ (by omega), by rw [get_eq, rc_zero], fun j hj => absurd hj (Nat.not_lt_zero j)⟩
  · rintro fu _ h' n' ⟨rfl, hk, hg, hj⟩
    rw [succA_tables_first]
    try simp (disch := first | omega | assumption | exact one_int _ _ | exact one_slice _ _ _ | exact one_ptr _ | exact one_bool _ | exact one_string _) only [RXA, RXB, Nat.reduceAdd, Nat.reduceLT, wrap_id, wrap_succ, wrap_pred, FX1, Int.lt_irrefl]
    rw [kcAa_tables_first]
    try simp (disch := first | omega | assumption | exact one_int _ _ | exact one_slice _ _ _ | exact one_ptr _ | exact one_bool _ | exact one_string _) only [RXA, RXB, Nat.reduceAdd, Nat.reduceLT, wrap_id, wrap_succ, wrap_pred, FX1]
    rw [rc_all] at hg
    refine run_for xs.length (fun fu i (q : Int) => lpB_tables_first lf (d + 1) fu (kcB_tables_first lf (d + 1)) (.slice a xs.length c) (.int .i64 z) (.slice none 0 0) (.int .i64 (t : Nat)) (.slice (some ⟨n, 0, none⟩) t t) (.int .i64 q) _ _ _ (.slice a xs.length c) (.int .i64 (xs.length : Nat)) (.int .i64 (i : Nat)))
      (fun i q h' n' => q = belowL xs z i ∧ n' = n + 1 + t ∧ (∀ b, b < n → h'.get b = h.get b) ∧ h'.get n = some ⟨22, true, (List.range t).map cel⟩ ∧ ∀ j, j < t → h'.get (n + 1 + j) = some ⟨3, true, intsV .i64 (fpart xs z j i)⟩) ?_ ?_ lf 0 0 _ _ (Nat.zero_le _) (by omega) ⟨by unfold belowL; simp only [List.take_zero, sumI]; rw [if_neg (by omega)], rfl, hk, hg, fun j hj2 => by rw [fpart_0]; exact hj j hj2⟩
    · rintro fu q h' n' ⟨rfl, rfl, hk, hg, hj⟩
      rw [succB_tables_first]
      try simp (disch := first | omega | assumption | exact one_int _ _ | exact one_slice _ _ _ | exact one_ptr _ | exact one_bool _ | exact one_string _) only [RXA, RXB, Nat.reduceAdd, Nat.reduceLT, wrap_id, wrap_succ, wrap_pred, FX1, Int.lt_irrefl]
      rw [kcBa_tables_first]
      try simp (disch := first | omega | assumption | exact one_int _ _ | exact one_slice _ _ _ | exact one_ptr _ | exact one_bool _ | exact one_string _) only [RXA, RXB, Nat.reduceAdd, Nat.reduceLT, wrap_id, wrap_succ, wrap_pred, FX1]
      have cl : ((List.range t).map cel).length = t := by simp
      refine ⟨(List.range t).map cel, .inr ⟨n, 0, t, true, _, by rw [cl], hg, by omega, by rw [cl]; omega, by rw [List.drop_zero, List.take_length], by rw [cl]; exact Nat.le_refl _⟩, by rw [cl, firstL_len, htt], fun j hjt => ?_⟩
      rw [firstL_len, htt] at hjt
      unfold firstL
      rw [htt, map_gd _ _ hjt, map_gd _ _ hjt, ← fpart_all]
      exact Row.ofBlk (hj j hjt) (by omega) (fpart_len _ _ _ _)
    · rintro fu i q h' n' hi ⟨rfl, rfl, hk, hg, hj⟩ next
      obtain ⟨b, off, cap, o, cs, hv, hgx, hb, _, _, _, hat⟩ := (hR0.keep (Nat.le_refl n) hk).some (by omega)
      cases hv
      have hb2 : b < n + 1 + t := by omega
      have e1 : ((i : Nat) : Int) < ((xs.length : Nat) : Int) := by omega
      have c1 := hat i hi
      obtain ⟨g0, g1⟩ := belowL_ge (fun x hx' => (hx x hx').1) hz (v := i)
      have g2 := mineL_eq (fun x hx' => (hx x hx').1) hz i
      rw [htt] at g2
      have g4 : 0 ≤ belowL xs z i * (t : Int) := Int.mul_nonneg g0 (by omega)
      have g5 : belowL xs z i * (t : Int) ≤ 1099511627776 * 6 := Int.mul_le_mul (by omega) (by omega) (by omega) (by omega)
      have w1 : IntKind.i64.wrap (belowL xs z i * (t : Int)) = belowL xs z i * (t : Int) := wrap_id (by omega) (by omega)
      have g6 : (mineL xs z i : Int) ≤ 1099511627776 * 6 := by
        have := Int.ediv_le_self z g4
        have h2 : (belowL xs z i * (t : Int)) / z = (mineL xs z i : Int) := by rw [← g2, Int.tdiv_eq_ediv_of_nonneg g4]
        omega
      have w2 : IntKind.i64.wrap (mineL xs z i : Int) = (mineL xs z i : Int) := wrap_id (by omega) (by omega)
      have z0 : z ≠ 0 := by omega
      have xb := hx _ (gd_mem hi)
      have w3 : IntKind.i64.wrap (belowL xs z i + xs.getD i 0) = belowL xs z i + xs.getD i 0 := wrap_id (by omega) (by omega)
      have w4 : IntKind.i64.wrap (z - 1) = z - 1 := wrap_id (by omega) (by omega)
      have bn := belowL_next (fun x hx' => (hx x hx').1) (n := z) hi
      rw [succB_tables_first]
      try simp (disch := first | omega | assumption | exact one_int _ _ | exact one_slice _ _ _ | exact one_ptr _ | exact one_bool _ | exact one_string _) only [RXA, RXB, Nat.reduceAdd, Nat.reduceLT, wrap_id, wrap_succ, wrap_pred, FX1, e1, hgx, c1, w1, z0, g2, w2]
      refine run_for t (fun f2 p (_ : Unit) => lpC_tables_first lf (d + 1) f2 (kcC_tables_first lf (d + 1) fu (kcB_tables_first lf (d + 1))) (.slice (some ⟨b, off, none⟩) xs.length c) (.int .i64 z) (.slice none 0 0) (.int .i64 (t : Nat)) (.slice (some ⟨n, 0, none⟩) t t) (.int .i64 (belowL xs z i)) (.int .i64 (i : Nat)) (.int .i64 (xs.getD i 0)) (.int .i64 (mineL xs z i : Nat)) _ _ _ _ _ (.int .i64 (i : Nat)) _ (.int .i64 (t : Nat)) (.int .i64 (p : Nat)))
        (fun p _ h' n' => n' = n + 1 + t ∧ (∀ b, b < n → h'.get b = h.get b) ∧ h'.get n = some ⟨22, true, (List.range t).map cel⟩ ∧ ∀ j, j < t → h'.get (n + 1 + j) = some ⟨3, true, intsV .i64 (fpart xs z j (if j < p then i + 1 else i))⟩) ?_ ?_ lf 0 () _ _ (Nat.zero_le _) (by omega) ⟨rfl, hk, hg, fun j hj2 => by rw [if_neg (Nat.not_lt_zero j)]; exact hj j hj2⟩
      · rintro f2 _ h2 n2 ⟨rfl, hk2, hg2, hj2⟩
        rw [succC_tables_first]
        try simp (disch := first | omega | assumption | exact one_int _ _ | exact one_slice _ _ _ | exact one_ptr _ | exact one_bool _ | exact one_string _) only [RXA, RXB, Nat.reduceAdd, Nat.reduceLT, wrap_id, wrap_succ, wrap_pred, FX1, Int.lt_irrefl]
        rw [kcCa_tables_first]
        try simp (disch := first | omega | assumption | exact one_int _ _ | exact one_slice _ _ _ | exact one_ptr _ | exact one_bool _ | exact one_string _) only [RXA, RXB, Nat.reduceAdd, Nat.reduceLT, wrap_id, wrap_succ, wrap_pred, FX1, w3, w4, bn]
        exact next _ _ _ ⟨rfl, rfl, hk2, hg2, fun j hj3 => by have := hj2 j hj3; rwa [if_pos hj3] at this⟩
      · rintro f2 p _ h2 n2 hp ⟨rfl, hk2, hg2, hj2⟩ next2
        have e2 : ((p : Nat) : Int) < ((t : Nat) : Int) := by omega
        have hpp := hj2 p hp
        rw [if_neg (Nat.lt_irrefl p)] at hpp
        rw [succC_tables_first]
        by_cases m : mineL xs z i = p
        · have n1 : ((p : Int) != (mineL xs z i : Int)) = false := by rw [m]; simp
          try simp (disch := first | omega | assumption | exact one_int _ _ | exact one_slice _ _ _ | exact one_ptr _ | exact one_bool _ | exact one_string _) only [RXA, RXB, Nat.reduceAdd, Nat.reduceLT, wrap_id, wrap_succ, wrap_pred, FX1, e2, n1]
          refine next2 () _ _ ⟨rfl, hk2, hg2, fun j hj3 => ?_⟩
          by_cases q : j = p
          · subst q
            rw [if_pos (by omega), fpart_mine m]
            exact hpp
          · have := hj2 j hj3
            by_cases q2 : j < p
            · rw [if_pos q2] at this; rw [if_pos (by omega)]; exact this
            · rw [if_neg q2] at this; rw [if_neg (by omega)]; exact this
        · have n1 : ((p : Int) != (mineL xs z i : Int)) = true := bne_iff_ne.2 fun e => m (by omega)
          have c2 : ((List.range t).map cel)[p]? = some (cel p) := by rw [List.getElem?_map, List.getElem?_range hp]; rfl
          have hcel : cel p = .slice (some ⟨n + 1 + p, 0, none⟩) xs.length xs.length := rfl
          have lt1 : n + 1 + p < n + 1 + t := by omega
          have lt2 : n < n + 1 + t := by omega
          try simp (disch := first | omega | assumption | exact one_int _ _ | exact one_slice _ _ _ | exact one_ptr _ | exact one_bool _ | exact one_string _) only [RXA, RXB, Nat.reduceAdd, Nat.reduceLT, wrap_id, wrap_succ, wrap_pred, FX1, e2, n1, hg2, c2, hcel, e1, hpp, intsV_set, fpart_set hi m, intsV_len, fpart_len]
          refine ⟨hi, .inl (by omega), ?_⟩
          refine next2 () _ _ ⟨rfl, fun b hb => by rw [get_ne _ _ (by omega)]; exact hk2 b hb, by rw [get_ne _ _ (by omega)]; exact hg2, fun j hj3 => ?_⟩
          by_cases q : j = p
          · subst q
            rw [if_pos (by omega), get_eq]
          · rw [get_ne _ _ (by omega)]
            have := hj2 j hj3
            by_cases q2 : j < p
            · rw [if_pos q2] at this; rw [if_pos (by omega)]; exact this
            · rw [if_neg q2] at this; rw [if_neg (by omega)]; exact this
  · rintro fu i _ h' n' hi ⟨rfl, hk, hg, hj⟩ next
    have e2 : ((i : Nat) : Int) < ((t : Nat) : Int) := by omega
    rw [succA_tables_first]
    try simp (disch := first | omega | assumption | exact one_int _ _ | exact one_slice _ _ _ | exact one_ptr _ | exact one_bool _ | exact one_string _) only [RXA, RXB, Nat.reduceAdd, Nat.reduceLT, wrap_id, wrap_succ, wrap_pred, FX1, e2]
    refine Ev.run_make c1x22 xs.length xs.length _ (Nat.le_refl _) (by omega) ?_
    have hg2 : (h'.set (n + 1 + i) (some ⟨3, true, List.replicate xs.length (.int .i64 0)⟩)).get n = some ⟨22, true, rc cel (.slice none 0 0) t i⟩ := by rw [get_ne _ _ (by omega)]; exact hg
    have lt2 : n < n + 1 + i + 1 := by omega
    have rs := rc_set (f := cel) (z := .slice none 0 0) hi
    have hcel : cel i = .slice (some ⟨n + 1 + i, 0, none⟩) xs.length xs.length := rfl
    rw [hcel] at rs
    try simp (disch := first | omega | assumption | exact one_int _ _ | exact one_slice _ _ _ | exact one_ptr _ | exact one_bool _ | exact one_string _) only [RXA, RXB, Nat.reduceAdd, Nat.reduceLT, wrap_id, wrap_succ, wrap_pred, FX1, e2, hg2, rs, rc_len]
    refine ⟨hi, .inl (by omega), ?_⟩
    refine next () _ _ ⟨by omega, fun b hb => by rw [get_ne _ _ (by omega), get_ne _ _ (by omega)]; exact hk b hb, get_eq _ _ _, fun j hj3 => ?_⟩
    rw [get_ne _ _ (by omega)]
    by_cases q : j = i
    · subst q
      rw [get_eq, intsV_rep]
    · rw [get_ne _ _ (by omega)]
      exact hj j (by omega)
end
end Go.Proofs.YtdagfcflbphoiaaDoor
/- Lengths of counts: rounds of halving, by the second form; the statement LensWhole. -/
namespace Go.Proofs.YtdagfcflbphoiaaDoor
set_option linter.unusedVariables false
set_option linter.unusedSimpArgs false
open Go.RowKit Ev Hu

/-- the lengths that rounds of halving come to -/
inductive Rounds : Nat → List Int → List Int → Prop
  | stop (w : List Int) (hW : Ws w) (so : Sorts w (sortD w)) (h : lngL (depF w) 0 ≤ 20) : Rounds 0 w (depF w)
  | next {k : Nat} {w l : List Int} (hW : Ws w) (so : Sorts w (sortD w)) (h : ¬ lngL (depF w) 0 ≤ 20) (r : Rounds k (halvL w) l) : Rounds (k + 1) w l
theorem Rounds.out {k : Nat} {w l : List Int} (r : Rounds k w l) : ∃ w', Ws w' ∧ Sorts w' (sortD w') ∧ lngL (depF w') 0 ≤ 20 ∧ l = depF w' ∧ w'.length = w.length := by
  induction r with
  | stop w hW so h => exact ⟨w, hW, so, h, rfl, rfl⟩
  | next hW so h r ih =>
    obtain ⟨w', h1, h2, h3, h4, h5⟩ := ih
    exact ⟨w', h1, h2, h3, h4, by rw [h5, halvL_len]⟩

/-- weights within a bound -/
structure Wb (ws : List Int) (c : Int) : Prop where
  l2 : 2 ≤ ws.length
  l3 : ws.length ≤ 258
  lo : ∀ x ∈ ws, 1 ≤ x
  hi : ∀ x ∈ ws, x ≤ c
theorem Wb.ws {ws : List Int} {c : Int} (h : Wb ws c) (hc : c ≤ 2199023255552) : Ws ws := ⟨h.l2, h.l3, fun x hx => by have := h.lo x hx; omega, fun x hx => by have := h.hi x hx; omega⟩
theorem Wb.halv {ws : List Int} {c : Int} (h : Wb ws c) (hc : c ≤ 2199023255552) : Wb (halvL ws) (c / 2 + 1) := by
  refine ⟨by rw [halvL_len]; exact h.l2, by rw [halvL_len]; exact h.l3, fun x hx => ?_, fun x hx => ?_⟩
  all_goals
    unfold halvL at hx
    rw [List.mem_map] at hx
    obtain ⟨y, hy, rfl⟩ := hx
    have h1 := h.lo y hy
    have h2 := h.hi y hy
    have hb := halv_bound y (by omega)
    have := hb.2.2 (by omega)
    omega
/-- behind k rounds -/
def cap (k : Nat) : Int := 2 ^ k + 2
theorem cap_next (k : Nat) : cap (k + 1) / 2 + 1 ≤ cap k := by
  unfold cap
  rw [Int.pow_succ]
  omega
theorem cap_le {k : Nat} (h : k ≤ 40) : cap k ≤ 2199023255552 := by
  unfold cap
  have h1 : (2 : Nat) ^ k ≤ 2 ^ 40 := Nat.pow_le_pow_right (by omega) h
  have e : ((2 : Int) ^ k) = (((2 : Nat) ^ k : Nat) : Int) := by simp
  rw [e]
  generalize (2 : Nat) ^ k = z at h1
  omega
theorem Wb.short {ws : List Int} (h : Wb ws 3) (so : Sorts ws (sortD ws)) : lngL (depF ws) 0 ≤ 20 := by
  obtain ⟨w, I, A, B, X, R, dep, D⟩ := (h.ws (by omega)).deps so
  have hN := h.l2
  have hN3 := h.l3
  have hroot := D.m.root
  have hsum : sumI ((List.range ws.length).map w) ≤ ((List.range ws.length).map w).length * 3 := sumI_bound 3 _ (fun x hx => by
    rw [List.mem_map] at hx
    obtain ⟨i, hi, rfl⟩ := hx
    have hi := List.mem_range.1 hi
    rw [D.ww i hi]
    exact h.hi _ (mem_getD hi))
  rw [List.length_map, List.length_range] at hsum
  rw [lngL_le]
  refine ⟨by omega, ?_⟩
  unfold depF
  rw [D.mem]
  intro i hi
  have := D.m.short D.d0 D.d1 hi (by rw [D.ww i hi]; exact h.lo _ (mem_getD hi)) (by omega)
  omega

theorem ofB (lf d : Nat) (hlf : 3000000 ≤ lf) (hd : 300 ≤ d) (x0 x2 x20 x24 x25 x26 x27 : Value) {W : Nat → Prop} {n0 : Nat} :
    ∀ (m fu : Nat) (w : List Int) (h : H) (n : Nat) (x4 : Value), m < fu → m ≤ 40 → Wb w (cap m) → n0 ≤ n → Row h n 3 .i64 x4 w →
      Run W n0 (lpB_lens_Of lf d fu (kcB_lens_Of lf d) x0 x2 (.int .i64 0) x4 x20 x24 x25 x26 x27) h n fun v' h' n' => ∃ v1 l r, v' = .tuple #[v1, .int .i64 0] ∧ Rounds r w l ∧ r ≤ m ∧ Row h' n' 3 .i64 v1 l := by
  intro m
  induction m with
  | zero =>
    intro fu w h n x4 hfu hm hw hn hR
    obtain ⟨fu, rfl⟩ : ∃ f, fu = f + 1 := ⟨fu - 1, by omega⟩
    obtain ⟨e, rfl⟩ : ∃ e, d = e + 1 := ⟨d - 1, by omega⟩
    rw [succB_lens_Of]
    have hW := hw.ws (cap_le hm)
    refine run_call okd (s_depF lf (e + 1) n h x4 w hR hW hlf hd) hn (fun _ _ h => h.elim) fun v1 h1 n1 hn1 fr1 hq => ?_
    obtain ⟨so, hr1, _⟩ := hq
    have hl2 := hW.l2
    have hl3 := hW.l3
    have dl := depF_len (ws := w) (by omega)
    refine run_same (s_Longest lf e n1 h1 v1 _ hr1 (by omega) hlf) (by omega) (fun _ _ h => h.elim) ?_
    have hs := Wb.short hw so
    try simp (disch := first | omega | assumption | exact one_int _ _ | exact one_slice _ _ _ | exact one_ptr _ | exact one_bool _ | exact one_string _) only [RXA, RXB, Nat.reduceAdd, Nat.reduceLT, wrap_id, wrap_succ, wrap_pred, FX1, hs]
    refine run_call okd (s_Clone lf e n1 h1 v1 _ hr1 (by omega) (by omega)) (by omega) (fun _ _ h => h.elim) fun v3 h3 n3 hn3 fr3 q3 => ?_
    rw [kcBa_lens_Of, run_out2]
    exact ⟨v3, _, 0, rfl, .stop w hW so hs, Nat.le_refl _, q3.2.1⟩
  | succ m ih =>
    intro fu w h n x4 hfu hm hw hn hR
    obtain ⟨fu, rfl⟩ : ∃ f, fu = f + 1 := ⟨fu - 1, by omega⟩
    obtain ⟨e, rfl⟩ : ∃ e, d = e + 1 := ⟨d - 1, by omega⟩
    rw [succB_lens_Of]
    have hc := cap_le hm
    have hW := hw.ws hc
    refine run_call okd (s_depF lf (e + 1) n h x4 w hR hW hlf hd) hn (fun _ _ h => h.elim) fun v1 h1 n1 hn1 fr1 hq => ?_
    obtain ⟨so, hr1, _⟩ := hq
    have hl2 := hW.l2
    have hl3 := hW.l3
    have dl := depF_len (ws := w) (by omega)
    refine run_same (s_Longest lf e n1 h1 v1 _ hr1 (by omega) hlf) (by omega) (fun _ _ h => h.elim) ?_
    by_cases hs : lngL (depF w) 0 ≤ 20
    · try simp (disch := first | omega | assumption | exact one_int _ _ | exact one_slice _ _ _ | exact one_ptr _ | exact one_bool _ | exact one_string _) only [RXA, RXB, Nat.reduceAdd, Nat.reduceLT, wrap_id, wrap_succ, wrap_pred, FX1, hs]
      refine run_call okd (s_Clone lf e n1 h1 v1 _ hr1 (by omega) (by omega)) (by omega) (fun _ _ h => h.elim) fun v3 h3 n3 hn3 fr3 q3 => ?_
      rw [kcBa_lens_Of, run_out2]
      exact ⟨v3, _, 0, rfl, .stop w hW so hs, Nat.zero_le _, q3.2.1⟩
    · try simp (disch := first | omega | assumption | exact one_int _ _ | exact one_slice _ _ _ | exact one_ptr _ | exact one_bool _ | exact one_string _) only [RXA, RXB, Nat.reduceAdd, Nat.reduceLT, wrap_id, wrap_succ, wrap_pred, FX1, hs]
      have hR1 := hR.keep hn1 (fun b hb => fr1 b hb id)
      refine run_call okd (s_Halved lf e n1 h1 x4 w hR1 (by omega) (fun x hx => by have := hW.hi x hx; omega) hlf) (by omega) (fun _ _ h => h.elim) fun v3 h3 n3 hn3 fr3 q3 => ?_
      have hw2 := hw.halv hc
      have hw3 : Wb (halvL w) (cap m) := ⟨hw2.l2, hw2.l3, hw2.lo, fun x hx => by have := hw2.hi x hx; have := cap_next m; omega⟩
      refine (ih fu (halvL w) h3 n3 v3 (by omega) (by omega) hw3 (by omega) q3.1).mono ?_
      rintro v' h' n' _ ⟨v4, l, r, rfl, hr, hle, hrow⟩
      exact ⟨v4, l, r + 1, rfl, .next hW so hs hr, by omega, hrow⟩

def cnt1 (x : Int) : Int := if x < 1 then 1 else x
def cntL (xs : List Int) : List Int := xs.map cnt1
theorem cntL_len (xs : List Int) : (cntL xs).length = xs.length := by unfold cntL; simp
theorem cntL_at {xs : List Int} {i : Nat} (h : i < xs.length) : (cntL xs).getD i 0 = cnt1 (xs.getD i 0) := by
  unfold cntL
  rw [List.getD_eq_getElem?_getD, List.getElem?_map, List.getElem?_eq_getElem h, List.getD_eq_getElem?_getD, List.getElem?_eq_getElem h]
  rfl
theorem cnt_wb {xs : List Int} (h2 : 2 ≤ xs.length) (h3 : xs.length ≤ 258) (h : ∀ x ∈ xs, 0 ≤ x ∧ x ≤ 1099511627776) : Wb (cntL xs) (cap 40) := by
  refine ⟨by rw [cntL_len]; exact h2, by rw [cntL_len]; exact h3, fun x hx => ?_, fun x hx => ?_⟩
  all_goals
    unfold cntL at hx
    rw [List.mem_map] at hx
    obtain ⟨y, hy, rfl⟩ := hx
    have := h y hy
    unfold cnt1
  · split <;> omega
  · have : cap 40 = 1099511627778 := rfl
    split <;> omega
theorem ofA (lf d n : Nat) (h : H) (v : Value) (xs : List Int) (hR : Row h n 3 .i64 v xs) (hl : xs.length ≤ 1000000) (x2 x3 x20 : Value) (c : Nat) (hc : xs.length ≤ c) {W : Nat → Prop} {n0 : Nat} (hn0 : n0 ≤ n) {Q : Value → H → Nat → Prop} (k : Ex → Fr → M Value)
    (hK : ∀ h1 y27, Row h1 (n + 1) 3 .i64 (.slice (some ⟨n, 0, none⟩) xs.length c) (cntL xs) → Run W n0 (k (Ex.exit 0) [(0, v), (2, x2), (3, x3), (4, .slice (some ⟨n, 0, none⟩) xs.length c), (20, x20), (24, v), (25, .int .i64 (xs.length : Nat)), (26, .int .i64 (xs.length : Nat)), (27, y27)]) h1 (n + 1) Q) :
    ∀ (m i fu : Nat) (h1 : H), xs.length - i = m → m < fu → i ≤ xs.length → (∀ b, b < n → h1.get b = h.get b) → h1.get n = some ⟨3, true, ints (part (cntL xs) i)⟩ →
      Run W n0 (lpA_lens_Of lf d fu k v x2 x3 (.slice (some ⟨n, 0, none⟩) xs.length c) x20 v (.int .i64 (xs.length : Nat)) (.int .i64 (i : Nat))) h1 (n + 1) Q := by
  intro m
  induction m with
  | zero =>
    intro i fu h1 hm hfu hi hk hg1
    obtain ⟨fu, rfl⟩ : ∃ f, fu = f + 1 := ⟨fu - 1, by omega⟩
    obtain rfl : i = xs.length := by omega
    rw [succA_lens_Of]
    try simp (disch := first | omega | assumption | exact one_int _ _ | exact one_slice _ _ _ | exact one_ptr _ | exact one_bool _ | exact one_string _) only [RXA, RXB, Nat.reduceAdd, Nat.reduceLT, wrap_id, wrap_succ, wrap_pred, FX1, Int.lt_irrefl]
    rw [← cntL_len xs, part_all] at hg1
    refine hK h1 _ (.inr ⟨n, 0, c, true, _, by rw [cntL_len], hg1, Nat.lt_succ_self n, by rw [ints_len]; omega, ?_, by rw [cntL_len]; exact hc⟩)
    rw [List.drop_zero, List.take_of_length_le (by rw [ints_len]; exact Nat.le_refl _)]
    rfl
  | succ m ih =>
    intro i fu h1 hm hfu hi hk hg1
    obtain ⟨fu, rfl⟩ : ∃ f, fu = f + 1 := ⟨fu - 1, by omega⟩
    have hR1 : Row h1 (n + 1) 3 .i64 v xs := hR.keep (Nat.le_succ n) hk
    have hlt := fun b hb => hR.lt (b := b) hb
    obtain ⟨b, off, cap, o, cs, rfl, hg, hb, _, _, _, hat⟩ := hR1.some (by omega)
    have hbn : b < n := hlt b ⟨_, _, _, rfl⟩
    have e1 : ((i : Nat) : Int) < ((xs.length : Nat) : Int) := by omega
    have c1 := hat i (by omega)
    have w1 : ((i : Nat) : Int) + 1 = ((i + 1 : Nat) : Int) := by omega
    have pl : (part (cntL xs) i).length = xs.length := by rw [part_len _ (by rw [cntL_len]; omega), cntL_len]
    have ps : (part (cntL xs) i).set i (if xs.getD i 0 < 1 then 1 else xs.getD i 0) = part (cntL xs) (i + 1) := by
      show (part (cntL xs) i).set i (cnt1 (xs.getD i 0)) = _
      rw [← cntL_at (by omega), part_set (by rw [cntL_len]; omega)]
    rw [succA_lens_Of]
    try simp (disch := first | omega | assumption | exact one_int _ _ | exact one_slice _ _ _ | exact one_ptr _ | exact one_bool _ | exact one_string _) only [RXA, RXB, Nat.reduceAdd, Nat.reduceLT, wrap_id, wrap_succ, wrap_pred, FX1, e1, hg, c1, hg1, ints_set, ints_len, pl, ps]
    refine ⟨by omega, .inl hn0, ?_⟩
    rw [w1]
    exact ih (i + 1) fu _ (by omega) (by omega) (by omega) (fun b hb => by rw [get_ne _ _ (by omega)]; exact hk b hb) (get_eq _ _ _)
theorem s_Of_ok (lf d n : Nat) (h : H) (v : Value) (xs : List Int) (hR : Row h n 3 .i64 v xs) (hl2 : 3 ≤ xs.length) (hl3 : xs.length ≤ 258) (hm : allIn 0 1099511627776 xs = true) (hlf : 3000000 ≤ lf) (hd : 400 ≤ d) :
    Run (fun _ => False) n (evCall2 Tryd.prog gt lf d 39 #[v]) h n fun v' h' n' => ∃ v1 l r, v' = .tuple #[v1, .int .i64 0] ∧ Rounds r (cntL xs) l ∧ r ≤ 40 ∧ Row h' n' 3 .i64 v1 l := by
  obtain ⟨d, rfl⟩ : ∃ e, d = e + 5 := ⟨d - 5, by omega⟩
  have hm' := allIn_iff.1 hm
  rw [sh_lens_Of]
  refine Run.inside_ ?_
  unfold b_lens_Of
  have hR0 := hR
  obtain ⟨a, c, rfl⟩ := hR.len
  have e1 : ¬ ((xs.length : Nat) : Int) < 3 := by omega
  have e2 : ¬ (258 : Int) < ((xs.length : Nat) : Int) := by omega
  try simp (disch := first | omega | assumption | exact one_int _ _ | exact one_slice _ _ _ | exact one_ptr _ | exact one_bool _ | exact one_string _) only [RXA, RXB, Nat.reduceAdd, Nat.reduceLT, wrap_id, wrap_succ, wrap_pred, FX1, e1, e2]
  refine run_bool (s_between lf d n h _ xs hR0 0 1099511627776 (by omega) hlf) (Nat.le_refl _) fun h1 n1 hn1 fr1 => ?_
  have hR1 := hR0.keep hn1 fr1
  rw [hm, u_not, optK_some_eq, Bool.not_true]
  try simp (disch := first | omega | assumption | exact one_int _ _ | exact one_slice _ _ _ | exact one_ptr _ | exact one_bool _ | exact one_string _) only [RXA, RXB, Nat.reduceAdd, Nat.reduceLT, wrap_id, wrap_succ, wrap_pred, FX1]
  refine Ev.run_make c1x22 xs.length xs.length _ (Nat.le_refl _) (by omega) ?_
  try simp (disch := first | omega | assumption | exact one_int _ _ | exact one_slice _ _ _ | exact one_ptr _ | exact one_bool _ | exact one_string _) only [RXA, RXB, Nat.reduceAdd, Nat.reduceLT, wrap_id, wrap_succ, wrap_pred, FX1]
  refine ofA lf (d + 4) n1 h1 _ xs hR1 (by omega) _ _ _ xs.length (Nat.le_refl _) hn1 _ (fun h2 y27 hr2 => ?_) xs.length 0 lf _ (by omega) (by omega) (by omega) (fun b hb => get_ne _ _ (by omega)) ?_
  · rw [kcAa_lens_Of]
    exact ofB lf (d + 4) hlf (by omega) _ _ _ _ _ _ _ 40 lf (cntL xs) h2 (n1 + 1) _ (by omega) (Nat.le_refl _) (cnt_wb (by omega) hl3 hm') (by omega) hr2
  · rw [get_eq, part_0, cntL_len]
    unfold ints
    rw [List.map_replicate]
theorem s_Of_no (lf d n : Nat) (h : H) (v : Value) (xs : List Int) (hR : Row h n 3 .i64 v xs) (hm : xs.length < 3 ∨ 258 < xs.length ∨ allIn 0 1099511627776 xs = false) (hL : xs.length ≤ 9223372036854775807) (hlf : 3000000 ≤ lf) (hd : 400 ≤ d) :
    Run (fun _ => False) n (evCall2 Tryd.prog gt lf d 39 #[v]) h n fun v' h' n' => v' = .tuple #[.slice none 0 0, .int .i64 1] := by
  obtain ⟨d, rfl⟩ : ∃ e, d = e + 5 := ⟨d - 5, by omega⟩
  rw [sh_lens_Of]
  refine Run.inside_ ?_
  unfold b_lens_Of
  have hR0 := hR
  obtain ⟨a, c, rfl⟩ := hR.len
  by_cases c1 : xs.length < 3
  · have e1 : ((xs.length : Nat) : Int) < 3 := by omega
    try simp (disch := first | omega | assumption | exact one_int _ _ | exact one_slice _ _ _ | exact one_ptr _ | exact one_bool _ | exact one_string _) only [RXA, RXB, Nat.reduceAdd, Nat.reduceLT, wrap_id, wrap_succ, wrap_pred, FX1, e1]
  · have e1 : ¬ ((xs.length : Nat) : Int) < 3 := by omega
    by_cases c2 : 258 < xs.length
    · have e2 : (258 : Int) < ((xs.length : Nat) : Int) := by omega
      try simp (disch := first | omega | assumption | exact one_int _ _ | exact one_slice _ _ _ | exact one_ptr _ | exact one_bool _ | exact one_string _) only [RXA, RXB, Nat.reduceAdd, Nat.reduceLT, wrap_id, wrap_succ, wrap_pred, FX1, e1, e2]
    · have e2 : ¬ (258 : Int) < ((xs.length : Nat) : Int) := by omega
      have hm2 : allIn 0 1099511627776 xs = false := by
        rcases hm with q | q | q
        · exact absurd q c1
        · exact absurd q c2
        · exact q
      try simp (disch := first | omega | assumption | exact one_int _ _ | exact one_slice _ _ _ | exact one_ptr _ | exact one_bool _ | exact one_string _) only [RXA, RXB, Nat.reduceAdd, Nat.reduceLT, wrap_id, wrap_succ, wrap_pred, FX1, e1, e2]
      refine run_bool (s_between lf d n h _ xs hR0 0 1099511627776 (by omega) hlf) (Nat.le_refl _) fun h1 n1 hn1 fr1 => ?_
      rw [hm2, u_not, optK_some_eq, Bool.not_false]
      try simp (disch := first | omega | assumption | exact one_int _ _ | exact one_slice _ _ _ | exact one_ptr _ | exact one_bool _ | exact one_string _) only [RXA, RXB, Nat.reduceAdd, Nat.reduceLT, wrap_id, wrap_succ, wrap_pred, FX1]

theorem Rounds.whole {k : Nat} {w l : List Int} (r : Rounds k w l) : l.length = w.length ∧ allIn 1 20 l = true ∧ shrL l = 1048576 := by
  obtain ⟨w', hW, so, h, rfl, hl⟩ := r.out
  obtain ⟨wf, I, A, B, X, R, dep, D⟩ := hW.deps so
  have hl2 := hW.l2
  rw [lngL_le] at h
  refine ⟨by rw [depF_len (by omega), hl], allIn_iff.2 fun x hx => ⟨?_, h.2 x hx⟩, ?_⟩
  · revert x
    unfold depF
    rw [D.mem]
    intro i hi
    have := D.ge1 hi
    omega
  · unfold depF at h ⊢
    exact D.share h.2
end Go.Proofs.YtdagfcflbphoiaaDoor
/- The reference's trees: which is less, the least one, all but one; by the second form. -/
namespace Go.Proofs.YtdagfcflbphoiaaDoor
set_option linter.unusedVariables false
set_option linter.unusedSimpArgs false
open Go.RowKit Ev Hu

end Go.Proofs.YtdagfcflbphoiaaDoor
/- The reference's merging, as plain lists: it takes what the program takes. No program in sight. -/
namespace Go.Proofs.YtdagfcflbphoiaaDoor
set_option linter.unusedVariables false
set_option linter.unusedSimpArgs false
open Ev Hu

def incAll (out : List Int) : List Nat → List Int
  | [] => out
  | i :: ls => incAll (out.set i (out.getD i 0 + 1)) ls
theorem inc_len : ∀ (ls : List Nat) (out : List Int), (incAll out ls).length = out.length
  | [], _ => rfl
  | i :: ls, out => by unfold incAll; rw [inc_len ls]; simp
theorem inc_at : ∀ (ls : List Nat) (out : List Int), ls.Nodup → (∀ i ∈ ls, i < out.length) → ∀ j, (incAll out ls).getD j 0 = out.getD j 0 + if j ∈ ls then 1 else 0
  | [], out, _, _, j => by simp [incAll]
  | i :: ls, out, hn, hl, j => by
    rw [List.nodup_cons] at hn
    have hi := hl i (by simp)
    unfold incAll
    rw [inc_at ls _ hn.2 (fun k hk => by rw [List.length_set]; exact hl k (by simp [hk])), getD_setI]
    by_cases e : i = j
    · subst e
      rw [if_pos ⟨rfl, hi⟩, if_neg hn.1, if_pos (by simp)]
      omega
    · rw [if_neg (fun q => e q.1)]
      have : (j ∈ i :: ls) ↔ j ∈ ls := by simp [Ne.symm e]
      simp only [this]
theorem erase_perm {α : Type} : ∀ {l : List α} {i : Nat} (h : i < l.length), l.Perm (l[i] :: l.eraseIdx i)
  | x :: l, 0, _ => List.Perm.refl _
  | x :: l, i + 1, h => by
    have h' : i < l.length := by simpa using h
    have := erase_perm h'
    simp only [List.getElem_cons_succ, List.eraseIdx_cons_succ]
    exact (this.cons x).trans (List.Perm.swap _ _ _)
/-- the numbers of the trees that wait, in order; their leaves; the depths so far -/
structure PInv (N : Nat) (dep : Nat → Nat) (X : Nat → List Nat) (k : Nat) (nums : List Nat) (lf : Nat → List Nat) (out : List Int) : Prop where
  srt : nums.Pairwise (· < ·)
  prm : nums.Perm (X k)
  len : out.length = N
  lv : ∀ t ∈ nums, ∀ i ∈ lf t, i < N ∧ out.getD i 0 + dep t = dep i
  cov : (nums.flatMap lf).Perm (List.range N)
  pos : ∀ i, 0 ≤ out.getD i 0
section
variable {N : Nat} {w : Nat → Int} {I A B : Nat → Nat} {X R : Nat → List Nat} {dep : Nat → Nat}
theorem PInv.next (m : Merge N w I A B X R) (d1 : ∀ i, i < 2 * N - 2 → dep i = dep (I i) + 1) {k : Nat} (hk : k + 2 ≤ N) {nums : List Nat} {lf : Nat → List Nat} {out : List Int} (p : PInv N dep X k nums lf out) {a b : Nat} (ha : a < nums.length) (hb : b < (nums.eraseIdx a).length) (ea : nums[a] = A k) (eb : (nums.eraseIdx a)[b] = B k) :
    PInv N dep X (k + 1) ((nums.eraseIdx a).eraseIdx b ++ [N + k]) (fun t => if t = N + k then lf (A k) ++ lf (B k) else lf t) (incAll out (lf (A k) ++ lf (B k))) ∧ (lf (A k) ++ lf (B k)).Nodup ∧ (∀ i ∈ lf (A k) ++ lf (B k), i < N) := by
  have q1 := erase_perm ha
  have q2 := erase_perm hb
  rw [ea] at q1
  rw [eb] at q2
  have q3 : nums.Perm (A k :: B k :: (nums.eraseIdx a).eraseIdx b) := q1.trans (q2.cons _)
  have hR : ((nums.eraseIdx a).eraseIdx b).Perm (R k) := ((q3.symm.trans p.prm).trans (m.st k hk)).cons_inv.cons_inv
  have hlt : ∀ t ∈ nums, t < N + k := fun t ht => m.lt (by omega) (p.prm.mem_iff.1 ht)
  obtain ⟨S, hS⟩ : ∃ S, (nums.eraseIdx a).eraseIdx b = S := ⟨_, rfl⟩
  rw [hS] at q3 hR ⊢
  have sub : ∀ t ∈ S, t ∈ nums := fun t ht => q3.mem_iff.2 (by simp [ht])
  have mA : A k ∈ nums := q3.mem_iff.2 (by simp)
  have mB : B k ∈ nums := q3.mem_iff.2 (by simp)
  have cv := (q3.flatMap_right lf).symm.trans p.cov
  simp only [List.flatMap_cons] at cv
  have nd : ((lf (A k) ++ lf (B k)) ++ S.flatMap lf).Nodup := by
    rw [List.append_assoc]
    exact cv.nodup_iff.2 List.nodup_range
  have nd1 := (List.nodup_append.1 nd).1
  have dis : ∀ t ∈ S, ∀ i ∈ lf t, i ∉ lf (A k) ++ lf (B k) := fun t ht i hi hc => (List.nodup_append.1 nd).2.2 i hc i (List.mem_flatMap.2 ⟨t, ht, hi⟩) rfl
  have il : ∀ i ∈ lf (A k) ++ lf (B k), i < N := fun i hi => by
    rcases List.mem_append.1 hi with q | q
    · exact (p.lv _ mA i q).1
    · exact (p.lv _ mB i q).1
  have ia := inc_at (lf (A k) ++ lf (B k)) out nd1 (fun i hi => by rw [p.len]; exact il i hi)
  obtain ⟨dA, dB⟩ := m.dep_ab d1 hk
  refine ⟨⟨?_, ?_, by rw [inc_len, p.len], fun t ht i hi => ?_, ?_, fun i => ?_⟩, nd1, il⟩
  · rw [List.pairwise_append]
    refine ⟨?_, by simp, fun x hx y hy => by rw [List.mem_singleton.1 hy]; exact hlt x (sub x hx)⟩
    rw [← hS]
    exact (p.srt.sublist (List.eraseIdx_sublist _ _)).sublist (List.eraseIdx_sublist _ _)
  · exact ((List.perm_append_singleton _ _).trans (hR.cons _)).trans (m.nx k hk).symm
  · rcases List.mem_append.1 ht with q | q
    · have hne : t ≠ N + k := fun e => by have := hlt t (sub t q); omega
      simp only [if_neg hne] at hi
      have := p.lv t (sub t q) i hi
      rw [ia, if_neg (dis t q i hi)]
      omega
    · obtain rfl := List.mem_singleton.1 q
      simp only [if_true] at hi
      refine ⟨il i hi, ?_⟩
      rw [ia, if_pos hi]
      rcases List.mem_append.1 hi with q | q
      · have := (p.lv _ mA i q).2; omega
      · have := (p.lv _ mB i q).2; omega
  · rw [List.flatMap_append]
    have e1 : S.flatMap (fun t => if t = N + k then lf (A k) ++ lf (B k) else lf t) = S.flatMap lf := by
      have : ∀ L : List Nat, (∀ t ∈ L, t < N + k) → L.flatMap (fun t => if t = N + k then lf (A k) ++ lf (B k) else lf t) = L.flatMap lf := by
        intro L
        induction L with
        | nil => intro _; rfl
        | cons t L ih =>
          intro h
          have := h t (by simp)
          rw [List.flatMap_cons, List.flatMap_cons, ih (fun s hs => h s (by simp [hs])), if_neg (by omega)]
      exact this S fun t ht => hlt t (sub t ht)
    rw [e1]
    simp only [List.flatMap_cons, List.flatMap_nil, if_true, List.append_nil]
    refine List.perm_append_comm.trans ?_
    rw [List.append_assoc]
    exact cv
  · rw [ia]
    have := p.pos i
    split <;> omega
theorem PInv.last (m : Merge N w I A B X R) (d0 : dep (2 * N - 2) = 0) {nums : List Nat} {lf : Nat → List Nat} {out : List Int} (p : PInv N dep X (N - 1) nums lf out) : out = (List.range N).map fun i => (dep i : Int) := by
  have hx := p.prm
  rw [m.last] at hx
  have hn := List.perm_singleton.1 hx
  subst hn
  have hc := p.cov
  simp only [List.flatMap_cons, List.flatMap_nil, List.append_nil] at hc
  apply List.ext_getElem
  · rw [p.len]; simp
  · intro i h1 h2
    have hi : i < N := by rw [p.len] at h1; exact h1
    have := (p.lv (2 * N - 2) (by simp) i (hc.mem_iff.2 (List.mem_range.2 hi))).2
    rw [d0, List.getD_eq_getElem?_getD, List.getElem?_eq_getElem h1] at this
    simp only [Option.getD_some] at this
    simp only [List.getElem_map, List.getElem_range]
    omega
end
end Go.Proofs.YtdagfcflbphoiaaDoor
/- The reference's depths, by the second form: they are the program's. -/
namespace Go.Proofs.YtdagfcflbphoiaaDoor
set_option linter.unusedVariables false
set_option linter.unusedSimpArgs false
open Go.RowKit Ev Hu

end Go.Proofs.YtdagfcflbphoiaaDoor
/- One round of the reference's depths, in two parts: a tree is taken; two are joined. -/
namespace Go.Proofs.YtdagfcflbphoiaaDoor
set_option linter.unusedVariables false
set_option linter.unusedSimpArgs false
open Go.RowKit Ev Hu

end Go.Proofs.YtdagfcflbphoiaaDoor
/- One round of the reference's depths: two trees are joined. -/
namespace Go.Proofs.YtdagfcflbphoiaaDoor
set_option linter.unusedVariables false
set_option linter.unusedSimpArgs false
open Go.RowKit Ev Hu

end Go.Proofs.YtdagfcflbphoiaaDoor
/- The reference's depths whole: they are the program's. -/
namespace Go.Proofs.YtdagfcflbphoiaaDoor
set_option linter.unusedVariables false
set_option linter.unusedSimpArgs false
open Go.RowKit Ev Hu

end Go.Proofs.YtdagfcflbphoiaaDoor
/- The reference's halving and lengths; the statements LensDepths and LensOf. -/
namespace Go.Proofs.YtdagfcflbphoiaaDoor
set_option linter.unusedVariables false
set_option linter.unusedSimpArgs false
open Go.RowKit Ev Hu

end Go.Proofs.YtdagfcflbphoiaaDoor
/- Layer 12 by the second form: a round. -/
namespace Go.Proofs.YtdagfcflbphoiaaDoor
set_option linter.unusedVariables false
set_option linter.unusedSimpArgs false
open Go.RowKit Ev Tb

theorem Rounds.det {r : Nat} {w l : List Int} (x : Rounds r w l) : ∀ {r' : Nat} {l' : List Int}, Rounds r' w l' → l = l' := by
  induction x with
  | stop w hW so hs =>
    intro r' l' y
    cases y with
    | stop => rfl
    | next _ _ hn _ => exact absurd hs hn
  | next hW so hs hr ih =>
    intro r' l' y
    cases y with
    | stop _ _ _ hn => exact absurd hn hs
    | next _ _ _ hr2 => exact ih hr2
/-- the lengths of counts -/
noncomputable def tbl (c : List Int) : List Int := Classical.epsilon fun l => ∃ r, Rounds r (cntL c) l ∧ r ≤ 40
theorem tbl_of {c l : List Int} {r : Nat} (h : Rounds r (cntL c) l) (hr : r ≤ 40) : l = tbl c := by
  obtain ⟨r', h', _⟩ := Classical.epsilon_spec (p := fun l => ∃ r, Rounds r (cntL c) l ∧ r ≤ 40) ⟨l, r, h, hr⟩
  exact h.det h'
section
variable (lf d n : Nat) (h : H) (hlf : 3000000 ≤ lf)
include hlf
theorem s_tbl (v : Value) (c : List Int) (hR : Row h n 3 .i64 v c) (h3 : 3 ≤ c.length) (h258 : c.length ≤ 258) (hm : allIn 0 1099511627776 c = true) (hd : 400 ≤ d) :
    Run (fun _ => False) n (evCall2 Tryd.prog gt lf d 39 #[v]) h n fun v' h' n' => ∃ v1, v' = .tuple #[v1, .int .i64 0] ∧ Row h' n' 3 .i64 v1 (tbl c) := by
  refine (s_Of_ok lf d n h v c hR h3 h258 hm hlf hd).mono ?_
  rintro v' h' n' _ ⟨v1, l, r, rfl, hr, hr2, hrow⟩
  rw [tbl_of hr hr2] at hrow
  exact ⟨v1, rfl, hrow⟩
end
section
variable (lf d n : Nat) (h : H) (hlf : 3000000 ≤ lf)
include hlf
end
end Go.Proofs.YtdagfcflbphoiaaDoor
/- Layer 12 by the second form: the choice. -/
namespace Go.Proofs.YtdagfcflbphoiaaDoor
set_option linter.unusedVariables false
set_option linter.unusedSimpArgs false
open Go.RowKit Ev Tb

section
variable (lf d n : Nat) (h : H) (hlf : 3000000 ≤ lf)
include hlf
end
end Go.Proofs.YtdagfcflbphoiaaDoor
/- Rows last where blocks of their elements do. No program in sight. -/
namespace Go.Proofs.YtdagfcflbphoiaaDoor.Ev
set_option linter.unusedVariables false
set_option linter.unusedSimpArgs false
open Go Go.RowKit
section
variable {h h' : H} {n n' : Nat} {e es ei : TypeId} {v : Value} {cs : List Value} {xss : List (List Int)}
theorem VRow.elem (r : VRow h n e v cs) {b : Nat} (hb : InBlk v b) : ∃ B, h.get b = Option.some B ∧ B.elem = e := by
  rcases r with ⟨a, c, rfl, hne, _⟩ | ⟨c, off, cap, o, ks, rfl, hg, _⟩
  · obtain ⟨o, l, k, q⟩ := hb
    cases q
    exact absurd rfl (hne b o)
  · rw [hb.inj]; exact ⟨_, hg, rfl⟩
end
end Go.Proofs.YtdagfcflbphoiaaDoor.Ev
/- Layer 12 by the second form: the reference's tables at first, and its choice. -/
namespace Go.Proofs.YtdagfcflbphoiaaDoor
set_option linter.unusedVariables false
set_option linter.unusedSimpArgs false
open Go.RowKit Ev Tb

def clampI (z q : Int) : Int := if z - 1 < q then z - 1 else q
theorem firstT_next {xs : List Int} {z : Int} {p i : Nat} (hi : i < xs.length) : intsV .i64 ((firstT xs z p).take (i + 1)) = intsV .i64 ((firstT xs z p).take i) ++ [.int .i64 (if mineL xs z i = p then 0 else 15)] := by
  rw [List.take_succ_eq_append_getElem (by rw [firstT_len]; exact hi)]
  unfold intsV firstT
  rw [List.map_append]
  simp
section
variable (lf d n : Nat) (h : H) (hlf : 3000000 ≤ lf)
include hlf
set_option maxHeartbeats 1000000 in
theorem r_First (v : Value) (xs : List Int) (z : Int) (hR : Row h n 3 .i64 v xs) (hl : xs.length ≤ 258) (hx : ∀ x ∈ xs, 0 ≤ x ∧ x ≤ 1099511627776) (hz : 1 ≤ z) (hz2 : z ≤ 1099511627776) :
    Run (fun _ => False) n (evCall2 Tryd.prog gt lf (d + 2) 23 #[v, .int .i64 z]) h n fun v' h' n' => RR h' n' 22 3 v' (firstL xs z) := by
  rw [sh_balerref12_First]
  refine Run.inside_ ?_
  unfold b_balerref12_First
  have hR0 := hR
  obtain ⟨a, c, rfl⟩ := hR.len
  refine run_same (r_Number lf d n h z) (Nat.le_refl _) (fun _ _ h => h.elim) ?_
  have ht := numL_ge z
  obtain ⟨t, htt⟩ : ∃ t, numL z = t := ⟨_, rfl⟩
  rw [htt] at ht ⊢
  refine run_for t (fun fu i (q : Value) => lpA_balerref12_First lf (d + 1) fu (kcA_balerref12_First lf (d + 1)) (.slice a xs.length c) (.int .i64 z) (.slice none 0 0) (.int .i64 (t : Nat)) q (.int .i64 (t : Nat)) (.int .i64 (i : Nat)))
    (fun i q h' n' => n ≤ n' ∧ (∀ b, b < n → h'.get b = h.get b) ∧ OwnRR h' n n' n' 22 3 q ((List.range i).map (firstT xs z))) ?_ ?_ lf 0 _ _ _ (Nat.zero_le _) (by omega) ⟨Nat.le_refl _, fun _ _ => rfl, OwnRR.nil _ _ _ _ _ _⟩
  · rintro fu q h' n' ⟨hn, hk, hO⟩
    rw [succA_balerref12_First]
    try simp (disch := first | omega | assumption | exact one_int _ _ | exact one_slice _ _ _ | exact one_ptr _ | exact one_bool _ | exact one_string _) only [RXA, RXB, Nat.reduceAdd, Nat.reduceLT, wrap_id, wrap_succ, wrap_pred, FX1, Int.lt_irrefl]
    rw [kcAa_balerref12_First]
    try simp (disch := first | omega | assumption | exact one_int _ _ | exact one_slice _ _ _ | exact one_ptr _ | exact one_bool _ | exact one_string _) only [RXA, RXB, Nat.reduceAdd, Nat.reduceLT, wrap_id, wrap_succ, wrap_pred, FX1]
    have := hO.rr
    unfold firstL
    rw [htt]
    exact this
  · rintro fu i q h1 n1 hi ⟨hn, hk, hO⟩ next
    have e1 : ((i : Nat) : Int) < ((t : Nat) : Int) := by omega
    rw [succA_balerref12_First]
    try simp (disch := first | omega | assumption | exact one_int _ _ | exact one_slice _ _ _ | exact one_ptr _ | exact one_bool _ | exact one_string _) only [RXA, RXB, Nat.reduceAdd, Nat.reduceLT, wrap_id, wrap_succ, wrap_pred, FX1, e1]
    refine run_for xs.length (fun f2 j (w : Value × Int) => lpB_balerref12_First lf (d + 1) f2 (kcB_balerref12_First lf (d + 1) fu (kcA_balerref12_First lf (d + 1))) (.slice a xs.length c) (.int .i64 z) (.slice none 0 0) (.int .i64 (t : Nat)) q (.int .i64 (i : Nat)) w.1 (.int .i64 w.2) (.int .i64 (t : Nat)) (.int .i64 (i : Nat)) _ (.slice a xs.length c) (.int .i64 (xs.length : Nat)) (.int .i64 (j : Nat)))
      (fun j w h' n' => n1 ≤ n' ∧ (∀ b, b < n1 → h'.get b = h1.get b) ∧ Own h' n1 n' 3 w.1 (intsV .i64 ((firstT xs z i).take j)) ∧ clampI z w.2 = belowL xs z j ∧ 0 ≤ w.2 ∧ w.2 ≤ 2199023255552) ?_ ?_ lf 0 (.slice none 0 0, 0) _ _ (Nat.zero_le _) (by omega) ⟨Nat.le_refl _, fun _ _ => rfl, Own.nil _ _ _ _, by unfold clampI belowL; simp only [List.take_zero, sumI], by omega, by omega⟩
    · rintro f2 ⟨w, q2⟩ h' n' ⟨hn', hk', hO', _, _⟩
      simp only at hO'
      rw [succB_balerref12_First]
      try simp (disch := first | omega | assumption | exact one_int _ _ | exact one_slice _ _ _ | exact one_ptr _ | exact one_bool _ | exact one_string _) only [RXA, RXB, Nat.reduceAdd, Nat.reduceLT, wrap_id, wrap_succ, wrap_pred, FX1, Int.lt_irrefl]
      rw [kcBa_balerref12_First]
      rw [List.take_of_length_le (by rw [firstT_len]; exact Nat.le_refl _)] at hO'
      have hO1 := (hO.keep hn' fun b hb _ => hk' b hb).up hn'
      refine run_pushRR c1x23 (by decide) hO1 hO'.row (Nat.le_refl _) (by simp; omega) (Nat.le_refl _) (by omega) _ fun v2 h2 o2 k2 _ => ?_
      try simp (disch := first | omega | assumption | exact one_int _ _ | exact one_slice _ _ _ | exact one_ptr _ | exact one_bool _ | exact one_string _) only [RXA, RXB, Nat.reduceAdd, Nat.reduceLT, wrap_id, wrap_succ, wrap_pred, FX1]
      refine next v2 h2 (n' + 2) ⟨by omega, fun b hb => ?_, ?_⟩
      · rw [k2 b (by omega) fun q => by have := (hO1.lt q).1; omega, hk' b (by omega)]
        exact hk b hb
      · rw [List.range_succ, List.map_append]
        exact o2.up (by omega)
    · rintro f2 j ⟨w, q2⟩ h' n' hj ⟨hn', hk', hO', hq, hq0, hq1⟩ next2
      simp only at hO' hq hq0 hq1
      obtain ⟨b, off, cap, o, cs, hv, hgx, hb, _, _, _, hat⟩ := (hR0.keep (show n ≤ n' by omega) (fun b hb => (hk' b (by omega)).trans (hk b hb))).some (by omega)
      cases hv
      have e2 : ((j : Nat) : Int) < ((xs.length : Nat) : Int) := by omega
      have c1 := hat j hj
      obtain ⟨g0, g1⟩ := belowL_ge (fun x hx' => (hx x hx').1) hz (v := j)
      have g2 := mineL_eq (fun x hx' => (hx x hx').1) hz j
      rw [htt] at g2
      have g4 : 0 ≤ belowL xs z j * (t : Int) := Int.mul_nonneg g0 (by omega)
      have g5 : belowL xs z j * (t : Int) ≤ 1099511627776 * 6 := Int.mul_le_mul (by omega) (by omega) (by omega) (by omega)
      have w1 : IntKind.i64.wrap (belowL xs z j * (t : Int)) = belowL xs z j * (t : Int) := wrap_id (by omega) (by omega)
      have g6 : (mineL xs z j : Int) ≤ 1099511627776 * 6 := by
        have := Int.ediv_le_self z g4
        have h2 : (belowL xs z j * (t : Int)) / z = (mineL xs z j : Int) := by rw [← g2, Int.tdiv_eq_ediv_of_nonneg g4]
        omega
      have w2 : IntKind.i64.wrap (mineL xs z j : Int) = (mineL xs z j : Int) := wrap_id (by omega) (by omega)
      have z0 : z ≠ 0 := by omega
      have xb := hx _ (gd_mem hj)
      have w3 : IntKind.i64.wrap (belowL xs z j + xs.getD j 0) = belowL xs z j + xs.getD j 0 := wrap_id (by omega) (by omega)
      have w4 : IntKind.i64.wrap (z - 1) = z - 1 := wrap_id (by omega) (by omega)
      have bn := belowL_next (fun x hx' => (hx x hx').1) (n := z) hj
      have fn := firstT_next (z := z) (p := i) hj
      have hlen : (intsV .i64 ((firstT xs z i).take j)).length + 1 ≤ 1099511627776 := by rw [intsV_len, List.length_take, firstT_len]; omega
      have hll : (intsV .i64 ((firstT xs z i).take j)).length = j := by rw [intsV_len, List.length_take, firstT_len]; omega
      have fin : ∀ h2, h2.get (n' + 1) = some ⟨3, true, intsV .i64 ((firstT xs z i).take j) ++ [.int .i64 (if mineL xs z j = i then 0 else 15)]⟩ → (∀ b, b < n' → ¬ InBlk w b → h2.get b = h'.get b) →
          Run (fun _ => False) n (lpB_balerref12_First lf (d + 1) f2 (kcB_balerref12_First lf (d + 1) fu (kcA_balerref12_First lf (d + 1))) (.slice (some ⟨b, off, none⟩) xs.length c) (.int .i64 z) (.slice none 0 0) (.int .i64 (t : Nat)) q (.int .i64 (i : Nat)) (.slice (some ⟨n' + 1, 0, none⟩) (j + 1) (CAP + (j + 1))) (.int .i64 (belowL xs z j + xs.getD j 0)) (.int .i64 (t : Nat)) (.int .i64 (i : Nat)) (.bool true) (.slice (some ⟨b, off, none⟩) xs.length c) (.int .i64 (xs.length : Nat)) (.int .i64 ((j + 1 : Nat) : Int))) h2 (n' + 2) fun v' h' n' => RR h' n' 22 3 v' (firstL xs z) := by
        intro h2 hg2 hk2
        rw [← fn] at hg2
        refine next2 (_, belowL xs z j + xs.getD j 0) h2 (n' + 2) ⟨by omega, fun b hb => ?_, Own.mk' hg2 (by omega) (by omega) (by rw [intsV_len, List.length_take, firstT_len]; omega), ?_, by simp only; omega, by simp only; omega⟩
        · rw [hk2 b (by omega) fun q => by have := (hO'.lt q).1; omega]
          exact hk' b hb
        · exact bn
      have cases2 : ∀ (kk : Value → M Value), (∀ h2, h2.get (n' + 1) = some ⟨3, true, intsV .i64 ((firstT xs z i).take j) ++ [.int .i64 (if mineL xs z j = i then 0 else 15)]⟩ → (∀ b, b < n' → ¬ InBlk w b → h2.get b = h'.get b) → Run (fun _ => False) n (kk (.slice (some ⟨n' + 1, 0, none⟩) (j + 1) (CAP + (j + 1)))) h2 (n' + 2) fun v' h' n' => RR h' n' 22 3 v' (firstL xs z)) →
          Run (fun _ => False) n ((inside (evBuildSlice Tryd.prog 22 1 [(0, .int .i64 (if mineL xs z j = i then 0 else 15))])).bind fun u => (inside (evAppend Tryd.prog 22 w u)).bind kk) h' n' fun v' h' n' => RR h' n' 22 3 v' (firstL xs z) := by
        intro kk hkk
        refine run_pushO c1x22 (one_int _ _) hO' hlen (by omega) _ fun h2 hg2 hk2 => ?_
        rw [hll]
        exact hkk h2 hg2 hk2
      rw [succB_balerref12_First]
      by_cases cl : z - 1 < q2
      · have hq' : z - 1 = belowL xs z j := by rw [← hq]; unfold clampI; rw [if_pos cl]
        rw [← hq'] at w1 g2 w3 fin
        by_cases m : mineL xs z j = i
        · have n1 : ((mineL xs z j : Int) == (i : Int)) = true := by rw [m]; simp
          rw [if_pos m] at cases2 fin
          try simp (disch := first | omega | assumption | exact one_int _ _ | exact one_slice _ _ _ | exact one_ptr _ | exact one_bool _ | exact one_string _) only [RXA, RXB, Nat.reduceAdd, Nat.reduceLT, wrap_id, wrap_succ, wrap_pred, FX1, e2, hgx, c1, w4, cl, w1, z0, g2, w2, n1]
          refine cases2 _ fun h2 hg2 hk2 => ?_
          try simp (disch := first | omega | assumption | exact one_int _ _ | exact one_slice _ _ _ | exact one_ptr _ | exact one_bool _ | exact one_string _) only [RXA, RXB, Nat.reduceAdd, Nat.reduceLT, wrap_id, wrap_succ, wrap_pred, FX1, w3]
          exact fin h2 hg2 hk2
        · have n1 : ((mineL xs z j : Int) == (i : Int)) = false := beq_eq_false_iff_ne.2 fun e => m (by omega)
          rw [if_neg m] at cases2 fin
          try simp (disch := first | omega | assumption | exact one_int _ _ | exact one_slice _ _ _ | exact one_ptr _ | exact one_bool _ | exact one_string _) only [RXA, RXB, Nat.reduceAdd, Nat.reduceLT, wrap_id, wrap_succ, wrap_pred, FX1, e2, hgx, c1, w4, cl, w1, z0, g2, w2, n1]
          refine cases2 _ fun h2 hg2 hk2 => ?_
          try simp (disch := first | omega | assumption | exact one_int _ _ | exact one_slice _ _ _ | exact one_ptr _ | exact one_bool _ | exact one_string _) only [RXA, RXB, Nat.reduceAdd, Nat.reduceLT, wrap_id, wrap_succ, wrap_pred, FX1, w3]
          exact fin h2 hg2 hk2
      · have hq' : q2 = belowL xs z j := by rw [← hq]; unfold clampI; rw [if_neg cl]
        rw [← hq'] at w1 g2 w3 fin
        by_cases m : mineL xs z j = i
        · have n1 : ((mineL xs z j : Int) == (i : Int)) = true := by rw [m]; simp
          rw [if_pos m] at cases2 fin
          try simp (disch := first | omega | assumption | exact one_int _ _ | exact one_slice _ _ _ | exact one_ptr _ | exact one_bool _ | exact one_string _) only [RXA, RXB, Nat.reduceAdd, Nat.reduceLT, wrap_id, wrap_succ, wrap_pred, FX1, e2, hgx, c1, w4, cl, w1, z0, g2, w2, n1]
          refine cases2 _ fun h2 hg2 hk2 => ?_
          try simp (disch := first | omega | assumption | exact one_int _ _ | exact one_slice _ _ _ | exact one_ptr _ | exact one_bool _ | exact one_string _) only [RXA, RXB, Nat.reduceAdd, Nat.reduceLT, wrap_id, wrap_succ, wrap_pred, FX1, w3]
          exact fin h2 hg2 hk2
        · have n1 : ((mineL xs z j : Int) == (i : Int)) = false := beq_eq_false_iff_ne.2 fun e => m (by omega)
          rw [if_neg m] at cases2 fin
          try simp (disch := first | omega | assumption | exact one_int _ _ | exact one_slice _ _ _ | exact one_ptr _ | exact one_bool _ | exact one_string _) only [RXA, RXB, Nat.reduceAdd, Nat.reduceLT, wrap_id, wrap_succ, wrap_pred, FX1, e2, hgx, c1, w4, cl, w1, z0, g2, w2, n1]
          refine cases2 _ fun h2 hg2 hk2 => ?_
          try simp (disch := first | omega | assumption | exact one_int _ _ | exact one_slice _ _ _ | exact one_ptr _ | exact one_bool _ | exact one_string _) only [RXA, RXB, Nat.reduceAdd, Nat.reduceLT, wrap_id, wrap_succ, wrap_pred, FX1, w3]
          exact fin h2 hg2 hk2
end
end Go.Proofs.YtdagfcflbphoiaaDoor
/- Layer 12 by the second form: the reference's choice. -/
namespace Go.Proofs.YtdagfcflbphoiaaDoor
set_option linter.unusedVariables false
set_option linter.unusedSimpArgs false
open Go.RowKit Ev Tb

section
variable (lf d n : Nat) (h : H) (hlf : 3000000 ≤ lf)
include hlf
end
end Go.Proofs.YtdagfcflbphoiaaDoor
/- Layer 12 by the second form: which choices are the same. -/
namespace Go.Proofs.YtdagfcflbphoiaaDoor
set_option linter.unusedVariables false
set_option linter.unusedSimpArgs false
open Go.RowKit Ev Tb

theorem drop_same {α : Type} [DecidableEq α] (d : α) {xs ys : List α} (hl : xs.length = ys.length) {i : Nat} (hi : i < xs.length) : decide (xs.drop i = ys.drop i) = (decide (xs.getD i d = ys.getD i d) && decide (xs.drop (i + 1) = ys.drop (i + 1))) := by
  rw [drop_next d hi, drop_next d (show i < ys.length by omega)]
  by_cases h1 : xs.getD i d = ys.getD i d
  · rw [h1, decide_eq_true rfl, Bool.true_and]
    simp only [List.cons.injEq, true_and]
  · rw [decide_eq_false h1, Bool.false_and]
    exact decide_eq_false fun q => h1 (List.cons.inj q).1
theorem drop_all {α : Type} [DecidableEq α] {xs ys : List α} (hl : xs.length = ys.length) : decide (xs.drop xs.length = ys.drop xs.length) = true := by
  rw [List.drop_length, hl, List.drop_length]
  exact decide_eq_true rfl
section
variable (lf d n : Nat) (h : H)
theorem r_Ints (v u : Value) (xs ys : List Int) (hR : Row h n 3 .i64 v xs) (hS : Row h n 3 .i64 u ys) (hl : xs.length < lf) (hm : xs.length ≤ 9223372036854775807) :
    Run (fun _ => False) n (evCall2 Tryd.prog gt lf (d + 1) 28 #[v, u]) h n fun v' h' n' => v' = .bool (decide (xs = ys)) ∧ h' = h ∧ n' = n := by
  rw [sh_balerplain_Ints]
  refine Run.inside_ ?_
  unfold b_balerplain_Ints
  have hR0 := hR
  have hS0 := hS
  obtain ⟨a, c, rfl⟩ := hR.len
  obtain ⟨a2, c2, rfl⟩ := hS.len
  by_cases hxy : xs.length = ys.length
  · have n1 : (((xs.length : Nat) : Int) != ((ys.length : Nat) : Int)) = false := by rw [hxy]; simp
    try simp (disch := first | omega | assumption | exact one_int _ _ | exact one_slice _ _ _ | exact one_ptr _ | exact one_bool _ | exact one_string _) only [RXA, RXB, Nat.reduceAdd, Nat.reduceLT, wrap_id, wrap_succ, wrap_pred, FX1, n1]
    refine run_for xs.length (fun fu i (_ : Unit) => lpA_balerplain_Ints lf d fu (kcA_balerplain_Ints lf d) (.slice a xs.length c) (.slice a2 ys.length c2) _ _ (.int .i64 (xs.length : Nat)) (.int .i64 (i : Nat))) (fun i _ h' n' => (h' = h ∧ n' = n) ∧ decide (xs = ys) = decide (xs.drop i = ys.drop i)) ?_ ?_ lf 0 () h n (Nat.zero_le _) (by omega) ⟨⟨rfl, rfl⟩, rfl⟩
    · rintro fu _ h' n' ⟨⟨rfl, rfl⟩, e⟩
      rw [succA_balerplain_Ints, e, drop_all hxy]
      try simp (disch := first | omega | assumption | exact one_int _ _ | exact one_slice _ _ _ | exact one_ptr _ | exact one_bool _ | exact one_string _) only [RXA, RXB, Nat.reduceAdd, Nat.reduceLT, wrap_id, wrap_succ, wrap_pred, FX1, Int.lt_irrefl]
      rw [kcAb_balerplain_Ints]
      try simp (disch := first | omega | assumption | exact one_int _ _ | exact one_slice _ _ _ | exact one_ptr _ | exact one_bool _ | exact one_string _) only [RXA, RXB, Nat.reduceAdd, Nat.reduceLT, wrap_id, wrap_succ, wrap_pred, FX1]
    · rintro fu i _ h' n' hi ⟨⟨rfl, rfl⟩, e⟩ next
      obtain ⟨b, off, cap, o, cs, hv, hg, hb, _, _, _, hat⟩ := hR0.some (by omega)
      cases hv
      obtain ⟨b2, off2, cap2, o2, cs2, hv2, hg2, hb2, _, _, _, hat2⟩ := hS0.some (by omega)
      cases hv2
      have e1 : ((i : Nat) : Int) < ((xs.length : Nat) : Int) := by omega
      have e2 : ((i : Nat) : Int) < ((ys.length : Nat) : Int) := by omega
      have c1 := hat i hi
      have c2 := hat2 i (by omega)
      rw [drop_same 0 hxy hi] at e
      rw [succA_balerplain_Ints]
      by_cases h1 : xs.getD i 0 = ys.getD i 0
      · have n1 : (xs.getD i 0 != ys.getD i 0) = false := by rw [h1]; simp
        rw [decide_eq_true h1, Bool.true_and] at e
        try simp (disch := first | omega | assumption | exact one_int _ _ | exact one_slice _ _ _ | exact one_ptr _ | exact one_bool _ | exact one_string _) only [RXA, RXB, Nat.reduceAdd, Nat.reduceLT, wrap_id, wrap_succ, wrap_pred, FX1, e1, e2, hg, hg2, c1, c2, n1]
        exact next () _ _ ⟨⟨rfl, rfl⟩, e⟩
      · have n1 : (xs.getD i 0 != ys.getD i 0) = true := bne_iff_ne.2 h1
        rw [decide_eq_false h1, Bool.false_and] at e
        rw [e]
        try simp (disch := first | omega | assumption | exact one_int _ _ | exact one_slice _ _ _ | exact one_ptr _ | exact one_bool _ | exact one_string _) only [RXA, RXB, Nat.reduceAdd, Nat.reduceLT, wrap_id, wrap_succ, wrap_pred, FX1, e1, e2, hg, hg2, c1, c2, n1]
        rw [kcAa_balerplain_Ints]
        try simp (disch := first | omega | assumption | exact one_int _ _ | exact one_slice _ _ _ | exact one_ptr _ | exact one_bool _ | exact one_string _) only [RXA, RXB, Nat.reduceAdd, Nat.reduceLT, wrap_id, wrap_succ, wrap_pred, FX1]
  · have n1 : (((xs.length : Nat) : Int) != ((ys.length : Nat) : Int)) = true := by simp; omega
    rw [decide_eq_false (fun q => hxy (by rw [q]))]
    try simp (disch := first | omega | assumption | exact one_int _ _ | exact one_slice _ _ _ | exact one_ptr _ | exact one_bool _ | exact one_string _) only [RXA, RXB, Nat.reduceAdd, Nat.reduceLT, wrap_id, wrap_succ, wrap_pred, FX1, n1]
theorem r_Rows (v u : Value) (xss yss : List (List Int)) (hR : RR h n 22 3 v xss) (hS : RR h n 22 3 u yss) (hl : xss.length < lf) (hm : xss.length ≤ 9223372036854775807) (hi2 : ∀ xs ∈ xss, xs.length < lf ∧ xs.length ≤ 9223372036854775807) :
    Run (fun _ => False) n (evCall2 Tryd.prog gt lf (d + 2) 22 #[v, u]) h n fun v' h' n' => v' = .bool (decide (xss = yss)) ∧ h' = h ∧ n' = n := by
  rw [sh_balerplain_Rows]
  refine Run.inside_ ?_
  unfold b_balerplain_Rows
  have hR0 := hR
  have hS0 := hS
  obtain ⟨a, c, rfl⟩ := hR.len
  obtain ⟨a2, c2, rfl⟩ := hS.len
  by_cases hxy : xss.length = yss.length
  · have n1 : (((xss.length : Nat) : Int) != ((yss.length : Nat) : Int)) = false := by rw [hxy]; simp
    try simp (disch := first | omega | assumption | exact one_int _ _ | exact one_slice _ _ _ | exact one_ptr _ | exact one_bool _ | exact one_string _) only [RXA, RXB, Nat.reduceAdd, Nat.reduceLT, wrap_id, wrap_succ, wrap_pred, FX1, n1]
    refine run_for xss.length (fun fu i (_ : Unit) => lpA_balerplain_Rows lf (d + 1) fu (kcA_balerplain_Rows lf (d + 1)) (.slice a xss.length c) (.slice a2 yss.length c2) _ _ (.int .i64 (xss.length : Nat)) (.int .i64 (i : Nat))) (fun i _ h' n' => (h' = h ∧ n' = n) ∧ decide (xss = yss) = decide (xss.drop i = yss.drop i)) ?_ ?_ lf 0 () h n (Nat.zero_le _) (by omega) ⟨⟨rfl, rfl⟩, rfl⟩
    · rintro fu _ h' n' ⟨⟨rfl, rfl⟩, e⟩
      rw [succA_balerplain_Rows, e, drop_all hxy]
      try simp (disch := first | omega | assumption | exact one_int _ _ | exact one_slice _ _ _ | exact one_ptr _ | exact one_bool _ | exact one_string _) only [RXA, RXB, Nat.reduceAdd, Nat.reduceLT, wrap_id, wrap_succ, wrap_pred, FX1, Int.lt_irrefl]
      rw [kcAb_balerplain_Rows]
      try simp (disch := first | omega | assumption | exact one_int _ _ | exact one_slice _ _ _ | exact one_ptr _ | exact one_bool _ | exact one_string _) only [RXA, RXB, Nat.reduceAdd, Nat.reduceLT, wrap_id, wrap_succ, wrap_pred, FX1]
    · rintro fu i _ h' n' hi ⟨⟨rfl, rfl⟩, e⟩ next
      obtain ⟨b, off, cap, o, cs, hv, hg, hb, hat⟩ := hR0.at (by omega)
      cases hv
      obtain ⟨b2, off2, cap2, o2, cs2, hv2, hg2, hb2, hat2⟩ := hS0.at (by omega)
      cases hv2
      have e1 : ((i : Nat) : Int) < ((xss.length : Nat) : Int) := by omega
      have e2 : ((i : Nat) : Int) < ((yss.length : Nat) : Int) := by omega
      obtain ⟨p, c1, r1⟩ := hat i hi
      obtain ⟨q, c2, r2⟩ := hat2 i (by omega)
      have hm : xss.getD i [] ∈ xss := by rw [List.getD_eq_getElem?_getD, List.getElem?_eq_getElem hi]; exact List.getElem_mem hi
      obtain ⟨l1, l2⟩ := hi2 _ hm
      rw [drop_same [] hxy hi] at e
      rw [succA_balerplain_Rows]
      try simp (disch := first | omega | assumption | exact one_int _ _ | exact one_slice _ _ _ | exact one_ptr _ | exact one_bool _ | exact one_string _) only [RXA, RXB, Nat.reduceAdd, Nat.reduceLT, wrap_id, wrap_succ, wrap_pred, FX1, e1, e2, hg, hg2, c1, c2]
      refine run_same (r_Ints lf d _ h' p q _ _ r1 r2 l1 l2) (Nat.le_refl _) (fun _ _ h => h.elim) ?_
      by_cases h1 : xss.getD i [] = yss.getD i []
      · rw [decide_eq_true h1, Bool.true_and] at e
        rw [decide_eq_true h1]
        try simp (disch := first | omega | assumption | exact one_int _ _ | exact one_slice _ _ _ | exact one_ptr _ | exact one_bool _ | exact one_string _) only [RXA, RXB, Nat.reduceAdd, Nat.reduceLT, wrap_id, wrap_succ, wrap_pred, FX1, Bool.not_true]
        exact next () _ _ ⟨⟨rfl, rfl⟩, e⟩
      · rw [decide_eq_false h1, Bool.false_and] at e
        rw [decide_eq_false h1, e]
        try simp (disch := first | omega | assumption | exact one_int _ _ | exact one_slice _ _ _ | exact one_ptr _ | exact one_bool _ | exact one_string _) only [RXA, RXB, Nat.reduceAdd, Nat.reduceLT, wrap_id, wrap_succ, wrap_pred, FX1, Bool.not_false]
        rw [kcAa_balerplain_Rows]
        try simp (disch := first | omega | assumption | exact one_int _ _ | exact one_slice _ _ _ | exact one_ptr _ | exact one_bool _ | exact one_string _) only [RXA, RXB, Nat.reduceAdd, Nat.reduceLT, wrap_id, wrap_succ, wrap_pred, FX1]
  · have n1 : (((xss.length : Nat) : Int) != ((yss.length : Nat) : Int)) = true := by simp; omega
    rw [decide_eq_false (fun q => hxy (by rw [q]))]
    try simp (disch := first | omega | assumption | exact one_int _ _ | exact one_slice _ _ _ | exact one_ptr _ | exact one_bool _ | exact one_string _) only [RXA, RXB, Nat.reduceAdd, Nat.reduceLT, wrap_id, wrap_succ, wrap_pred, FX1, n1]
/-- a choice: its tables and its picks -/
structure Choi (h : H) (n : Nat) (v : Value) (L : List (List Int)) (K : List Int) : Prop where
  ex : ∃ x y, v = .agg #[x, y] ∧ RR h n 22 3 x L ∧ Row h n 3 .i64 y K
theorem Choi.keep {h h' : H} {n n' : Nat} {v : Value} {L : List (List Int)} {K : List Int} (x : Choi h n v L K) (hn : n ≤ n') (hk : ∀ b, b < n → h'.get b = h.get b) : Choi h' n' v L K := by
  obtain ⟨x, y, hv, h1, h2⟩ := x.ex
  exact ⟨x, y, hv, h1.keep hn hk, h2.keep hn hk⟩
end
end Go.Proofs.YtdagfcflbphoiaaDoor
/- Arguments opened: rows of numbers, rows of rows. No program in sight. -/
namespace Go.Proofs.YtdagfcflbphoiaaDoor.Ev
set_option linter.unusedVariables false
set_option linter.unusedSimpArgs false
open Go Go.RowKit
section
variable {P : Program} {h : H} {n f : Nat} {t e : TypeId} {v : Value}
theorem rep_cells1 (hu : P.underlying t = some (.slice e)) (hce : cellTs P 8 e = some [e]) (x : RepH1 P h n (f + 1) t v) : ∃ cs, VRow h n e v cs ∧ cs.length ≤ maxLen ∧ ∀ c ∈ cs, RepH1 P h n f e c := by
  unfold RepH1 at x
  rw [hu] at x
  rcases x with ⟨a, rfl, hne⟩ | ⟨b, len, ts, cs, rfl, ht, h0, hg, hb, hl, hm, hall⟩
  · exact ⟨[], .inl ⟨a, 0, rfl, hne, rfl⟩, Nat.zero_le _, fun c hc => by cases hc⟩
  · rw [hce] at ht
    cases ht
    have hl : cs.length = len := by simpa using hl
    refine ⟨cs, .inr ⟨b, 0, CAP + len, false, cs, by rw [hl], hg, hb, by omega, by rw [List.drop_zero, List.take_length], by omega⟩, by omega, fun c hc => ?_⟩
    obtain ⟨i, hi, rfl⟩ := List.mem_iff_getElem.1 hc
    have q := hall i (by omega)
    have e1 : (cs.drop (i * [e].length)).take [e].length = [cs[i]] := by
      simp only [List.length_cons, List.length_nil, Nat.zero_add, Nat.mul_one]
      rw [List.drop_eq_getElem_cons hi, List.take_succ_cons, List.take_zero]
    rw [e1] at q
    exact q.1
theorem VRow.row {k : IntKind} {xs : List Int} (r : VRow h n e v (intsV k xs)) : Row h n e k v xs := by
  rcases r with ⟨a, c, rfl, hne, hx⟩ | ⟨b, off, cap, o, ks, hv, hg, hb, hl, ht, hc⟩
  · exact .inl ⟨a, c, rfl, hne, by unfold intsV at hx; simpa using hx⟩
  · rw [intsV_len] at hv hl ht hc
    exact .inr ⟨b, off, cap, o, ks, hv, hg, hb, hl, ht, hc⟩
theorem list_choose {α β : Type} {R : α → β → Prop} (da : α) (d : β) : ∀ {l : List α}, (∀ a ∈ l, ∃ b, R a b) → ∃ m : List β, m.length = l.length ∧ ∀ i, i < l.length → R (l.getD i da) (m.getD i d)
  | [], _ => ⟨[], rfl, fun i hi => absurd hi (Nat.not_lt_zero i)⟩
  | a :: l, hl => by
    obtain ⟨b, hb⟩ := hl a List.mem_cons_self
    obtain ⟨m, h1, h2⟩ := list_choose da d (l := l) fun x hx => hl x (List.mem_cons_of_mem _ hx)
    refine ⟨b :: m, by simp [h1], fun i hi => ?_⟩
    cases i with
    | zero => exact hb
    | succ i => exact h2 i (by simpa using hi)
theorem rep_row {k : IntKind} (hu : P.underlying t = some (.slice e)) (hce : cellTs P 8 e = some [e]) (he : P.underlying e = some (.int k)) (x : RepH1 P h n (f + 2) t v) : ∃ xs, Row h n e k v xs ∧ xs.length ≤ maxLen ∧ ∀ y ∈ xs, (Lit.int k y).wf = true := by
  obtain ⟨cs, r, hm, hc⟩ := rep_cells1 hu hce x
  obtain ⟨xs, hl, hx⟩ := list_choose (R := fun c (y : Int) => c = .int k y ∧ (Lit.int k y).wf = true) undef 0 fun c q => rep_int he (hc c q)
  have e1 : cs = intsV k xs := by
    apply List.ext_getElem
    · rw [intsV_len, hl]
    · intro i h1 h2
      have := (hx i h1).1
      rw [List.getD_eq_getElem?_getD, List.getElem?_eq_getElem h1] at this
      have h3 := intsV_at (k := k) (xs := xs) (i := i) (by omega)
      rw [List.getElem?_eq_getElem h2] at h3
      rw [Option.some.inj h3]
      exact this
  rw [e1] at r
  refine ⟨xs, r.row, by omega, fun y hy => ?_⟩
  obtain ⟨i, hi, rfl⟩ := List.mem_iff_getElem.1 hy
  have := (hx i (by omega)).2
  rw [List.getD_eq_getElem?_getD, List.getElem?_eq_getElem hi] at this
  exact this
end
section
variable {β : Type} {W : Nat → Prop} {n0 : Nat} {h : H} {n m : Nat} {Q : β → H → Nat → Prop} {P : Program}
end
end Go.Proofs.YtdagfcflbphoiaaDoor.Ev
/- The statements TablesOf and TablesSame. -/
namespace Go.Proofs.YtdagfcflbphoiaaDoor
set_option linter.unusedVariables false
set_option linter.unusedSimpArgs false
open Go.RowKit Ev Tb

theorem the_law' {f : FuncId} {ts : List TypeId} {vs : List Value} {w : World} {lf d : Nat} (hw : Ev.GlobAt w) (ha : All2 (ArgR Tryd.prog w) ts vs) (r : ∀ n h vs0, Gd h n → All2 (ArgH Tryd.prog h n) ts vs0 → Run (fun _ => False) n (evCall2 Tryd.prog gt lf d f vs0.toArray) h n fun v _ _ => v = .bool true) :
    Calls Tryd.prog f vs.toArray w fun e w' => e = .returned (.bool true) ∧ Below w.heap.size w w' := by
  obtain ⟨m, x⟩ := laid_hG hw
  exact Ev.law_of ev_names ev_progK ev_mix known okd ha x fun n h vs0 hn hg q => r n h vs0 (Gd.of hn (by rw [hg _ (by decide +kernel)]; exact get_eq _ _ _)) q
theorem ct_ints : cellTs Tryd.prog 8 22 = some [22] := by kernel_rfl
theorem ct_int : cellTs Tryd.prog 8 3 = some [3] := by kernel_rfl
theorem ag_ints : isAggT Tryd.prog 22 = false := by kernel_rfl
theorem ag_int : isAggT Tryd.prog 3 = false := by kernel_rfl
theorem a_row {h : H} {n : Nat} {v : Value} (x : ArgH Tryd.prog h n 22 v) : ∃ xs, Row h n 3 .i64 v xs ∧ xs.length ≤ 9223372036854775807 ∧ ∀ y ∈ xs, -9223372036854775808 ≤ y ∧ y ≤ 9223372036854775807 := by
  obtain ⟨xs, h1, h2, h3⟩ := rep_row (f := 6) Tryd.underlying22 ct_int Tryd.underlying3 (argH_cell ct_ints ag_ints x)
  exact ⟨xs, h1, h2, fun y hy => wf64 (h3 y hy)⟩
theorem a_num {h : H} {n : Nat} {v : Value} (x : ArgH Tryd.prog h n 3 v) : ∃ i, v = .int .i64 i ∧ -9223372036854775808 ≤ i ∧ i ≤ 9223372036854775807 := by
  obtain ⟨i, h1, h2⟩ := rep_int (f := 7) Tryd.underlying3 (argH_cell ct_int ag_int x)
  exact ⟨i, h1, wf64 h2⟩
theorem Choi.agg {h : H} {n : Nat} {v : Value} {L : List (List Int)} {K : List Int} (x : Choi h n v L K) : ∃ a c a2 c2, v = .agg #[.slice a L.length c, .slice a2 K.length c2] ∧ RR h n 22 3 (.slice a L.length c) L ∧ Row h n 3 .i64 (.slice a2 K.length c2) K := by
  obtain ⟨x, y, rfl, h1, h2⟩ := x.ex
  have h10 := h1
  have h20 := h2
  obtain ⟨a, c, rfl⟩ := h1.len
  obtain ⟨a2, c2, rfl⟩ := h2.len
  exact ⟨a, c, a2, c2, rfl, h10, h20⟩
section
variable (lf d n : Nat) (h : H)
variable (hlf : 3000000 ≤ lf) (hd : 700 ≤ d)
include hlf hd
end
end Go.Proofs.YtdagfcflbphoiaaDoor

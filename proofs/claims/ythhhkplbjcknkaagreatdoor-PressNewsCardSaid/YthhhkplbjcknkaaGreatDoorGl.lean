/- The laid variable of a door seat: what it holds. -/
import Derived.Test.YthhhkplbjcknkaaGreatDoorRows
import Derived.Test.YthhhkplbjcknkaaGreatDoorEvJ
import Derived.MakeChecks
import Derived.OpenShut
import Derived.ChangeArms
namespace Go.Proofs.YthhhkplbjcknkaaGreatDoor
set_option linter.unusedVariables false
set_option linter.unusedSimpArgs false
open Go Go.RowKit Go.WideShapes Go.ChangeShapes Go.MakeChecks

theorem gn_b : Tryz.prog.globalNamed "baler/tables.bounds" = some 0 := by kernel_rfl
theorem gt_b : (Tryz.prog.globals[0]?).map (·.type) = some 245 := by kernel_rfl
theorem co_i : Tryz.prog.cellsOf 3 = 1 := by kernel_rfl
theorem co_b : Tryz.prog.cellsOf 245 = 4 := by kernel_rfl
set_option maxRecDepth 10000 in
theorem glob_of_laid {w : World} (hL : laidMetH Tryz.prog [("baler/tables.bounds", Rows.laid_baler_tables_bounds)] w) : Ev.GlobAt w := by
  rw [laidMetH_plain _ _ _ rfl] at hL
  obtain ⟨ps, ⟨g, t, cs, fuel, p, q, hg, ht, hv, hx, _⟩, _⟩ := hL
  rw [gn_b] at hg
  cases hg
  rw [gt_b] at ht
  cases ht
  unfold World.var? at hv
  rw [gn_b] at hv
  simp only [Option.bind_some] at hv
  split at hv
  · rename_i cs' e' fr' hw
    cases hv
    obtain ⟨xs, m, rfl, hx1, hlen, hxn, hall⟩ := DataW.trod_array Tryz.underlying245 hx
    rw [co_b] at hlen
    rw [co_i] at hall
    have hc : ∀ (i : Nat) (z : Int), i < 4 → (xs.map (·.1))[i]? = some (.lit (.int .i64 z)) → w.cell? ⟨0, i, none⟩ = some (.int .i64 z) := by
      intro i z hi hz
      rw [List.getElem?_map] at hz
      cases hxi : xs[i]? with
      | none => rw [hxi] at hz; cases hz
      | some y =>
        rw [hxi] at hz
        have ha := hall i hi
        rw [hxi] at ha
        obtain ⟨k, h1, h2, _⟩ := DataW.trod_int Tryz.underlying3 ha
        rw [h2] at hz
        cases hz
        have h3 : cs.toList[i]? = some (.int .i64 z) := by
          rw [Nat.mul_one, List.drop_eq_getElem_cons (by omega), List.take_succ_cons, List.take_zero] at h1
          rw [List.getElem?_eq_getElem (by omega)]
          exact congrArg some (List.cons.inj h1).1
        unfold World.cell?
        simp only [hw]
        simpa using h3
    have hm : xs.map (·.1) = [.lit (.int .i64 200), .lit (.int .i64 600), .lit (.int .i64 1200), .lit (.int .i64 2400)] := by
      have := congrArg Prod.fst hx1
      simp only [Rows.laid_baler_tables_bounds] at this
      injection this with this
      exact this.symm
    rw [hm] at hc
    intro g hg
    have : g = (0, 0, .int .i64 200) ∨ g = (0, 1, .int .i64 600) ∨ g = (0, 2, .int .i64 1200) ∨ g = (0, 3, .int .i64 2400) := by simpa [Ev.KG] using hg
    rcases this with rfl | rfl | rfl | rfl
    · exact hc 0 200 (by decide) rfl
    · exact hc 1 600 (by decide) rfl
    · exact hc 2 1200 (by decide) rfl
    · exact hc 3 2400 (by decide) rfl
  · cases hv

end Go.Proofs.YthhhkplbjcknkaaGreatDoor

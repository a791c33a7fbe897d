/- Opening an argument that is an array of two integers; a slice of integers as the numbers that it holds. No program in sight. -/
import Derived.Test.YtapdcejhfooahaaMem
import Derived.ProofKit
import Derived.OpenShut
namespace Go.Proofs.Ytapdcejhfooahaa
set_option linter.unusedVariables false
set_option linter.unusedSimpArgs false
open Go.RowKit Go.WideShapes

theorem open_arr2 {H : Type} {enc : TypeId × Value → H} {P : Program} {w : World} {base : Nat} {spare : Nat → Bool} {held : Bool} {r : Reach} {b0 : Nat} {t e : TypeId} {k : IntKind} {v : Value} {d : DataW H} {p : List MemPlace}
    (ht : P.underlying t = some (.array 2 e)) (he : P.underlying e = some (.int k)) (hC : P.cellsOf t = 2) (hE : P.cellsOf e = 1)
    (hv : Value.okWide P w r b0 t v) (h : DataW.Trod enc P w base spare held t v d p) : ∃ x y : Int, (Lit.int k x).wf = true ∧ (Lit.int k y).wf = true ∧ v = .agg #[.int k x, .int k y] := by
  simp only [Value.okWide, ht] at hv
  obtain ⟨cs, rfl, hsz, _⟩ := hv
  obtain ⟨fuel, hf⟩ := h
  obtain ⟨xs, m, rfl, hx, hl, hn, hall⟩ := DataW.trod_array ht hf
  have h0 := hall 0 (by omega)
  have h1 := hall 1 (by omega)
  rw [hE] at h0 h1
  match xs, hn with
  | [x0, x1], _ =>
    obtain ⟨n0, e0, _, f0⟩ := DataW.trod_int he (x := x0) (by simpa using h0)
    obtain ⟨n1, e1, _, f1⟩ := DataW.trod_int he (x := x1) (by simpa using h1)
    refine ⟨n0, n1, f0, f1, ?_⟩
    have hs2 : cs.size = 2 := hsz.trans hC
    congr 1
    apply Array.ext
    · simp [hs2]
    · intro i hi1 hi2
      simp only [Value.cells] at e0 e1
      have hi : i = 0 ∨ i = 1 := by simp at hi2; omega
      rcases hi with rfl | rfl
      · have := congrArg (fun l => l[0]?) e0
        simp at this
        obtain ⟨_, this⟩ := Array.getElem?_eq_some_iff.1 this
        simpa using this
      · have := congrArg (fun l => l[0]?) e1
        simp at this
        obtain ⟨_, this⟩ := Array.getElem?_eq_some_iff.1 this
        simpa using this

theorem nums_of_row {W : World} {k : IntKind} {x : Addr} {len cap : Nat} {zs : List Int} (hl : len ≤ cap) (hm : cap ≤ maxLen) (hz : zs.length = cap)
    (hcell : ∀ i, i < zs.length → W.cell? (x.add i) = some (.int k (zs.getD i 0))) (hwz : ∀ n ∈ zs, (Lit.int k n).wf = true) :
    ∃ ys : List Int, ys.length = len ∧ NumsAt k W (some x) ys ∧ (ys.length ≤ maxLen ∧ ∀ n ∈ ys, (Lit.int k n).wf = true) := by
  refine ⟨zs.take len, by simp; omega, fun j hj => ?_, by simp; omega, fun n hn => hwz n (List.mem_of_mem_take hn)⟩
  have hj' : j < len := by simp at hj; omega
  have h0 := hcell 0 (by omega)
  obtain ⟨b, off, spot⟩ := x
  have hspot : spot = none := by simpa [Addr.add] using World.cell?_spot h0
  subst hspot
  refine ⟨b, off, rfl, ?_⟩
  have hc := hcell j (by omega)
  have hadd : (⟨b, off, none⟩ : Addr).add j = ⟨b, off + j, none⟩ := by unfold Addr.add; split <;> simp_all
  rw [hadd] at hc
  rw [hc]
  simp [List.getD_eq_getElem?_getD, List.getElem?_take, hj']

end Go.Proofs.Ytapdcejhfooahaa

import Derived.Test.YtdagfcflbphoiaaGreatDoorRows
import Derived.Test.YtdagfcflbphoiaaGreatDoorMah
import Derived.Test.YtdagfcflbphoiaaGreatDoorMac
import Derived.MakeChecks
import Derived.OpenShut
import Derived.ChangeArms
import Derived.Test.YtdagfcflbphoiaaGreatDoorMak
import Derived.Test.YtdagfcflbphoiaaGreatDoorMae
import Derived.WalkKit
namespace Go.Proofs.YtdagfcflbphoiaaGreatDoor
set_option linter.unusedVariables false
set_option linter.unusedSimpArgs false
open Go.RowKit Ev

theorem zbsk : Ev.okNames Tryz.prog = true := by kernel_rfl
theorem zcfp : Ev.okProg Tryz.prog Fa.kn0 = true := by kernel_rfl
theorem zceq : Ev.okProg Tryz.prog Ev.KN = true := by kernel_rfl
theorem zcbe : Tryz.prog.follows .mixedOrders = true := by kernel_rfl
theorem okd0 : okDsts Tryz.prog = true := by kernel_rfl
theorem zbqv : Ev.NatKnown Tryz.prog := by
  intro f k hf
  simp [natOf, NV, natIn] at hf
theorem zccc : Ev.Known Tryz.prog Fa.kn0 := ⟨fun f hf => by simp [Fa.kn0] at hf, zbqv⟩
def gV : List Value := [.int .i64 200, .int .i64 600, .int .i64 1200, .int .i64 2400]
def hG : H := H.set .nil 0 (some ⟨3, false, gV⟩)
theorem zbwd {w : World} (x : Ev.GlobAt w) : ∃ m, Laid Tryz.prog w m hG Tryz.prog.globals.size := by
  refine zchi x (by decide +kernel) (sz := 1) (by kernel_rfl) (by decide) (fun k v hk => ?_) (by decide)
  match k, hk with
  | 0, hk => cases hk; simp [KG]
  | 1, hk => cases hk; simp [KG]
  | 2, hk => cases hk; simp [KG]
  | 3, hk => cases hk; simp [KG]
set_option maxRecDepth 100000 in
theorem q_two : Ev.yieldsTrue ((inside (Fa.F_balerlaw14_two 100000 1000 (Fa.fast 100000 1000))) hG Tryz.prog.globals.size) = true := by kernel_rfl
theorem l_two (w : World) (x : Ev.GlobAt w) : Calls Tryz.prog 8 #[] w fun e w' => e = .returned (.bool true) ∧ Below w.heap.size w w' := by
  obtain ⟨m, x⟩ := zbwd x
  refine Ev.closedN (kn := Fa.kn0) zbsk zcfp zcbe zccc okd0 x (gt := Fa.gtA) (lf := 100000) (d := 1001) ?_
  have := q_two
  rw [Fa.fast_eq, Fa.fsh_balerlaw14_two] at this
  exact this
theorem known : Ev.Known Tryz.prog Ev.KN := ⟨fun f hf hn hp w x => by
  have : f = 8 := by simpa [Ev.KN] using hf
  subst this
  exact l_two w x, zbqv⟩

end Go.Proofs.YtdagfcflbphoiaaGreatDoor
namespace Go.Proofs.YtdagfcflbphoiaaGreatDoor
set_option linter.unusedVariables false
set_option linter.unusedSimpArgs false
open Go Go.RowKit Go.WideShapes Go.ChangeShapes Go.MakeChecks

theorem gn_b : Tryz.prog.globalNamed "baler/tables.bounds" = some 0 := by kernel_rfl
theorem gt_b : (Tryz.prog.globals[0]?).map (·.type) = some 158 := by kernel_rfl
theorem co_i : Tryz.prog.cellsOf 3 = 1 := by kernel_rfl
theorem co_b : Tryz.prog.cellsOf 158 = 4 := by kernel_rfl
set_option maxRecDepth 10000 in
theorem zbtu {w : World} (hL : laidMetH Tryz.prog [("baler/tables.bounds", Rows.laid_baler_tables_bounds)] w) : Ev.GlobAt w := by
  rw [laidMetH_plain _ _ _ rfl] at hL
  obtain ⟨ps, ⟨g, t, cs, fuel, p, q, hg, ht, hv, hx, _⟩, _⟩ := hL
  rw [gn_b] at hg
  cases hg
  rw [gt_b] at ht
  cases ht
  unfold World.var? at hv
  rw [gn_b] at hv
  simp only [Option.bind_some] at hv
  split at hv
  · rename_i cs' e' fr' hw
    cases hv
    obtain ⟨xs, m, rfl, hx1, hlen, hxn, hall⟩ := DataW.trod_array Tryz.underlying158 hx
    rw [co_b] at hlen
    rw [co_i] at hall
    have hc : ∀ (i : Nat) (z : Int), i < 4 → (xs.map (·.1))[i]? = some (.lit (.int .i64 z)) → w.cell? ⟨0, i, none⟩ = some (.int .i64 z) := by
      intro i z hi hz
      rw [List.getElem?_map] at hz
      cases hxi : xs[i]? with
      | none => rw [hxi] at hz; cases hz
      | some y =>
        rw [hxi] at hz
        have ha := hall i hi
        rw [hxi] at ha
        obtain ⟨k, h1, h2, _⟩ := DataW.trod_int Tryz.underlying3 ha
        rw [h2] at hz
        cases hz
        have h3 : cs.toList[i]? = some (.int .i64 z) := by
          rw [Nat.mul_one, List.drop_eq_getElem_cons (by omega), List.take_succ_cons, List.take_zero] at h1
          rw [List.getElem?_eq_getElem (by omega)]
          exact congrArg some (List.cons.inj h1).1
        unfold World.cell?
        simp only [hw]
        simpa using h3
    have hm : xs.map (·.1) = [.lit (.int .i64 200), .lit (.int .i64 600), .lit (.int .i64 1200), .lit (.int .i64 2400)] := by
      have := congrArg Prod.fst hx1
      simp only [Rows.laid_baler_tables_bounds] at this
      injection this with this
      exact this.symm
    rw [hm] at hc
    intro g hg
    have : g = (0, 0, .int .i64 200) ∨ g = (0, 1, .int .i64 600) ∨ g = (0, 2, .int .i64 1200) ∨ g = (0, 3, .int .i64 2400) := by simpa [Ev.KG] using hg
    rcases this with rfl | rfl | rfl | rfl
    · exact hc 0 200 (by decide) rfl
    · exact hc 1 600 (by decide) rfl
    · exact hc 2 1200 (by decide) rfl
    · exact hc 3 2400 (by decide) rfl
  · cases hv

end Go.Proofs.YtdagfcflbphoiaaGreatDoor
namespace Go.Proofs.YtdagfcflbphoiaaGreatDoor
set_option linter.unusedVariables false
set_option linter.unusedSimpArgs false
open Go.RowKit Ev

def Gd (h : H) (n : Nat) : Prop := h.get 0 = some ⟨3, false, gV⟩ ∧ 0 < n
theorem Gd.keep {h h' : H} {n n' : Nat} (x : Gd h n) (hn : n ≤ n') (hk : ∀ b, b < n → h'.get b = h.get b) : Gd h' n' := ⟨(hk _ x.2).trans x.1, Nat.lt_of_lt_of_le x.2 hn⟩
theorem Gd.of {h : H} {n : Nat} (hn : Tryz.prog.globals.size ≤ n) (hg : h.get 0 = some ⟨3, false, gV⟩) : Gd h n := ⟨hg, Nat.lt_of_lt_of_le (by decide +kernel) hn⟩
theorem k_two (lf d n : Nat) (h : H) (x : Gd h n) : Run (fun _ => False) n (zaac Tryz.prog gt lf (d + 1) 8 #[]) h n fun v' h' n' => v' = .bool true ∧ h' = h ∧ n' = n := by
  obtain ⟨hg, hn⟩ := x
  have e : zaac Tryz.prog gt lf (d + 1) 8 #[] = (chkG Tryz.prog KG).bind fun _ => M.ret (.bool true) := by kernel_rfl
  rw [e]
  have rdg : ∀ (k : Nat) (v : Value), gV[k]? = some v → rd 0 k h n = some ⟨v, h, n, [⟨false, 0, some k⟩]⟩ := fun k v hk => by
    unfold rd
    simp only [hn, hg, hk, if_true]
  have hsz : decide (0 < Tryz.prog.globals.size) = true := by decide +kernel
  have stp : ∀ (k : Nat) (x : Int) (l : List (Nat × Nat × Value)) (L : List En), gV[k]? = some (.int .i64 x) → chkG Tryz.prog l h n = some ⟨(), h, n, L⟩ → chkG Tryz.prog ((0, k, .int .i64 x) :: l) h n = some ⟨(), h, n, [⟨false, 0, some k⟩] ++ L⟩ := fun k x l L hk hl => by
    unfold chkG
    refine zaas (rdg k _ hk) ?_
    simp only [hsz, sameI, decide_true, Bool.and_self, if_true]
    exact hl
  have c := stp 0 200 _ _ rfl (stp 1 600 _ _ rfl (stp 2 1200 _ _ rfl (stp 3 2400 [] [] rfl rfl)))
  refine Run.step c (Nat.le_refl _) (by simp) ?_
  rw [zaxa]
  exact ⟨rfl, rfl, rfl⟩
theorem zbje {lf d n n0 : Nat} {h : H} {W : Nat → Prop} (hn : n0 ≤ n) (x : Gd h n) : Run W n0 ((inside (zaac Tryz.prog gt lf (d + 1) 8 #[])).bind fun v => outK [v]) h n fun v _ _ => v = .bool true := by
  refine zaaw (k_two lf d n h x) hn (fun _ _ h => h.elim) ?_
  rw [zben]

end Go.Proofs.YtdagfcflbphoiaaGreatDoor
namespace Go.Proofs.YtdagfcflbphoiaaGreatDoor.Tb
set_option linter.unusedVariables false
set_option linter.unusedSimpArgs false

def sumI : List Int → Int
  | [] => 0
  | x :: l => x + sumI l
end Go.Proofs.YtdagfcflbphoiaaGreatDoor.Tb
namespace Go.Proofs.YtdagfcflbphoiaaGreatDoor
set_option linter.unusedVariables false
set_option linter.unusedSimpArgs false
open Go.RowKit Ev Tb

section
variable (lf d n : Nat) (h : H)
variable (hlf : 3000000 ≤ lf)
include hlf
end
end Go.Proofs.YtdagfcflbphoiaaGreatDoor
namespace Go.Proofs.YtdagfcflbphoiaaGreatDoor
set_option linter.unusedVariables false
set_option linter.unusedSimpArgs false
open Go.RowKit Ev Tb

section
variable (lf d n : Nat) (h : H) (hlf : 3000000 ≤ lf)
include hlf
end
end Go.Proofs.YtdagfcflbphoiaaGreatDoor
namespace Go.Proofs.YtdagfcflbphoiaaGreatDoor
set_option linter.unusedVariables false
set_option linter.unusedSimpArgs false
open Go.RowKit Ev Tb

section
variable (lf d n : Nat) (h : H) (hlf : 3000000 ≤ lf)
theorem zcjr (z : Int) : Run (fun _ => False) n (zaac Tryz.prog gt lf (d + 1) 23 #[.int .i64 z]) h n fun v' h' n' => v' = .bool (decide (3 ≤ z) && decide (z ≤ 258)) ∧ h' = h ∧ n' = n := by
  rw [zbhg]
  refine Run.inside_ ?_
  unfold zawb
  by_cases c : 3 ≤ z
  · try simp (disch := first | omega | assumption | exact zaae _ _ | exact zaab _ _ _ | exact zaaf _ | exact zaad _ | exact zaaa _) only [Nat.reduceAdd, Nat.reduceLT, RZ, c]
  · try simp (disch := first | omega | assumption | exact zaae _ _ | exact zaab _ _ _ | exact zaaf _ | exact zaad _ | exact zaaa _) only [Nat.reduceAdd, Nat.reduceLT, RZ, c]
include hlf
end
end Go.Proofs.YtdagfcflbphoiaaGreatDoor
namespace Go.Proofs.YtdagfcflbphoiaaGreatDoor
set_option linter.unusedVariables false
set_option linter.unusedSimpArgs false
open Go.RowKit Ev Tb

section
variable (lf d n : Nat) (h : H) (hlf : 3000000 ≤ lf)
include hlf
end
end Go.Proofs.YtdagfcflbphoiaaGreatDoor
namespace Go.Proofs.YtdagfcflbphoiaaGreatDoor
set_option linter.unusedVariables false
set_option linter.unusedSimpArgs false
open Go.RowKit Ev Tb

section
variable (lf d n : Nat) (h : H) (hlf : 3000000 ≤ lf)
include hlf
end
end Go.Proofs.YtdagfcflbphoiaaGreatDoor
namespace Go.Proofs.YtdagfcflbphoiaaGreatDoor
set_option linter.unusedVariables false
set_option linter.unusedSimpArgs false
open Go.RowKit Ev Tb

section
variable (lf d n : Nat) (h : H) (hlf : 3000000 ≤ lf)
include hlf
end
end Go.Proofs.YtdagfcflbphoiaaGreatDoor
namespace Go.Proofs.YtdagfcflbphoiaaGreatDoor
set_option linter.unusedVariables false
set_option linter.unusedSimpArgs false
open Go.RowKit Ev Hu

def cap (k : Nat) : Int := 2 ^ k + 2
end Go.Proofs.YtdagfcflbphoiaaGreatDoor
namespace Go.Proofs.YtdagfcflbphoiaaGreatDoor
set_option linter.unusedVariables false
set_option linter.unusedSimpArgs false
open Go.RowKit Ev Hu

abbrev RT := Int × Nat × Value
def tv (t : RT) : V3 := (.int .i64 t.1, .int .i64 (t.2.1 : Nat), t.2.2)
end Go.Proofs.YtdagfcflbphoiaaGreatDoor
namespace Go.Proofs.YtdagfcflbphoiaaGreatDoor
set_option linter.unusedVariables false
set_option linter.unusedSimpArgs false
open Ev Hu

section
variable {N : Nat} {w : Nat → Int} {I A B : Nat → Nat} {X R : Nat → List Nat} {dep : Nat → Nat}
end
end Go.Proofs.YtdagfcflbphoiaaGreatDoor
namespace Go.Proofs.YtdagfcflbphoiaaGreatDoor
set_option linter.unusedVariables false
set_option linter.unusedSimpArgs false
open Go.RowKit Ev Hu

end Go.Proofs.YtdagfcflbphoiaaGreatDoor
namespace Go.Proofs.YtdagfcflbphoiaaGreatDoor
set_option linter.unusedVariables false
set_option linter.unusedSimpArgs false
open Go.RowKit Ev Hu

end Go.Proofs.YtdagfcflbphoiaaGreatDoor
namespace Go.Proofs.YtdagfcflbphoiaaGreatDoor
set_option linter.unusedVariables false
set_option linter.unusedSimpArgs false
open Go.RowKit Ev Hu

end Go.Proofs.YtdagfcflbphoiaaGreatDoor
namespace Go.Proofs.YtdagfcflbphoiaaGreatDoor
set_option linter.unusedVariables false
set_option linter.unusedSimpArgs false
open Go.RowKit Ev Hu

end Go.Proofs.YtdagfcflbphoiaaGreatDoor
namespace Go.Proofs.YtdagfcflbphoiaaGreatDoor
set_option linter.unusedVariables false
set_option linter.unusedSimpArgs false
open Go.RowKit Ev Hu

end Go.Proofs.YtdagfcflbphoiaaGreatDoor
namespace Go.Proofs.YtdagfcflbphoiaaGreatDoor
set_option linter.unusedVariables false
set_option linter.unusedSimpArgs false
open Go.RowKit Ev Tb

section
variable (lf d n : Nat) (h : H) (hlf : 3000000 ≤ lf)
include hlf
end
section
variable (lf d n : Nat) (h : H) (hlf : 3000000 ≤ lf)
include hlf
end
end Go.Proofs.YtdagfcflbphoiaaGreatDoor
namespace Go.Proofs.YtdagfcflbphoiaaGreatDoor
set_option linter.unusedVariables false
set_option linter.unusedSimpArgs false
open Go.RowKit Ev Tb

section
variable (lf d n : Nat) (h : H) (hlf : 3000000 ≤ lf)
include hlf
end
end Go.Proofs.YtdagfcflbphoiaaGreatDoor
namespace Go.Proofs.YtdagfcflbphoiaaGreatDoor
set_option linter.unusedVariables false
set_option linter.unusedSimpArgs false
open Go.RowKit Ev Tb

section
variable (lf d n : Nat) (h : H) (hlf : 3000000 ≤ lf)
include hlf
end
end Go.Proofs.YtdagfcflbphoiaaGreatDoor
namespace Go.Proofs.YtdagfcflbphoiaaGreatDoor
set_option linter.unusedVariables false
set_option linter.unusedSimpArgs false
open Go.RowKit Ev Tb

section
variable (lf d n : Nat) (h : H) (hlf : 3000000 ≤ lf)
include hlf
end
end Go.Proofs.YtdagfcflbphoiaaGreatDoor
namespace Go.Proofs.YtdagfcflbphoiaaGreatDoor
set_option linter.unusedVariables false
set_option linter.unusedSimpArgs false
open Go.RowKit Ev Tb

section
variable (lf d n : Nat) (h : H)
end
end Go.Proofs.YtdagfcflbphoiaaGreatDoor
namespace Go.Proofs.YtdagfcflbphoiaaGreatDoor
set_option linter.unusedVariables false
set_option linter.unusedSimpArgs false
open Go.RowKit Ev Tb

theorem zcfx {f : FuncId} {ts : List TypeId} {vs : List Value} {w : World} {lf d : Nat} (hw : Ev.GlobAt w) (ha : All2 (ArgR Tryz.prog w) ts vs) (r : ∀ n h vs0, Gd h n → All2 (ArgH Tryz.prog h n) ts vs0 → Run (fun _ => False) n (zaac Tryz.prog gt lf d f vs0.toArray) h n fun v _ _ => v = .bool true) :
    Calls Tryz.prog f vs.toArray w fun e w' => e = .returned (.bool true) ∧ Below w.heap.size w w' := by
  obtain ⟨m, x⟩ := zbwd hw
  exact Ev.law_of zbsk zceq zcbe known okd ha x fun n h vs0 hn hg q => r n h vs0 (Gd.of hn (by rw [hg _ (by decide +kernel)]; exact zaaz _ _ _)) q
theorem zcjp : cellTs Tryz.prog 8 3 = some [3] := by kernel_rfl
theorem zcki : isAggT Tryz.prog 3 = false := by kernel_rfl
set_option maxRecDepth 20000 in
theorem a_num {h : H} {n : Nat} {v : Value} (x : ArgH Tryz.prog h n 3 v) : ∃ i, v = .int .i64 i ∧ -9223372036854775808 ≤ i ∧ i ≤ 9223372036854775807 := by
  obtain ⟨i, h1, h2⟩ := zchk (f := 7) Tryz.underlying3 (zbql zcjp zcki x)
  exact ⟨i, h1, wf64 h2⟩
section
variable (lf d n : Nat) (h : H)
variable (hlf : 3000000 ≤ lf) (hd : 700 ≤ d)
include hlf hd
end
end Go.Proofs.YtdagfcflbphoiaaGreatDoor

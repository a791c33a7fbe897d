/- Layer 23: a nil press does nothing; the closed test. -/
import Derived.Test.YthhhkplbjcknkaaGreatDoorPw
import Derived.Test.YthhhkplbjcknkaaGreatDoorCl
import Derived.Test.YthhhkplbjcknkaaGreatDoorGl
import Derived.Test.YthhhkplbjcknkaaGreatDoorEvYab
namespace Go.Proofs.YthhhkplbjcknkaaGreatDoor
set_option linter.unusedVariables false
set_option linter.unusedSimpArgs false
open Go.RowKit Ev

theorem ce9 : cellTs Tryz.prog 8 9 = some [9] := by kernel_rfl
theorem the_law {f : FuncId} {ts : List TypeId} {vs : List Value} {w : World} (hw : Ev.GlobAt w) (ha : All2 (ArgR Tryz.prog w) ts vs) (r : ∀ n h vs0, Tryz.prog.globals.size ≤ n → h.get 0 = some ⟨3, false, gV⟩ → All2 (ArgH Tryz.prog h n) ts vs0 → Run (fun _ => False) n (evCall2 Tryz.prog gt 3000000 1000 f vs0.toArray) h n fun v _ _ => v = .bool true) :
    Calls Tryz.prog f vs.toArray w fun e w' => e = .returned (.bool true) ∧ Below w.heap.size w w' := by
  obtain ⟨m, x⟩ := laid_hG hw
  exact Ev.law_of ev_names ev_progK ev_mix known okd ha x fun n h vs0 hn hg q => r n h vs0 hn (by rw [hg _ (by decide +kernel)]; exact get_eq _ _ _) q
theorem k_letter (lf d n : Nat) (h : H) (hg : h.get 0 = some ⟨3, false, gV⟩) (hn : 0 < n) : Run (fun _ => False) n (evCall2 Tryz.prog gt lf (d + 1) 24 #[]) h n fun v' h' n' => v' = .bool true ∧ h' = h ∧ n' = n := by
  have e : evCall2 Tryz.prog gt lf (d + 1) 24 #[] = (chkG Tryz.prog KG).bind fun _ => M.ret (.bool true) := by kernel_rfl
  rw [e]
  have rdg : ∀ (k : Nat) (v : Value), gV[k]? = some v → rd 0 k h n = some ⟨v, h, n, [⟨false, 0, some k⟩]⟩ := fun k v hk => by
    unfold rd
    simp only [hn, hg, hk, if_true]
  have hsz : decide (0 < Tryz.prog.globals.size) = true := by decide +kernel
  have stp : ∀ (k : Nat) (x : Int) (l : List (Nat × Nat × Value)) (L : List En), gV[k]? = some (.int .i64 x) → chkG Tryz.prog l h n = some ⟨(), h, n, L⟩ → chkG Tryz.prog ((0, k, .int .i64 x) :: l) h n = some ⟨(), h, n, [⟨false, 0, some k⟩] ++ L⟩ := fun k x l L hk hl => by
    unfold chkG
    refine bind_run (rdg k _ hk) ?_
    simp only [hsz, sameI, decide_true, Bool.and_self, if_true]
    exact hl
  have c := stp 0 200 _ _ rfl (stp 1 600 _ _ rfl (stp 2 1200 _ _ rfl (stp 3 2400 [] [] rfl rfl)))
  refine Run.step c (Nat.le_refl _) (by simp) ?_
  rw [run_ret]
  exact ⟨rfl, rfl, rfl⟩

theorem run_letter {lf d n n0 : Nat} {h : H} {W : Nat → Prop} (hn : n0 ≤ n) (hg : h.get 0 = some ⟨3, false, gV⟩) (hn' : 0 < n) : Run W n0 ((inside (evCall2 Tryz.prog gt lf (d + 1) 24 #[])).bind fun v => outK [v]) h n fun v _ _ => v = .bool true := by
  refine run_same (k_letter lf d n h hg hn') hn (fun _ _ h => h.elim) ?_
  rw [run_out1]
section
variable {lf d n : Nat} {h : H}
theorem eS0 : (ByteArray.mk #[]) = ⟨([] : List UInt8).toArray⟩ := rfl
end
end Go.Proofs.YthhhkplbjcknkaaGreatDoor

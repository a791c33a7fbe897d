/- Layer 9's statements: from the second form to calls. -/
import Derived.Test.YtapdcejhfooahaaLh
import Derived.Test.YtapdcejhfooahaaLCl
import Derived.Test.YtapdcejhfooahaaEvU
namespace Go.Proofs.Ytapdcejhfooahaa
set_option linter.unusedVariables false
set_option linter.unusedSimpArgs false
open Go.RowKit Ev

theorem ev_progK : Ev.okProg Try.prog Ev.KN = true := by kernel_rfl
theorem kn9 : Ev.Known Try.prog Ev.KN := by
  intro f hf _ w
  have : f = 9 := by simpa [Ev.KN] using hf
  subst this
  exact l_three w
theorem one_law {f : FuncId} {v : Value} {xs : List Int} {w : World} (ha : ArgAt w v xs) (r : ∀ n h v0, Row h n 3 .i64 v0 xs → Run (fun _ => False) n (evCall2 Try.prog gt 3000000 1000 f #[v0]) h n fun v _ _ => v = .bool true) :
    Calls Try.prog f #[v] w fun e w' => e = .returned (.bool true) ∧ Below w.heap.size w w' :=
  Ev.law_one ev_names ev_progK ev_mix kn9 okd ha sz3 fun n h v0 _ hR => r n h v0 hR
theorem two_law {f : FuncId} {v v2 : Value} {xs ys : List Int} {w : World} (ha : ArgAt w v xs) (hb : ArgAt w v2 ys) (r : ∀ n h v0 v1, Row h n 3 .i64 v0 xs → Row h n 3 .i64 v1 ys → Run (fun _ => False) n (evCall2 Try.prog gt 3000000 1000 f #[v0, v1]) h n fun v _ _ => v = .bool true) :
    Calls Try.prog f #[v, v2] w fun e w' => e = .returned (.bool true) ∧ Below w.heap.size w w' :=
  Ev.law_two ev_names ev_progK ev_mix kn9 okd ha hb sz3 fun n h v0 v1 _ hR hR2 => r n h v0 v1 hR hR2

end Go.Proofs.Ytapdcejhfooahaa

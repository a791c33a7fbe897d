/- A byte of a string by its place. No program in sight. -/
import Derived.Test.YtbakfaihnecmoaaPlain
namespace Go.Proofs.Ytbakfaihnecmoaa
set_option linter.unusedVariables false
set_option linter.unusedSimpArgs false
theorem getD_get0 (s : ByteArray) (j : Nat) (h : j < s.size) : s.data.toList.getD j 0 = s[j] := by
  rw [List.getD_eq_getElem?_getD, List.getElem?_eq_getElem (by simpa using h)]; rfl
end Go.Proofs.Ytbakfaihnecmoaa

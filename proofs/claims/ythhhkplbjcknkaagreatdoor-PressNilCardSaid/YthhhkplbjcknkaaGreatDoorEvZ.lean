/- A part of the second form that the kernel itself runs; statements whose arguments hold no slices. No program in sight. -/
import Derived.Test.YthhhkplbjcknkaaGreatDoorEvY
namespace Go.Proofs.YthhhkplbjcknkaaGreatDoor.Ev
set_option linter.unusedVariables false
set_option linter.unusedSimpArgs false
open Go Go.RowKit

section
variable {P : Program} {w : World} {f : Nat} {t : TypeId} {v : Value}
end

end Go.Proofs.YthhhkplbjcknkaaGreatDoor.Ev

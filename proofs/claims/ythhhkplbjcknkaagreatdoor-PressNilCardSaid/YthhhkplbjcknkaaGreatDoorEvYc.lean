/- Rows of bytes; appending to a row that was there ahead of the call. No program in sight. -/
import Derived.Test.YthhhkplbjcknkaaGreatDoorEvYb
namespace Go.Proofs.YthhhkplbjcknkaaGreatDoor.Ev
set_option linter.unusedVariables false
set_option linter.unusedSimpArgs false
open Go Go.RowKit
def u8V (ws : List Nat) : List Value := ws.map fun (x : Nat) => Value.int .u8 (x : Int)
section
variable {β : Type} {W : Nat → Prop} {n0 : Nat} {h : H} {n : Nat} {Q : β → H → Nat → Prop} {P : Program}
end

end Go.Proofs.YthhhkplbjcknkaaGreatDoor.Ev

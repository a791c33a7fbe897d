/- Bits: fields, bytes out of bits, what putting a bit makes of bytes; the machine's own operations on them. No program in sight. -/
import Derived.Laws.BitsAllLaws
import Derived.IntWalk
namespace Go.Proofs.YthhhkplbjcknkaaGreatDoor
set_option linter.unusedVariables false
set_option linter.unusedSimpArgs false
open Go

def bn (b : Bool) : Nat := if b then 1 else 0
/-- the number of bits, the highest first -/
def num : List Bool → Nat → Nat
  | [], a => a
  | b :: l, a => num l (2 * a + bn b)
/-- what the byte that is not whole holds -/
def restN (r : List Bool) : Nat := num r 0 * 2 ^ (8 - r.length)
end Go.Proofs.YthhhkplbjcknkaaGreatDoor

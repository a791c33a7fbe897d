/-
  No cell of these rows narrows 'for every input' (looked for: loops, veiled, ifaces, maps, wideKeys, modest, calm, conditions, laid).
  DERIVED. THE GIVEN ROWS OF THIS SEAT. 12 by the template 'for every input the law returns true; each argument reads behind the call as it read before'; 0 by the template 'total and deterministic' (their statements: YtmbmlinbggmipaaTotals.lean).
  GIVEN WITH THE SEED: the statements are not yours to turn. If you find one false, say at which input.
  Laid BY PROGRAM, IN A SANDBOX (cutbox-rows.mjs): the forced cells as the released guide's own fill.sh prints them over the translation 14694d8885fba624… (all of the seat's roots in one cut). By AI agents, Wed Nov 11 2026. No macro, syntax, notation, axiom, sorry.
-/
import Derived.Test.YtmbmlinbggmipaaChecked
import GoSem.Claim
import GoSem.ClaimJoined
import GoSem.ClaimMapViews
import Derived.JoinedTies
import Derived.KernelRfl
namespace Go.Proofs.Ytmbmlinbggmipaa
/- THE CELL 'sum', in the pinned program and in every row, IS THE sha256 OF THE DUMP (.gsa) THAT YtmbmlinbggmipaaProg.lean LOADS. Nothing in Lean hashes anything: it is a label: what it is worth is what the hold of that sum in a sandbox is worth. -/
noncomputable def Try.pinned : Pinned := { name := "ytmbmlinbggmipaa", sum := "14694d8885fba6247893dfc04e6d66ea2b64f044f1478d47151d26bd55de9f43", checked := Try.checked }
namespace Rows
def none {H : Type} : Left H := { results := [], args := [] }

/-- 'balerlaw15.RotatePeriods': WHATEVER THE INPUT: true; the input reads as it did. -/
def rotatePeriodsSpec : ChangeSpec := { name := "rotatePeriods", fn := fun _ => fun
  | [d] => { results := [.lit (.bool true)], args := [d] }
  | _ => none }
def rotatePeriodsRow : OpenClaim := { program := "ytmbmlinbggmipaa", sum := "14694d8885fba6247893dfc04e6d66ea2b64f044f1478d47151d26bd55de9f43", func := "baler/balerlaw15.RotatePeriods", spec := "rotatePeriods", unfollowed := true, recurses := true, apart := false }
def RotatePeriodsSaid : Prop := rotatePeriodsRow.holds Try.pinned (OpenSpec.ofChange rotatePeriodsSpec)

/-- ITS FALSE NEIGHBOUR: 'it returns false'. Refute it at one input. -/
def rotatePeriodsWrong : ChangeSpec := { name := "rotatePeriods", fn := fun _ => fun
  | [d] => { results := [.lit (.bool false)], args := [d] }
  | _ => none }
def RotatePeriodsWrongFalsely : Prop := rotatePeriodsRow.holds Try.pinned (OpenSpec.ofChange rotatePeriodsWrong)

/-- 'balerlaw15.RotateSorts': WHATEVER THE INPUT: true; the input reads as it did. -/
def rotateSortsSpec : ChangeSpec := { name := "rotateSorts", fn := fun _ => fun
  | [d1, d2] => { results := [.lit (.bool true)], args := [d1, d2] }
  | _ => none }
def rotateSortsRow : OpenClaim := { program := "ytmbmlinbggmipaa", sum := "14694d8885fba6247893dfc04e6d66ea2b64f044f1478d47151d26bd55de9f43", func := "baler/balerlaw15.RotateSorts", spec := "rotateSorts", unfollowed := true, recurses := true, apart := false }
def RotateSortsSaid : Prop := rotateSortsRow.holds Try.pinned (OpenSpec.ofChange rotateSortsSpec)

/-- ITS FALSE NEIGHBOUR: 'it returns false'. Refute it at one input. -/
def rotateSortsWrong : ChangeSpec := { name := "rotateSorts", fn := fun _ => fun
  | [d1, d2] => { results := [.lit (.bool false)], args := [d1, d2] }
  | _ => none }
def RotateSortsWrongFalsely : Prop := rotateSortsRow.holds Try.pinned (OpenSpec.ofChange rotateSortsWrong)

/-- 'balerlaw15.RotateOne': WHATEVER THE INPUT: true; the input reads as it did. -/
def rotateOneSpec : ChangeSpec := { name := "rotateOne", fn := fun _ => fun
  | [d1, d2, d3] => { results := [.lit (.bool true)], args := [d1, d2, d3] }
  | _ => none }
def rotateOneRow : OpenClaim := { program := "ytmbmlinbggmipaa", sum := "14694d8885fba6247893dfc04e6d66ea2b64f044f1478d47151d26bd55de9f43", func := "baler/balerlaw15.RotateOne", spec := "rotateOne", unfollowed := true, recurses := true, apart := false }
def RotateOneSaid : Prop := rotateOneRow.holds Try.pinned (OpenSpec.ofChange rotateOneSpec)

/-- ITS FALSE NEIGHBOUR: 'it returns false'. Refute it at one input. -/
def rotateOneWrong : ChangeSpec := { name := "rotateOne", fn := fun _ => fun
  | [d1, d2, d3] => { results := [.lit (.bool false)], args := [d1, d2, d3] }
  | _ => none }
def RotateOneWrongFalsely : Prop := rotateOneRow.holds Try.pinned (OpenSpec.ofChange rotateOneWrong)

/-- 'balerlaw15.RotateCompares': WHATEVER THE INPUT: true; the input reads as it did. -/
def rotateComparesSpec : ChangeSpec := { name := "rotateCompares", fn := fun _ => fun
  | [d1, d2, d3] => { results := [.lit (.bool true)], args := [d1, d2, d3] }
  | _ => none }
def rotateComparesRow : OpenClaim := { program := "ytmbmlinbggmipaa", sum := "14694d8885fba6247893dfc04e6d66ea2b64f044f1478d47151d26bd55de9f43", func := "baler/balerlaw15.RotateCompares", spec := "rotateCompares", unfollowed := true, recurses := true, apart := false }
def RotateComparesSaid : Prop := rotateComparesRow.holds Try.pinned (OpenSpec.ofChange rotateComparesSpec)

/-- ITS FALSE NEIGHBOUR: 'it returns false'. Refute it at one input. -/
def rotateComparesWrong : ChangeSpec := { name := "rotateCompares", fn := fun _ => fun
  | [d1, d2, d3] => { results := [.lit (.bool false)], args := [d1, d2, d3] }
  | _ => none }
def RotateComparesWrongFalsely : Prop := rotateComparesRow.holds Try.pinned (OpenSpec.ofChange rotateComparesWrong)

/-- 'balerlaw15.RotateAlike': WHATEVER THE INPUT: true; the input reads as it did. -/
def rotateAlikeSpec : ChangeSpec := { name := "rotateAlike", fn := fun _ => fun
  | [d1, d2, d3] => { results := [.lit (.bool true)], args := [d1, d2, d3] }
  | _ => none }
def rotateAlikeRow : OpenClaim := { program := "ytmbmlinbggmipaa", sum := "14694d8885fba6247893dfc04e6d66ea2b64f044f1478d47151d26bd55de9f43", func := "baler/balerlaw15.RotateAlike", spec := "rotateAlike", unfollowed := true, recurses := true, apart := false }
def RotateAlikeSaid : Prop := rotateAlikeRow.holds Try.pinned (OpenSpec.ofChange rotateAlikeSpec)

/-- ITS FALSE NEIGHBOUR: 'it returns false'. Refute it at one input. -/
def rotateAlikeWrong : ChangeSpec := { name := "rotateAlike", fn := fun _ => fun
  | [d1, d2, d3] => { results := [.lit (.bool false)], args := [d1, d2, d3] }
  | _ => none }
def RotateAlikeWrongFalsely : Prop := rotateAlikeRow.holds Try.pinned (OpenSpec.ofChange rotateAlikeWrong)

/-- 'balerlaw07.ZerosEncodes': WHATEVER THE INPUT: true; the input reads as it did. -/
def zerosEncodesSpec : ChangeSpec := { name := "zerosEncodes", fn := fun _ => fun
  | [d1, d2] => { results := [.lit (.bool true)], args := [d1, d2] }
  | _ => none }
def zerosEncodesRow : OpenClaim := { program := "ytmbmlinbggmipaa", sum := "14694d8885fba6247893dfc04e6d66ea2b64f044f1478d47151d26bd55de9f43", func := "baler/balerlaw07.ZerosEncodes", spec := "zerosEncodes", recurses := true, apart := false }
def ZerosEncodesSaid : Prop := zerosEncodesRow.holds Try.pinned (OpenSpec.ofChange zerosEncodesSpec)

/-- ITS FALSE NEIGHBOUR: 'it returns false'. Refute it at one input. -/
def zerosEncodesWrong : ChangeSpec := { name := "zerosEncodes", fn := fun _ => fun
  | [d1, d2] => { results := [.lit (.bool false)], args := [d1, d2] }
  | _ => none }
def ZerosEncodesWrongFalsely : Prop := zerosEncodesRow.holds Try.pinned (OpenSpec.ofChange zerosEncodesWrong)

/-- 'balerlaw07.ZerosReads': WHATEVER THE INPUT: true; the input reads as it did. -/
def zerosReadsSpec : ChangeSpec := { name := "zerosReads", fn := fun _ => fun
  | [d1, d2, d3] => { results := [.lit (.bool true)], args := [d1, d2, d3] }
  | _ => none }
def zerosReadsRow : OpenClaim := { program := "ytmbmlinbggmipaa", sum := "14694d8885fba6247893dfc04e6d66ea2b64f044f1478d47151d26bd55de9f43", func := "baler/balerlaw07.ZerosReads", spec := "zerosReads", apart := false }
def ZerosReadsSaid : Prop := zerosReadsRow.holds Try.pinned (OpenSpec.ofChange zerosReadsSpec)

/-- ITS FALSE NEIGHBOUR: 'it returns false'. Refute it at one input. -/
def zerosReadsWrong : ChangeSpec := { name := "zerosReads", fn := fun _ => fun
  | [d1, d2, d3] => { results := [.lit (.bool false)], args := [d1, d2, d3] }
  | _ => none }
def ZerosReadsWrongFalsely : Prop := zerosReadsRow.holds Try.pinned (OpenSpec.ofChange zerosReadsWrong)

/-- 'balerlaw07.ZerosDecodes': WHATEVER THE INPUT: true; the input reads as it did. -/
def zerosDecodesSpec : ChangeSpec := { name := "zerosDecodes", fn := fun _ => fun
  | [d1, d2, d3] => { results := [.lit (.bool true)], args := [d1, d2, d3] }
  | _ => none }
def zerosDecodesRow : OpenClaim := { program := "ytmbmlinbggmipaa", sum := "14694d8885fba6247893dfc04e6d66ea2b64f044f1478d47151d26bd55de9f43", func := "baler/balerlaw07.ZerosDecodes", spec := "zerosDecodes", apart := false }
def ZerosDecodesSaid : Prop := zerosDecodesRow.holds Try.pinned (OpenSpec.ofChange zerosDecodesSpec)

/-- ITS FALSE NEIGHBOUR: 'it returns false'. Refute it at one input. -/
def zerosDecodesWrong : ChangeSpec := { name := "zerosDecodes", fn := fun _ => fun
  | [d1, d2, d3] => { results := [.lit (.bool false)], args := [d1, d2, d3] }
  | _ => none }
def ZerosDecodesWrongFalsely : Prop := zerosDecodesRow.holds Try.pinned (OpenSpec.ofChange zerosDecodesWrong)

/-- 'balerlaw07.ZerosBack': WHATEVER THE INPUT: true; the input reads as it did. -/
def zerosBackSpec : ChangeSpec := { name := "zerosBack", fn := fun _ => fun
  | [d1, d2] => { results := [.lit (.bool true)], args := [d1, d2] }
  | _ => none }
def zerosBackRow : OpenClaim := { program := "ytmbmlinbggmipaa", sum := "14694d8885fba6247893dfc04e6d66ea2b64f044f1478d47151d26bd55de9f43", func := "baler/balerlaw07.ZerosBack", spec := "zerosBack", recurses := true, apart := false }
def ZerosBackSaid : Prop := zerosBackRow.holds Try.pinned (OpenSpec.ofChange zerosBackSpec)

/-- ITS FALSE NEIGHBOUR: 'it returns false'. Refute it at one input. -/
def zerosBackWrong : ChangeSpec := { name := "zerosBack", fn := fun _ => fun
  | [d1, d2] => { results := [.lit (.bool false)], args := [d1, d2] }
  | _ => none }
def ZerosBackWrongFalsely : Prop := zerosBackRow.holds Try.pinned (OpenSpec.ofChange zerosBackWrong)

/-- 'balerlaw07.ZerosForth': WHATEVER THE INPUT: true; the input reads as it did. -/
def zerosForthSpec : ChangeSpec := { name := "zerosForth", fn := fun _ => fun
  | [d1, d2] => { results := [.lit (.bool true)], args := [d1, d2] }
  | _ => none }
def zerosForthRow : OpenClaim := { program := "ytmbmlinbggmipaa", sum := "14694d8885fba6247893dfc04e6d66ea2b64f044f1478d47151d26bd55de9f43", func := "baler/balerlaw07.ZerosForth", spec := "zerosForth", apart := false }
def ZerosForthSaid : Prop := zerosForthRow.holds Try.pinned (OpenSpec.ofChange zerosForthSpec)

/-- ITS FALSE NEIGHBOUR: 'it returns false'. Refute it at one input. -/
def zerosForthWrong : ChangeSpec := { name := "zerosForth", fn := fun _ => fun
  | [d1, d2] => { results := [.lit (.bool false)], args := [d1, d2] }
  | _ => none }
def ZerosForthWrongFalsely : Prop := zerosForthRow.holds Try.pinned (OpenSpec.ofChange zerosForthWrong)

/-- 'balerlaw07.ZerosNil': WHATEVER THE INPUT: true; the input reads as it did. -/
def zerosNilSpec : ChangeSpec := { name := "zerosNil", fn := fun _ => fun
  | [d] => { results := [.lit (.bool true)], args := [d] }
  | _ => none }
def zerosNilRow : OpenClaim := { program := "ytmbmlinbggmipaa", sum := "14694d8885fba6247893dfc04e6d66ea2b64f044f1478d47151d26bd55de9f43", func := "baler/balerlaw07.ZerosNil", spec := "zerosNil", apart := false }
def ZerosNilSaid : Prop := zerosNilRow.holds Try.pinned (OpenSpec.ofChange zerosNilSpec)

/-- ITS FALSE NEIGHBOUR: 'it returns false'. Refute it at one input. -/
def zerosNilWrong : ChangeSpec := { name := "zerosNil", fn := fun _ => fun
  | [d] => { results := [.lit (.bool false)], args := [d] }
  | _ => none }
def ZerosNilWrongFalsely : Prop := zerosNilRow.holds Try.pinned (OpenSpec.ofChange zerosNilWrong)

/-- 'balerlaw07.ZerosRow': WHATEVER THE INPUT: true; the input reads as it did. -/
def zerosRowSpec : ChangeSpec := { name := "zerosRow", fn := fun _ => fun
  | [d] => { results := [.lit (.bool true)], args := [d] }
  | _ => none }
def zerosRowRow : OpenClaim := { program := "ytmbmlinbggmipaa", sum := "14694d8885fba6247893dfc04e6d66ea2b64f044f1478d47151d26bd55de9f43", func := "baler/balerlaw07.ZerosRow", spec := "zerosRow", recurses := true, apart := false }
def ZerosRowSaid : Prop := zerosRowRow.holds Try.pinned (OpenSpec.ofChange zerosRowSpec)

/-- ITS FALSE NEIGHBOUR: 'it returns false'. Refute it at one input. -/
def zerosRowWrong : ChangeSpec := { name := "zerosRow", fn := fun _ => fun
  | [d] => { results := [.lit (.bool false)], args := [d] }
  | _ => none }
def ZerosRowWrongFalsely : Prop := zerosRowRow.holds Try.pinned (OpenSpec.ofChange zerosRowWrong)

/- THE SECOND FORM. 'bulk': how many values and letters a reading holds, each counted each time it is reached (what is shared counts as often as it is met; a slice's spare places count too). A statement '..UptoSaid' is the law's where the arguments, and the package variables that the reading takes, are together of bulk at most 1048576: NARROWER than '..Said'. Prove '..Said' where nothing that the law and all that it calls make is longer than what came in: it says more and counts as full. Else prove '..UptoSaid'. A law counts once. -/
mutual
def uptoBulk {H : Type} : DataW H → Nat
  | .lit (.string bytes) => bytes.length + 1
  | .lit _ => 1
  | .nil => 1
  | .ptr d => uptoBulk d + 1
  | .slice elems spare => uptoBulkAll elems + uptoBulkAll spare + 1
  | .agg parts => uptoBulkAll parts + 1
  | .iface _ d => uptoBulk d + 1
  | .map entries => uptoBulkEntries entries + 1
  | .held _ => 1
def uptoBulkAll {H : Type} : List (DataW H) → Nat
  | [] => 0
  | d :: r => uptoBulk d + uptoBulkAll r
def uptoBulkEntries {H : Type} : List (Lit × DataW H) → Nat
  | [] => 0
  | x :: r => uptoBulkEntry x + uptoBulkEntries r
def uptoBulkEntry {H : Type} : Lit × DataW H → Nat
  | (.string bytes, d) => bytes.length + uptoBulk d + 1
  | (_, d) => uptoBulk d + 1
 end
def uptoSmall : (H : Type) → List (DataW H) → Bool := fun _ ds => decide (uptoBulkAll ds ≤ 1048576)
def OpenSpec.upto (s : _root_.Go.ChangeSpec) : _root_.Go.OpenSpec := { _root_.Go.OpenSpec.ofChange s with cond := some uptoSmall }

/-- 'balerlaw15.RotatePeriods', WHERE WHAT IT READS IS OF BULK AT MOST 1048576: true; the input reads as it did. -/
def rotatePeriodsUptoRow : OpenClaim := { program := "ytmbmlinbggmipaa", sum := "14694d8885fba6247893dfc04e6d66ea2b64f044f1478d47151d26bd55de9f43", func := "baler/balerlaw15.RotatePeriods", spec := "rotatePeriods", unfollowed := true, recurses := true, apart := false, narrowed := true }
def RotatePeriodsUptoSaid : Prop := rotatePeriodsUptoRow.holds Try.pinned (OpenSpec.upto rotatePeriodsSpec)

/-- 'balerlaw15.RotateSorts', WHERE WHAT IT READS IS OF BULK AT MOST 1048576: true; the input reads as it did. -/
def rotateSortsUptoRow : OpenClaim := { program := "ytmbmlinbggmipaa", sum := "14694d8885fba6247893dfc04e6d66ea2b64f044f1478d47151d26bd55de9f43", func := "baler/balerlaw15.RotateSorts", spec := "rotateSorts", unfollowed := true, recurses := true, apart := false, narrowed := true }
def RotateSortsUptoSaid : Prop := rotateSortsUptoRow.holds Try.pinned (OpenSpec.upto rotateSortsSpec)

/-- 'balerlaw15.RotateOne', WHERE WHAT IT READS IS OF BULK AT MOST 1048576: true; the input reads as it did. -/
def rotateOneUptoRow : OpenClaim := { program := "ytmbmlinbggmipaa", sum := "14694d8885fba6247893dfc04e6d66ea2b64f044f1478d47151d26bd55de9f43", func := "baler/balerlaw15.RotateOne", spec := "rotateOne", unfollowed := true, recurses := true, apart := false, narrowed := true }
def RotateOneUptoSaid : Prop := rotateOneUptoRow.holds Try.pinned (OpenSpec.upto rotateOneSpec)

/-- 'balerlaw15.RotateCompares', WHERE WHAT IT READS IS OF BULK AT MOST 1048576: true; the input reads as it did. -/
def rotateComparesUptoRow : OpenClaim := { program := "ytmbmlinbggmipaa", sum := "14694d8885fba6247893dfc04e6d66ea2b64f044f1478d47151d26bd55de9f43", func := "baler/balerlaw15.RotateCompares", spec := "rotateCompares", unfollowed := true, recurses := true, apart := false, narrowed := true }
def RotateComparesUptoSaid : Prop := rotateComparesUptoRow.holds Try.pinned (OpenSpec.upto rotateComparesSpec)

/-- 'balerlaw15.RotateAlike', WHERE WHAT IT READS IS OF BULK AT MOST 1048576: true; the input reads as it did. -/
def rotateAlikeUptoRow : OpenClaim := { program := "ytmbmlinbggmipaa", sum := "14694d8885fba6247893dfc04e6d66ea2b64f044f1478d47151d26bd55de9f43", func := "baler/balerlaw15.RotateAlike", spec := "rotateAlike", unfollowed := true, recurses := true, apart := false, narrowed := true }
def RotateAlikeUptoSaid : Prop := rotateAlikeUptoRow.holds Try.pinned (OpenSpec.upto rotateAlikeSpec)

/-- 'balerlaw07.ZerosEncodes', WHERE WHAT IT READS IS OF BULK AT MOST 1048576: true; the input reads as it did. -/
def zerosEncodesUptoRow : OpenClaim := { program := "ytmbmlinbggmipaa", sum := "14694d8885fba6247893dfc04e6d66ea2b64f044f1478d47151d26bd55de9f43", func := "baler/balerlaw07.ZerosEncodes", spec := "zerosEncodes", recurses := true, apart := false, narrowed := true }
def ZerosEncodesUptoSaid : Prop := zerosEncodesUptoRow.holds Try.pinned (OpenSpec.upto zerosEncodesSpec)

/-- 'balerlaw07.ZerosReads', WHERE WHAT IT READS IS OF BULK AT MOST 1048576: true; the input reads as it did. -/
def zerosReadsUptoRow : OpenClaim := { program := "ytmbmlinbggmipaa", sum := "14694d8885fba6247893dfc04e6d66ea2b64f044f1478d47151d26bd55de9f43", func := "baler/balerlaw07.ZerosReads", spec := "zerosReads", apart := false, narrowed := true }
def ZerosReadsUptoSaid : Prop := zerosReadsUptoRow.holds Try.pinned (OpenSpec.upto zerosReadsSpec)

/-- 'balerlaw07.ZerosDecodes', WHERE WHAT IT READS IS OF BULK AT MOST 1048576: true; the input reads as it did. -/
def zerosDecodesUptoRow : OpenClaim := { program := "ytmbmlinbggmipaa", sum := "14694d8885fba6247893dfc04e6d66ea2b64f044f1478d47151d26bd55de9f43", func := "baler/balerlaw07.ZerosDecodes", spec := "zerosDecodes", apart := false, narrowed := true }
def ZerosDecodesUptoSaid : Prop := zerosDecodesUptoRow.holds Try.pinned (OpenSpec.upto zerosDecodesSpec)

/-- 'balerlaw07.ZerosBack', WHERE WHAT IT READS IS OF BULK AT MOST 1048576: true; the input reads as it did. -/
def zerosBackUptoRow : OpenClaim := { program := "ytmbmlinbggmipaa", sum := "14694d8885fba6247893dfc04e6d66ea2b64f044f1478d47151d26bd55de9f43", func := "baler/balerlaw07.ZerosBack", spec := "zerosBack", recurses := true, apart := false, narrowed := true }
def ZerosBackUptoSaid : Prop := zerosBackUptoRow.holds Try.pinned (OpenSpec.upto zerosBackSpec)

/-- 'balerlaw07.ZerosForth', WHERE WHAT IT READS IS OF BULK AT MOST 1048576: true; the input reads as it did. -/
def zerosForthUptoRow : OpenClaim := { program := "ytmbmlinbggmipaa", sum := "14694d8885fba6247893dfc04e6d66ea2b64f044f1478d47151d26bd55de9f43", func := "baler/balerlaw07.ZerosForth", spec := "zerosForth", apart := false, narrowed := true }
def ZerosForthUptoSaid : Prop := zerosForthUptoRow.holds Try.pinned (OpenSpec.upto zerosForthSpec)

/-- 'balerlaw07.ZerosNil', WHERE WHAT IT READS IS OF BULK AT MOST 1048576: true; the input reads as it did. -/
def zerosNilUptoRow : OpenClaim := { program := "ytmbmlinbggmipaa", sum := "14694d8885fba6247893dfc04e6d66ea2b64f044f1478d47151d26bd55de9f43", func := "baler/balerlaw07.ZerosNil", spec := "zerosNil", apart := false, narrowed := true }
def ZerosNilUptoSaid : Prop := zerosNilUptoRow.holds Try.pinned (OpenSpec.upto zerosNilSpec)

/-- 'balerlaw07.ZerosRow', WHERE WHAT IT READS IS OF BULK AT MOST 1048576: true; the input reads as it did. -/
def zerosRowUptoRow : OpenClaim := { program := "ytmbmlinbggmipaa", sum := "14694d8885fba6247893dfc04e6d66ea2b64f044f1478d47151d26bd55de9f43", func := "baler/balerlaw07.ZerosRow", spec := "zerosRow", recurses := true, apart := false, narrowed := true }
def ZerosRowUptoSaid : Prop := zerosRowUptoRow.holds Try.pinned (OpenSpec.upto zerosRowSpec)

end Rows
end Go.Proofs.Ytmbmlinbggmipaa

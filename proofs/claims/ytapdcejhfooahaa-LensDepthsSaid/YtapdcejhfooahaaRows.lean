/-
  No cell of these rows narrows 'for every input' (looked for: loops, veiled, ifaces, maps, wideKeys, modest, calm, conditions, laid).
  DERIVED. THE GIVEN ROWS OF THIS SEAT. 6 by the template 'for every input the law returns true; each argument reads behind the call as it read before'; 0 by the template 'total and deterministic' (their statements: YtapdcejhfooahaaTotals.lean).
  GIVEN WITH THE SEED: the statements are not yours to turn. If you find one false, say at which input.
  Laid BY PROGRAM, IN A SANDBOX (cutbox-rows.mjs): the forced cells as the released guide's own fill.sh prints them over the translation a53aea0369d1715d… (all of the seat's roots in one cut). By AI agents, Wed Nov 11 2026. No macro, syntax, notation, axiom, sorry.
-/
import Derived.Test.YtapdcejhfooahaaChecked
import GoSem.Claim
import GoSem.ClaimJoined
import GoSem.ClaimMapViews
import Derived.JoinedTies
import Derived.KernelRfl
namespace Go.Proofs.Ytapdcejhfooahaa
/- THE CELL 'sum', in the pinned program and in every row, IS THE sha256 OF THE DUMP (.gsa) THAT YtapdcejhfooahaaProg.lean LOADS. Nothing in Lean hashes anything: it is a label: what it is worth is what the hold of that sum in a sandbox is worth. -/
noncomputable def Try.pinned : Pinned := { name := "ytapdcejhfooahaa", sum := "a53aea0369d1715dfca1fbabdea3f9507ed467faeca7f20069395bc18fd97176", checked := Try.checked }
namespace Rows
def none {H : Type} : Left H := { results := [], args := [] }

/-- 'balerlaw09.LensOf': WHATEVER THE INPUT: true; the input reads as it did. -/
def lensOfSpec : ChangeSpec := { name := "lensOf", fn := fun _ => fun
  | [d] => { results := [.lit (.bool true)], args := [d] }
  | _ => none }
def lensOfRow : OpenClaim := { program := "ytapdcejhfooahaa", sum := "a53aea0369d1715dfca1fbabdea3f9507ed467faeca7f20069395bc18fd97176", func := "baler/balerlaw09.LensOf", spec := "lensOf", unfollowed := true, recurses := true, apart := false }
def LensOfSaid : Prop := lensOfRow.holds Try.pinned (OpenSpec.ofChange lensOfSpec)

/-- ITS FALSE NEIGHBOUR: 'it returns false'. Refute it at one input. -/
def lensOfWrong : ChangeSpec := { name := "lensOf", fn := fun _ => fun
  | [d] => { results := [.lit (.bool false)], args := [d] }
  | _ => none }
def LensOfWrongFalsely : Prop := lensOfRow.holds Try.pinned (OpenSpec.ofChange lensOfWrong)

/-- 'balerlaw09.LensShare': WHATEVER THE INPUT: true; the input reads as it did. -/
def lensShareSpec : ChangeSpec := { name := "lensShare", fn := fun _ => fun
  | [d] => { results := [.lit (.bool true)], args := [d] }
  | _ => none }
def lensShareRow : OpenClaim := { program := "ytapdcejhfooahaa", sum := "a53aea0369d1715dfca1fbabdea3f9507ed467faeca7f20069395bc18fd97176", func := "baler/balerlaw09.LensShare", spec := "lensShare", unfollowed := true, recurses := true, apart := false }
def LensShareSaid : Prop := lensShareRow.holds Try.pinned (OpenSpec.ofChange lensShareSpec)

/-- ITS FALSE NEIGHBOUR: 'it returns false'. Refute it at one input. -/
def lensShareWrong : ChangeSpec := { name := "lensShare", fn := fun _ => fun
  | [d] => { results := [.lit (.bool false)], args := [d] }
  | _ => none }
def LensShareWrongFalsely : Prop := lensShareRow.holds Try.pinned (OpenSpec.ofChange lensShareWrong)

/-- 'balerlaw09.LensWhole': WHATEVER THE INPUT: true; the input reads as it did. -/
def lensWholeSpec : ChangeSpec := { name := "lensWhole", fn := fun _ => fun
  | [d] => { results := [.lit (.bool true)], args := [d] }
  | _ => none }
def lensWholeRow : OpenClaim := { program := "ytapdcejhfooahaa", sum := "a53aea0369d1715dfca1fbabdea3f9507ed467faeca7f20069395bc18fd97176", func := "baler/balerlaw09.LensWhole", spec := "lensWhole", unfollowed := true, recurses := true, apart := false }
def LensWholeSaid : Prop := lensWholeRow.holds Try.pinned (OpenSpec.ofChange lensWholeSpec)

/-- ITS FALSE NEIGHBOUR: 'it returns false'. Refute it at one input. -/
def lensWholeWrong : ChangeSpec := { name := "lensWhole", fn := fun _ => fun
  | [d] => { results := [.lit (.bool false)], args := [d] }
  | _ => none }
def LensWholeWrongFalsely : Prop := lensWholeRow.holds Try.pinned (OpenSpec.ofChange lensWholeWrong)

/-- 'balerlaw09.LensDepths': WHATEVER THE INPUT: true; the input reads as it did. -/
def lensDepthsSpec : ChangeSpec := { name := "lensDepths", fn := fun _ => fun
  | [d] => { results := [.lit (.bool true)], args := [d] }
  | _ => none }
def lensDepthsRow : OpenClaim := { program := "ytapdcejhfooahaa", sum := "a53aea0369d1715dfca1fbabdea3f9507ed467faeca7f20069395bc18fd97176", func := "baler/balerlaw09.LensDepths", spec := "lensDepths", unfollowed := true, recurses := true, apart := false }
def LensDepthsSaid : Prop := lensDepthsRow.holds Try.pinned (OpenSpec.ofChange lensDepthsSpec)

/-- ITS FALSE NEIGHBOUR: 'it returns false'. Refute it at one input. -/
def lensDepthsWrong : ChangeSpec := { name := "lensDepths", fn := fun _ => fun
  | [d] => { results := [.lit (.bool false)], args := [d] }
  | _ => none }
def LensDepthsWrongFalsely : Prop := lensDepthsRow.holds Try.pinned (OpenSpec.ofChange lensDepthsWrong)

/-- 'balerlaw09.LensCheap': WHATEVER THE INPUT: true; the input reads as it did. -/
def lensCheapSpec : ChangeSpec := { name := "lensCheap", fn := fun _ => fun
  | [d1, d2] => { results := [.lit (.bool true)], args := [d1, d2] }
  | _ => none }
def lensCheapRow : OpenClaim := { program := "ytapdcejhfooahaa", sum := "a53aea0369d1715dfca1fbabdea3f9507ed467faeca7f20069395bc18fd97176", func := "baler/balerlaw09.LensCheap", spec := "lensCheap", unfollowed := true, recurses := true, apart := false }
def LensCheapSaid : Prop := lensCheapRow.holds Try.pinned (OpenSpec.ofChange lensCheapSpec)

/-- ITS FALSE NEIGHBOUR: 'it returns false'. Refute it at one input. -/
def lensCheapWrong : ChangeSpec := { name := "lensCheap", fn := fun _ => fun
  | [d1, d2] => { results := [.lit (.bool false)], args := [d1, d2] }
  | _ => none }
def LensCheapWrongFalsely : Prop := lensCheapRow.holds Try.pinned (OpenSpec.ofChange lensCheapWrong)

/-- 'balerlaw09.LensOrder': WHATEVER THE INPUT: true; the input reads as it did. -/
def lensOrderSpec : ChangeSpec := { name := "lensOrder", fn := fun _ => fun
  | [d] => { results := [.lit (.bool true)], args := [d] }
  | _ => none }
def lensOrderRow : OpenClaim := { program := "ytapdcejhfooahaa", sum := "a53aea0369d1715dfca1fbabdea3f9507ed467faeca7f20069395bc18fd97176", func := "baler/balerlaw09.LensOrder", spec := "lensOrder", unfollowed := true, recurses := true, apart := false }
def LensOrderSaid : Prop := lensOrderRow.holds Try.pinned (OpenSpec.ofChange lensOrderSpec)

/-- ITS FALSE NEIGHBOUR: 'it returns false'. Refute it at one input. -/
def lensOrderWrong : ChangeSpec := { name := "lensOrder", fn := fun _ => fun
  | [d] => { results := [.lit (.bool false)], args := [d] }
  | _ => none }
def LensOrderWrongFalsely : Prop := lensOrderRow.holds Try.pinned (OpenSpec.ofChange lensOrderWrong)

/- THE SECOND FORM. 'bulk': how many values and letters a reading holds, each counted each time it is reached (what is shared counts as often as it is met; a slice's spare places count too). A statement '..UptoSaid' is the law's where the arguments, and the package variables that the reading takes, are together of bulk at most 1048576: NARROWER than '..Said'. Prove '..Said' where nothing that the law and all that it calls make is longer than what came in: it says more and counts as full. Else prove '..UptoSaid'. A law counts once. -/
mutual
def uptoBulk {H : Type} : DataW H → Nat
  | .lit (.string bytes) => bytes.length + 1
  | .lit _ => 1
  | .nil => 1
  | .ptr d => uptoBulk d + 1
  | .slice elems spare => uptoBulkAll elems + uptoBulkAll spare + 1
  | .agg parts => uptoBulkAll parts + 1
  | .iface _ d => uptoBulk d + 1
  | .map entries => uptoBulkEntries entries + 1
  | .held _ => 1
def uptoBulkAll {H : Type} : List (DataW H) → Nat
  | [] => 0
  | d :: r => uptoBulk d + uptoBulkAll r
def uptoBulkEntries {H : Type} : List (Lit × DataW H) → Nat
  | [] => 0
  | x :: r => uptoBulkEntry x + uptoBulkEntries r
def uptoBulkEntry {H : Type} : Lit × DataW H → Nat
  | (.string bytes, d) => bytes.length + uptoBulk d + 1
  | (_, d) => uptoBulk d + 1
 end
def uptoSmall : (H : Type) → List (DataW H) → Bool := fun _ ds => decide (uptoBulkAll ds ≤ 1048576)
def OpenSpec.upto (s : _root_.Go.ChangeSpec) : _root_.Go.OpenSpec := { _root_.Go.OpenSpec.ofChange s with cond := some uptoSmall }

/-- 'balerlaw09.LensOf', WHERE WHAT IT READS IS OF BULK AT MOST 1048576: true; the input reads as it did. -/
def lensOfUptoRow : OpenClaim := { program := "ytapdcejhfooahaa", sum := "a53aea0369d1715dfca1fbabdea3f9507ed467faeca7f20069395bc18fd97176", func := "baler/balerlaw09.LensOf", spec := "lensOf", unfollowed := true, recurses := true, apart := false, narrowed := true }
def LensOfUptoSaid : Prop := lensOfUptoRow.holds Try.pinned (OpenSpec.upto lensOfSpec)

/-- 'balerlaw09.LensShare', WHERE WHAT IT READS IS OF BULK AT MOST 1048576: true; the input reads as it did. -/
def lensShareUptoRow : OpenClaim := { program := "ytapdcejhfooahaa", sum := "a53aea0369d1715dfca1fbabdea3f9507ed467faeca7f20069395bc18fd97176", func := "baler/balerlaw09.LensShare", spec := "lensShare", unfollowed := true, recurses := true, apart := false, narrowed := true }
def LensShareUptoSaid : Prop := lensShareUptoRow.holds Try.pinned (OpenSpec.upto lensShareSpec)

/-- 'balerlaw09.LensWhole', WHERE WHAT IT READS IS OF BULK AT MOST 1048576: true; the input reads as it did. -/
def lensWholeUptoRow : OpenClaim := { program := "ytapdcejhfooahaa", sum := "a53aea0369d1715dfca1fbabdea3f9507ed467faeca7f20069395bc18fd97176", func := "baler/balerlaw09.LensWhole", spec := "lensWhole", unfollowed := true, recurses := true, apart := false, narrowed := true }
def LensWholeUptoSaid : Prop := lensWholeUptoRow.holds Try.pinned (OpenSpec.upto lensWholeSpec)

/-- 'balerlaw09.LensDepths', WHERE WHAT IT READS IS OF BULK AT MOST 1048576: true; the input reads as it did. -/
def lensDepthsUptoRow : OpenClaim := { program := "ytapdcejhfooahaa", sum := "a53aea0369d1715dfca1fbabdea3f9507ed467faeca7f20069395bc18fd97176", func := "baler/balerlaw09.LensDepths", spec := "lensDepths", unfollowed := true, recurses := true, apart := false, narrowed := true }
def LensDepthsUptoSaid : Prop := lensDepthsUptoRow.holds Try.pinned (OpenSpec.upto lensDepthsSpec)

/-- 'balerlaw09.LensCheap', WHERE WHAT IT READS IS OF BULK AT MOST 1048576: true; the input reads as it did. -/
def lensCheapUptoRow : OpenClaim := { program := "ytapdcejhfooahaa", sum := "a53aea0369d1715dfca1fbabdea3f9507ed467faeca7f20069395bc18fd97176", func := "baler/balerlaw09.LensCheap", spec := "lensCheap", unfollowed := true, recurses := true, apart := false, narrowed := true }
def LensCheapUptoSaid : Prop := lensCheapUptoRow.holds Try.pinned (OpenSpec.upto lensCheapSpec)

/-- 'balerlaw09.LensOrder', WHERE WHAT IT READS IS OF BULK AT MOST 1048576: true; the input reads as it did. -/
def lensOrderUptoRow : OpenClaim := { program := "ytapdcejhfooahaa", sum := "a53aea0369d1715dfca1fbabdea3f9507ed467faeca7f20069395bc18fd97176", func := "baler/balerlaw09.LensOrder", spec := "lensOrder", unfollowed := true, recurses := true, apart := false, narrowed := true }
def LensOrderUptoSaid : Prop := lensOrderUptoRow.holds Try.pinned (OpenSpec.upto lensOrderSpec)

end Rows
end Go.Proofs.Ytapdcejhfooahaa

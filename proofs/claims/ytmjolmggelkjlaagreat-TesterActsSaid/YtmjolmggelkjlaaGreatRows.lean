/-
  No cell of these rows narrows 'for every input' (looked for: loops, veiled, ifaces, maps, wideKeys, modest, calm, conditions, laid).
  DERIVED. THE GIVEN ROWS OF THIS SEAT. 9 by the template 'for every input the law returns true; each argument reads behind the call as it read before'; 0 by the template 'total and deterministic' (their statements: YtmjolmggelkjlaaGreatTotals.lean).
  GIVEN WITH THE SEED: the statements are not yours to turn. If you find one false, say at which input.
  Laid BY PROGRAM, IN A SANDBOX (cutbox-rows.mjs): the forced cells as the released guide's own fill.sh prints them over the translation 82ec2add6e61970d… (all of the seat's roots in one cut). By AI agents, Wed Nov 11 2026. No macro, syntax, notation, axiom, sorry.
-/
import Derived.Test.YtmjolmggelkjlaaGreatChecked
import GoSem.Claim
import GoSem.ClaimJoined
import GoSem.ClaimMapViews
import Derived.JoinedTies
import Derived.KernelRfl
namespace Go.Proofs.YtmjolmggelkjlaaGreat
/- THE CELL 'sum', in the pinned program and in every row, IS THE sha256 OF THE DUMP (.gsa) THAT YtmjolmggelkjlaaGreatProg.lean LOADS. Nothing in Lean hashes anything: it is a label: what it is worth is what the hold of that sum in a sandbox is worth. -/
noncomputable def Tryz.pinned : Pinned := { name := "ytmjolmggelkjlaagreat", sum := "82ec2add6e61970da3f9a5a91bf982b589c094618901d260c8fe9e1ad259ee56", checked := Tryz.checked }
namespace Rows
def none {H : Type} : Left H := { results := [], args := [] }

/-- 'balerlaw47.InspectParts': WHATEVER THE INPUT: true; the input reads as it did. -/
def inspectPartsSpec : ChangeSpec := { name := "inspectParts", fn := fun _ => fun
  | [d1, d2] => { results := [.lit (.bool true)], args := [d1, d2] }
  | _ => none }
def inspectPartsRow : OpenClaim := { program := "ytmjolmggelkjlaagreat", sum := "82ec2add6e61970da3f9a5a91bf982b589c094618901d260c8fe9e1ad259ee56", func := "baler/balerlaw47.InspectParts", spec := "inspectParts", inPlace := ["internal/abi.NoEscape"], unfollowed := true, recurses := true, apart := false }
def InspectPartsSaid : Prop := inspectPartsRow.holds Tryz.pinned (OpenSpec.ofChange inspectPartsSpec)

/-- ITS FALSE NEIGHBOUR: 'it returns false'. Refute it at one input. -/
def inspectPartsWrong : ChangeSpec := { name := "inspectParts", fn := fun _ => fun
  | [d1, d2] => { results := [.lit (.bool false)], args := [d1, d2] }
  | _ => none }
def InspectPartsWrongFalsely : Prop := inspectPartsRow.holds Tryz.pinned (OpenSpec.ofChange inspectPartsWrong)

/-- 'balerlaw47.InspectTexts': WHATEVER THE INPUT: true; the input reads as it did. -/
def inspectTextsSpec : ChangeSpec := { name := "inspectTexts", fn := fun _ => fun
  | [d] => { results := [.lit (.bool true)], args := [d] }
  | _ => none }
def inspectTextsRow : OpenClaim := { program := "ytmjolmggelkjlaagreat", sum := "82ec2add6e61970da3f9a5a91bf982b589c094618901d260c8fe9e1ad259ee56", func := "baler/balerlaw47.InspectTexts", spec := "inspectTexts", inPlace := ["internal/abi.NoEscape"], unfollowed := true, recurses := true, apart := false }
def InspectTextsSaid : Prop := inspectTextsRow.holds Tryz.pinned (OpenSpec.ofChange inspectTextsSpec)

/-- ITS FALSE NEIGHBOUR: 'it returns false'. Refute it at one input. -/
def inspectTextsWrong : ChangeSpec := { name := "inspectTexts", fn := fun _ => fun
  | [d] => { results := [.lit (.bool false)], args := [d] }
  | _ => none }
def InspectTextsWrongFalsely : Prop := inspectTextsRow.holds Tryz.pinned (OpenSpec.ofChange inspectTextsWrong)

/-- 'balerlaw47.InspectCounts': WHATEVER THE INPUT: true; the input reads as it did. -/
def inspectCountsSpec : ChangeSpec := { name := "inspectCounts", fn := fun _ => fun
  | [d] => { results := [.lit (.bool true)], args := [d] }
  | _ => none }
def inspectCountsRow : OpenClaim := { program := "ytmjolmggelkjlaagreat", sum := "82ec2add6e61970da3f9a5a91bf982b589c094618901d260c8fe9e1ad259ee56", func := "baler/balerlaw47.InspectCounts", spec := "inspectCounts", inPlace := ["internal/abi.NoEscape"], unfollowed := true, recurses := true, apart := false }
def InspectCountsSaid : Prop := inspectCountsRow.holds Tryz.pinned (OpenSpec.ofChange inspectCountsSpec)

/-- ITS FALSE NEIGHBOUR: 'it returns false'. Refute it at one input. -/
def inspectCountsWrong : ChangeSpec := { name := "inspectCounts", fn := fun _ => fun
  | [d] => { results := [.lit (.bool false)], args := [d] }
  | _ => none }
def InspectCountsWrongFalsely : Prop := inspectCountsRow.holds Tryz.pinned (OpenSpec.ofChange inspectCountsWrong)

/-- 'balerlaw47.InspectWhole': WHATEVER THE INPUT: true; the input reads as it did. -/
def inspectWholeSpec : ChangeSpec := { name := "inspectWhole", fn := fun _ => fun
  | [d1, d2, d3] => { results := [.lit (.bool true)], args := [d1, d2, d3] }
  | _ => none }
def inspectWholeRow : OpenClaim := { program := "ytmjolmggelkjlaagreat", sum := "82ec2add6e61970da3f9a5a91bf982b589c094618901d260c8fe9e1ad259ee56", func := "baler/balerlaw47.InspectWhole", spec := "inspectWhole", inPlace := ["internal/abi.NoEscape"], unfollowed := true, recurses := true, apart := false }
def InspectWholeSaid : Prop := inspectWholeRow.holds Tryz.pinned (OpenSpec.ofChange inspectWholeSpec)

/-- ITS FALSE NEIGHBOUR: 'it returns false'. Refute it at one input. -/
def inspectWholeWrong : ChangeSpec := { name := "inspectWhole", fn := fun _ => fun
  | [d1, d2, d3] => { results := [.lit (.bool false)], args := [d1, d2, d3] }
  | _ => none }
def InspectWholeWrongFalsely : Prop := inspectWholeRow.holds Tryz.pinned (OpenSpec.ofChange inspectWholeWrong)

/-- 'balerlaw24.UnpressPrefix': WHATEVER THE INPUT: true; the input reads as it did. -/
def unpressPrefixSpec : ChangeSpec := { name := "unpressPrefix", fn := fun _ => fun
  | [d1, d2, d3] => { results := [.lit (.bool true)], args := [d1, d2, d3] }
  | _ => none }
def unpressPrefixRow : OpenClaim := { program := "ytmjolmggelkjlaagreat", sum := "82ec2add6e61970da3f9a5a91bf982b589c094618901d260c8fe9e1ad259ee56", func := "baler/balerlaw24.UnpressPrefix", spec := "unpressPrefix", inPlace := ["internal/abi.NoEscape", "internal/bytealg.MakeNoZero"], unfollowed := true, recurses := true, apart := false }
def UnpressPrefixSaid : Prop := unpressPrefixRow.holds Tryz.pinned (OpenSpec.ofChange unpressPrefixSpec)

/-- ITS FALSE NEIGHBOUR: 'it returns false'. Refute it at one input. -/
def unpressPrefixWrong : ChangeSpec := { name := "unpressPrefix", fn := fun _ => fun
  | [d1, d2, d3] => { results := [.lit (.bool false)], args := [d1, d2, d3] }
  | _ => none }
def UnpressPrefixWrongFalsely : Prop := unpressPrefixRow.holds Tryz.pinned (OpenSpec.ofChange unpressPrefixWrong)

/-- 'balerlaw24.UnpressActs': WHATEVER THE INPUT: true; the input reads as it did. -/
def unpressActsSpec : ChangeSpec := { name := "unpressActs", fn := fun _ => fun
  | [d1, d2, d3] => { results := [.lit (.bool true)], args := [d1, d2, d3] }
  | _ => none }
def unpressActsRow : OpenClaim := { program := "ytmjolmggelkjlaagreat", sum := "82ec2add6e61970da3f9a5a91bf982b589c094618901d260c8fe9e1ad259ee56", func := "baler/balerlaw24.UnpressActs", spec := "unpressActs", inPlace := ["internal/abi.NoEscape", "internal/bytealg.MakeNoZero"], unfollowed := true, recurses := true, apart := false }
def UnpressActsSaid : Prop := unpressActsRow.holds Tryz.pinned (OpenSpec.ofChange unpressActsSpec)

/-- ITS FALSE NEIGHBOUR: 'it returns false'. Refute it at one input. -/
def unpressActsWrong : ChangeSpec := { name := "unpressActs", fn := fun _ => fun
  | [d1, d2, d3] => { results := [.lit (.bool false)], args := [d1, d2, d3] }
  | _ => none }
def UnpressActsWrongFalsely : Prop := unpressActsRow.holds Tryz.pinned (OpenSpec.ofChange unpressActsWrong)

/-- 'balerlaw24.UnpressStops': WHATEVER THE INPUT: true; the input reads as it did. -/
def unpressStopsSpec : ChangeSpec := { name := "unpressStops", fn := fun _ => fun
  | [d1, d2, d3] => { results := [.lit (.bool true)], args := [d1, d2, d3] }
  | _ => none }
def unpressStopsRow : OpenClaim := { program := "ytmjolmggelkjlaagreat", sum := "82ec2add6e61970da3f9a5a91bf982b589c094618901d260c8fe9e1ad259ee56", func := "baler/balerlaw24.UnpressStops", spec := "unpressStops", inPlace := ["internal/abi.NoEscape", "internal/bytealg.MakeNoZero"], unfollowed := true, recurses := true, apart := false }
def UnpressStopsSaid : Prop := unpressStopsRow.holds Tryz.pinned (OpenSpec.ofChange unpressStopsSpec)

/-- ITS FALSE NEIGHBOUR: 'it returns false'. Refute it at one input. -/
def unpressStopsWrong : ChangeSpec := { name := "unpressStops", fn := fun _ => fun
  | [d1, d2, d3] => { results := [.lit (.bool false)], args := [d1, d2, d3] }
  | _ => none }
def UnpressStopsWrongFalsely : Prop := unpressStopsRow.holds Tryz.pinned (OpenSpec.ofChange unpressStopsWrong)

/-- 'balerlaw25.TesterLong': WHATEVER THE INPUT: true; the input reads as it did. -/
def testerLongSpec : ChangeSpec := { name := "testerLong", fn := fun _ => fun
  | [d1, d2, d3] => { results := [.lit (.bool true)], args := [d1, d2, d3] }
  | _ => none }
def testerLongRow : OpenClaim := { program := "ytmjolmggelkjlaagreat", sum := "82ec2add6e61970da3f9a5a91bf982b589c094618901d260c8fe9e1ad259ee56", func := "baler/balerlaw25.TesterLong", spec := "testerLong", inPlace := ["internal/abi.NoEscape", "internal/bytealg.MakeNoZero"], unfollowed := true, recurses := true, apart := false }
def TesterLongSaid : Prop := testerLongRow.holds Tryz.pinned (OpenSpec.ofChange testerLongSpec)

/-- ITS FALSE NEIGHBOUR: 'it returns false'. Refute it at one input. -/
def testerLongWrong : ChangeSpec := { name := "testerLong", fn := fun _ => fun
  | [d1, d2, d3] => { results := [.lit (.bool false)], args := [d1, d2, d3] }
  | _ => none }
def TesterLongWrongFalsely : Prop := testerLongRow.holds Tryz.pinned (OpenSpec.ofChange testerLongWrong)

/-- 'balerlaw25.TesterActs': WHATEVER THE INPUT: true; the input reads as it did. -/
def testerActsSpec : ChangeSpec := { name := "testerActs", fn := fun _ => fun
  | [d1, d2, d3] => { results := [.lit (.bool true)], args := [d1, d2, d3] }
  | _ => none }
def testerActsRow : OpenClaim := { program := "ytmjolmggelkjlaagreat", sum := "82ec2add6e61970da3f9a5a91bf982b589c094618901d260c8fe9e1ad259ee56", func := "baler/balerlaw25.TesterActs", spec := "testerActs", inPlace := ["internal/abi.NoEscape", "internal/bytealg.MakeNoZero"], unfollowed := true, recurses := true, apart := false }
def TesterActsSaid : Prop := testerActsRow.holds Tryz.pinned (OpenSpec.ofChange testerActsSpec)

/-- ITS FALSE NEIGHBOUR: 'it returns false'. Refute it at one input. -/
def testerActsWrong : ChangeSpec := { name := "testerActs", fn := fun _ => fun
  | [d1, d2, d3] => { results := [.lit (.bool false)], args := [d1, d2, d3] }
  | _ => none }
def TesterActsWrongFalsely : Prop := testerActsRow.holds Tryz.pinned (OpenSpec.ofChange testerActsWrong)

/- THE SECOND FORM. 'bulk': how many values and letters a reading holds, each counted each time it is reached (what is shared counts as often as it is met; a slice's spare places count too). A statement '..UptoSaid' is the law's where the arguments, and the package variables that the reading takes, are together of bulk at most 1048576: NARROWER than '..Said'. Prove '..Said' where nothing that the law and all that it calls make is longer than what came in: it says more and counts as full. Else prove '..UptoSaid'. A law counts once. -/
mutual
def uptoBulk {H : Type} : DataW H → Nat
  | .lit (.string bytes) => bytes.length + 1
  | .lit _ => 1
  | .nil => 1
  | .ptr d => uptoBulk d + 1
  | .slice elems spare => uptoBulkAll elems + uptoBulkAll spare + 1
  | .agg parts => uptoBulkAll parts + 1
  | .iface _ d => uptoBulk d + 1
  | .map entries => uptoBulkEntries entries + 1
  | .held _ => 1
def uptoBulkAll {H : Type} : List (DataW H) → Nat
  | [] => 0
  | d :: r => uptoBulk d + uptoBulkAll r
def uptoBulkEntries {H : Type} : List (Lit × DataW H) → Nat
  | [] => 0
  | x :: r => uptoBulkEntry x + uptoBulkEntries r
def uptoBulkEntry {H : Type} : Lit × DataW H → Nat
  | (.string bytes, d) => bytes.length + uptoBulk d + 1
  | (_, d) => uptoBulk d + 1
 end
def uptoSmall : (H : Type) → List (DataW H) → Bool := fun _ ds => decide (uptoBulkAll ds ≤ 1048576)
def OpenSpec.upto (s : _root_.Go.ChangeSpec) : _root_.Go.OpenSpec := { _root_.Go.OpenSpec.ofChange s with cond := some uptoSmall }

/-- 'balerlaw47.InspectParts', WHERE WHAT IT READS IS OF BULK AT MOST 1048576: true; the input reads as it did. -/
def inspectPartsUptoRow : OpenClaim := { program := "ytmjolmggelkjlaagreat", sum := "82ec2add6e61970da3f9a5a91bf982b589c094618901d260c8fe9e1ad259ee56", func := "baler/balerlaw47.InspectParts", spec := "inspectParts", inPlace := ["internal/abi.NoEscape"], unfollowed := true, recurses := true, apart := false, narrowed := true }
def InspectPartsUptoSaid : Prop := inspectPartsUptoRow.holds Tryz.pinned (OpenSpec.upto inspectPartsSpec)

/-- 'balerlaw47.InspectTexts', WHERE WHAT IT READS IS OF BULK AT MOST 1048576: true; the input reads as it did. -/
def inspectTextsUptoRow : OpenClaim := { program := "ytmjolmggelkjlaagreat", sum := "82ec2add6e61970da3f9a5a91bf982b589c094618901d260c8fe9e1ad259ee56", func := "baler/balerlaw47.InspectTexts", spec := "inspectTexts", inPlace := ["internal/abi.NoEscape"], unfollowed := true, recurses := true, apart := false, narrowed := true }
def InspectTextsUptoSaid : Prop := inspectTextsUptoRow.holds Tryz.pinned (OpenSpec.upto inspectTextsSpec)

/-- 'balerlaw47.InspectCounts', WHERE WHAT IT READS IS OF BULK AT MOST 1048576: true; the input reads as it did. -/
def inspectCountsUptoRow : OpenClaim := { program := "ytmjolmggelkjlaagreat", sum := "82ec2add6e61970da3f9a5a91bf982b589c094618901d260c8fe9e1ad259ee56", func := "baler/balerlaw47.InspectCounts", spec := "inspectCounts", inPlace := ["internal/abi.NoEscape"], unfollowed := true, recurses := true, apart := false, narrowed := true }
def InspectCountsUptoSaid : Prop := inspectCountsUptoRow.holds Tryz.pinned (OpenSpec.upto inspectCountsSpec)

/-- 'balerlaw47.InspectWhole', WHERE WHAT IT READS IS OF BULK AT MOST 1048576: true; the input reads as it did. -/
def inspectWholeUptoRow : OpenClaim := { program := "ytmjolmggelkjlaagreat", sum := "82ec2add6e61970da3f9a5a91bf982b589c094618901d260c8fe9e1ad259ee56", func := "baler/balerlaw47.InspectWhole", spec := "inspectWhole", inPlace := ["internal/abi.NoEscape"], unfollowed := true, recurses := true, apart := false, narrowed := true }
def InspectWholeUptoSaid : Prop := inspectWholeUptoRow.holds Tryz.pinned (OpenSpec.upto inspectWholeSpec)

/-- 'balerlaw24.UnpressPrefix', WHERE WHAT IT READS IS OF BULK AT MOST 1048576: true; the input reads as it did. -/
def unpressPrefixUptoRow : OpenClaim := { program := "ytmjolmggelkjlaagreat", sum := "82ec2add6e61970da3f9a5a91bf982b589c094618901d260c8fe9e1ad259ee56", func := "baler/balerlaw24.UnpressPrefix", spec := "unpressPrefix", inPlace := ["internal/abi.NoEscape", "internal/bytealg.MakeNoZero"], unfollowed := true, recurses := true, apart := false, narrowed := true }
def UnpressPrefixUptoSaid : Prop := unpressPrefixUptoRow.holds Tryz.pinned (OpenSpec.upto unpressPrefixSpec)

/-- 'balerlaw24.UnpressActs', WHERE WHAT IT READS IS OF BULK AT MOST 1048576: true; the input reads as it did. -/
def unpressActsUptoRow : OpenClaim := { program := "ytmjolmggelkjlaagreat", sum := "82ec2add6e61970da3f9a5a91bf982b589c094618901d260c8fe9e1ad259ee56", func := "baler/balerlaw24.UnpressActs", spec := "unpressActs", inPlace := ["internal/abi.NoEscape", "internal/bytealg.MakeNoZero"], unfollowed := true, recurses := true, apart := false, narrowed := true }
def UnpressActsUptoSaid : Prop := unpressActsUptoRow.holds Tryz.pinned (OpenSpec.upto unpressActsSpec)

/-- 'balerlaw24.UnpressStops', WHERE WHAT IT READS IS OF BULK AT MOST 1048576: true; the input reads as it did. -/
def unpressStopsUptoRow : OpenClaim := { program := "ytmjolmggelkjlaagreat", sum := "82ec2add6e61970da3f9a5a91bf982b589c094618901d260c8fe9e1ad259ee56", func := "baler/balerlaw24.UnpressStops", spec := "unpressStops", inPlace := ["internal/abi.NoEscape", "internal/bytealg.MakeNoZero"], unfollowed := true, recurses := true, apart := false, narrowed := true }
def UnpressStopsUptoSaid : Prop := unpressStopsUptoRow.holds Tryz.pinned (OpenSpec.upto unpressStopsSpec)

/-- 'balerlaw25.TesterLong', WHERE WHAT IT READS IS OF BULK AT MOST 1048576: true; the input reads as it did. -/
def testerLongUptoRow : OpenClaim := { program := "ytmjolmggelkjlaagreat", sum := "82ec2add6e61970da3f9a5a91bf982b589c094618901d260c8fe9e1ad259ee56", func := "baler/balerlaw25.TesterLong", spec := "testerLong", inPlace := ["internal/abi.NoEscape", "internal/bytealg.MakeNoZero"], unfollowed := true, recurses := true, apart := false, narrowed := true }
def TesterLongUptoSaid : Prop := testerLongUptoRow.holds Tryz.pinned (OpenSpec.upto testerLongSpec)

/-- 'balerlaw25.TesterActs', WHERE WHAT IT READS IS OF BULK AT MOST 1048576: true; the input reads as it did. -/
def testerActsUptoRow : OpenClaim := { program := "ytmjolmggelkjlaagreat", sum := "82ec2add6e61970da3f9a5a91bf982b589c094618901d260c8fe9e1ad259ee56", func := "baler/balerlaw25.TesterActs", spec := "testerActs", inPlace := ["internal/abi.NoEscape", "internal/bytealg.MakeNoZero"], unfollowed := true, recurses := true, apart := false, narrowed := true }
def TesterActsUptoSaid : Prop := testerActsUptoRow.holds Tryz.pinned (OpenSpec.upto testerActsSpec)

end Rows
end Go.Proofs.YtmjolmggelkjlaaGreat

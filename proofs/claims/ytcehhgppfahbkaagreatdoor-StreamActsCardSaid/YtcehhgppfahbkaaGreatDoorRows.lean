/-
  NARROWER THAN 'FOR EVERY INPUT', by the rows' own cells (each row's printed sentence says how): StreamWith: laid · StreamEncodes: laid · StreamBlocks: laid · StreamActs: laid · StreamMost: laid · PressStops: laid · PressActs: laid.
  DERIVED. THE GIVEN ROWS OF THIS SEAT. 7 by the template 'for every input the law returns true; each argument reads behind the call as it read before'; 0 by the template 'total and deterministic' (their statements: YtcehhgppfahbkaaGreatDoorTotals.lean).
  GIVEN WITH THE SEED: the statements are not yours to turn. If you find one false, say at which input.
  Laid BY PROGRAM, IN A SANDBOX (cutbox-rows.mjs): the forced cells as the released guide's own fill.sh prints them over the translation db68351c60aa7d4f… (all of the seat's roots in one cut). By AI agents, Wed Nov 11 2026. No macro, syntax, notation, axiom, sorry.
-/
import Derived.Test.YtcehhgppfahbkaaGreatDoorChecked
import GoSem.Claim
import GoSem.ClaimJoined
import GoSem.ClaimMapViews
import Derived.JoinedTies
import Derived.KernelRfl
namespace Go.Proofs.YtcehhgppfahbkaaGreatDoor
/- THE CELL 'sum', in the pinned program and in every row, IS THE sha256 OF THE DUMP (.gsa) THAT YtcehhgppfahbkaaGreatDoorProg.lean LOADS. Nothing in Lean hashes anything: it is a label: what it is worth is what the hold of that sum in a sandbox is worth. -/
noncomputable def Tryz.pinned : Pinned := { name := "ytcehhgppfahbkaagreatdoor", sum := "db68351c60aa7d4f18aed995b0234b32c0cf1800ceb0a82ff528d1d934dc8f97", checked := Tryz.checked }
namespace Rows
def none {H : Type} : Left H := { results := [], args := [] }

/- WHAT THE LISTED PACKAGE-LEVEL VARIABLES READ AS WHEN THE CALL BEGINS. Each datum BY PROGRAM (the guide's laid-datum.mjs) off the statement by which the dump's own 'gosem.cut.vars' lays the variable. In a bare row this is a premise. The card (YtcehhgppfahbkaaGreatDoorCards.lean) ties it to the program's text. -/
def laid_baler_tables_bounds {H : Type} : DataW H := .agg [.lit (.int .i64 200), .lit (.int .i64 600), .lit (.int .i64 1200), .lit (.int .i64 2400)]

/-- 'balerlaw21.StreamWith': WHATEVER THE INPUT: true; the input reads as it did. -/
def streamWithSpec : ChangeSpec := { name := "streamWith", fn := fun _ => fun
  | [d1, d2, d3] => { results := [.lit (.bool true)], args := [d1, d2, d3] }
  | _ => none }
def streamWithRow : OpenClaim := { program := "ytcehhgppfahbkaagreatdoor", sum := "db68351c60aa7d4f18aed995b0234b32c0cf1800ceb0a82ff528d1d934dc8f97", func := "baler/balerlaw21.StreamWith", spec := "streamWith", inPlace := ["internal/abi.NoEscape", "internal/bytealg.MakeNoZero", "internal/bytealg.IndexByte"], unfollowed := true, recurses := true, named := ["baler/tables.bounds"], apart := false, laid := [("baler/tables.bounds", laid_baler_tables_bounds)] }
def StreamWithSaid : Prop := streamWithRow.holds Tryz.pinned (OpenSpec.ofChange streamWithSpec)

/-- ITS FALSE NEIGHBOUR: 'it returns false'. Refute it at one input. -/
def streamWithWrong : ChangeSpec := { name := "streamWith", fn := fun _ => fun
  | [d1, d2, d3] => { results := [.lit (.bool false)], args := [d1, d2, d3] }
  | _ => none }
def StreamWithWrongFalsely : Prop := streamWithRow.holds Tryz.pinned (OpenSpec.ofChange streamWithWrong)

/-- 'balerlaw21.StreamEncodes': WHATEVER THE INPUT: true; the input reads as it did. -/
def streamEncodesSpec : ChangeSpec := { name := "streamEncodes", fn := fun _ => fun
  | [d1, d2] => { results := [.lit (.bool true)], args := [d1, d2] }
  | _ => none }
def streamEncodesRow : OpenClaim := { program := "ytcehhgppfahbkaagreatdoor", sum := "db68351c60aa7d4f18aed995b0234b32c0cf1800ceb0a82ff528d1d934dc8f97", func := "baler/balerlaw21.StreamEncodes", spec := "streamEncodes", inPlace := ["internal/abi.NoEscape", "internal/bytealg.MakeNoZero", "internal/bytealg.IndexByte"], unfollowed := true, recurses := true, named := ["baler/tables.bounds"], apart := false, laid := [("baler/tables.bounds", laid_baler_tables_bounds)] }
def StreamEncodesSaid : Prop := streamEncodesRow.holds Tryz.pinned (OpenSpec.ofChange streamEncodesSpec)

/-- ITS FALSE NEIGHBOUR: 'it returns false'. Refute it at one input. -/
def streamEncodesWrong : ChangeSpec := { name := "streamEncodes", fn := fun _ => fun
  | [d1, d2] => { results := [.lit (.bool false)], args := [d1, d2] }
  | _ => none }
def StreamEncodesWrongFalsely : Prop := streamEncodesRow.holds Tryz.pinned (OpenSpec.ofChange streamEncodesWrong)

/-- 'balerlaw21.StreamBlocks': WHATEVER THE INPUT: true; the input reads as it did. -/
def streamBlocksSpec : ChangeSpec := { name := "streamBlocks", fn := fun _ => fun
  | [d1, d2, d3] => { results := [.lit (.bool true)], args := [d1, d2, d3] }
  | _ => none }
def streamBlocksRow : OpenClaim := { program := "ytcehhgppfahbkaagreatdoor", sum := "db68351c60aa7d4f18aed995b0234b32c0cf1800ceb0a82ff528d1d934dc8f97", func := "baler/balerlaw21.StreamBlocks", spec := "streamBlocks", inPlace := ["internal/abi.NoEscape", "internal/bytealg.MakeNoZero", "internal/bytealg.IndexByte"], unfollowed := true, recurses := true, named := ["baler/tables.bounds"], apart := false, laid := [("baler/tables.bounds", laid_baler_tables_bounds)] }
def StreamBlocksSaid : Prop := streamBlocksRow.holds Tryz.pinned (OpenSpec.ofChange streamBlocksSpec)

/-- ITS FALSE NEIGHBOUR: 'it returns false'. Refute it at one input. -/
def streamBlocksWrong : ChangeSpec := { name := "streamBlocks", fn := fun _ => fun
  | [d1, d2, d3] => { results := [.lit (.bool false)], args := [d1, d2, d3] }
  | _ => none }
def StreamBlocksWrongFalsely : Prop := streamBlocksRow.holds Tryz.pinned (OpenSpec.ofChange streamBlocksWrong)

/-- 'balerlaw21.StreamActs': WHATEVER THE INPUT: true; the input reads as it did. -/
def streamActsSpec : ChangeSpec := { name := "streamActs", fn := fun _ => fun
  | [d1, d2] => { results := [.lit (.bool true)], args := [d1, d2] }
  | _ => none }
def streamActsRow : OpenClaim := { program := "ytcehhgppfahbkaagreatdoor", sum := "db68351c60aa7d4f18aed995b0234b32c0cf1800ceb0a82ff528d1d934dc8f97", func := "baler/balerlaw21.StreamActs", spec := "streamActs", inPlace := ["internal/abi.NoEscape", "internal/bytealg.MakeNoZero", "internal/bytealg.IndexByte"], unfollowed := true, recurses := true, named := ["baler/tables.bounds"], apart := false, laid := [("baler/tables.bounds", laid_baler_tables_bounds)] }
def StreamActsSaid : Prop := streamActsRow.holds Tryz.pinned (OpenSpec.ofChange streamActsSpec)

/-- ITS FALSE NEIGHBOUR: 'it returns false'. Refute it at one input. -/
def streamActsWrong : ChangeSpec := { name := "streamActs", fn := fun _ => fun
  | [d1, d2] => { results := [.lit (.bool false)], args := [d1, d2] }
  | _ => none }
def StreamActsWrongFalsely : Prop := streamActsRow.holds Tryz.pinned (OpenSpec.ofChange streamActsWrong)

/-- 'balerlaw21.StreamMost': WHATEVER THE INPUT: true; the input reads as it did. -/
def streamMostSpec : ChangeSpec := { name := "streamMost", fn := fun _ => fun
  | [d1, d2] => { results := [.lit (.bool true)], args := [d1, d2] }
  | _ => none }
def streamMostRow : OpenClaim := { program := "ytcehhgppfahbkaagreatdoor", sum := "db68351c60aa7d4f18aed995b0234b32c0cf1800ceb0a82ff528d1d934dc8f97", func := "baler/balerlaw21.StreamMost", spec := "streamMost", inPlace := ["internal/abi.NoEscape", "internal/bytealg.MakeNoZero", "internal/bytealg.IndexByte"], unfollowed := true, recurses := true, named := ["baler/tables.bounds"], apart := false, laid := [("baler/tables.bounds", laid_baler_tables_bounds)] }
def StreamMostSaid : Prop := streamMostRow.holds Tryz.pinned (OpenSpec.ofChange streamMostSpec)

/-- ITS FALSE NEIGHBOUR: 'it returns false'. Refute it at one input. -/
def streamMostWrong : ChangeSpec := { name := "streamMost", fn := fun _ => fun
  | [d1, d2] => { results := [.lit (.bool false)], args := [d1, d2] }
  | _ => none }
def StreamMostWrongFalsely : Prop := streamMostRow.holds Tryz.pinned (OpenSpec.ofChange streamMostWrong)

/-- 'balerlaw23.PressStops': WHATEVER THE INPUT: true; the input reads as it did. -/
def pressStopsSpec : ChangeSpec := { name := "pressStops", fn := fun _ => fun
  | [d1, d2] => { results := [.lit (.bool true)], args := [d1, d2] }
  | _ => none }
def pressStopsRow : OpenClaim := { program := "ytcehhgppfahbkaagreatdoor", sum := "db68351c60aa7d4f18aed995b0234b32c0cf1800ceb0a82ff528d1d934dc8f97", func := "baler/balerlaw23.PressStops", spec := "pressStops", inPlace := ["internal/abi.NoEscape", "internal/bytealg.MakeNoZero", "internal/bytealg.IndexByte"], unfollowed := true, recurses := true, named := ["baler/tables.bounds"], apart := false, laid := [("baler/tables.bounds", laid_baler_tables_bounds)] }
def PressStopsSaid : Prop := pressStopsRow.holds Tryz.pinned (OpenSpec.ofChange pressStopsSpec)

/-- ITS FALSE NEIGHBOUR: 'it returns false'. Refute it at one input. -/
def pressStopsWrong : ChangeSpec := { name := "pressStops", fn := fun _ => fun
  | [d1, d2] => { results := [.lit (.bool false)], args := [d1, d2] }
  | _ => none }
def PressStopsWrongFalsely : Prop := pressStopsRow.holds Tryz.pinned (OpenSpec.ofChange pressStopsWrong)

/-- 'balerlaw23.PressActs': WHATEVER THE INPUT: true; the input reads as it did. -/
def pressActsSpec : ChangeSpec := { name := "pressActs", fn := fun _ => fun
  | [d1, d2] => { results := [.lit (.bool true)], args := [d1, d2] }
  | _ => none }
def pressActsRow : OpenClaim := { program := "ytcehhgppfahbkaagreatdoor", sum := "db68351c60aa7d4f18aed995b0234b32c0cf1800ceb0a82ff528d1d934dc8f97", func := "baler/balerlaw23.PressActs", spec := "pressActs", inPlace := ["internal/abi.NoEscape", "internal/bytealg.MakeNoZero", "internal/bytealg.IndexByte"], unfollowed := true, recurses := true, named := ["baler/tables.bounds"], apart := false, laid := [("baler/tables.bounds", laid_baler_tables_bounds)] }
def PressActsSaid : Prop := pressActsRow.holds Tryz.pinned (OpenSpec.ofChange pressActsSpec)

/-- ITS FALSE NEIGHBOUR: 'it returns false'. Refute it at one input. -/
def pressActsWrong : ChangeSpec := { name := "pressActs", fn := fun _ => fun
  | [d1, d2] => { results := [.lit (.bool false)], args := [d1, d2] }
  | _ => none }
def PressActsWrongFalsely : Prop := pressActsRow.holds Tryz.pinned (OpenSpec.ofChange pressActsWrong)

/- THE SECOND FORM. 'bulk': how many values and letters a reading holds, each counted each time it is reached (what is shared counts as often as it is met; a slice's spare places count too). A statement '..UptoSaid' is the law's where the arguments, and the package variables that the reading takes, are together of bulk at most 1048576: NARROWER than '..Said'. Prove '..Said' where nothing that the law and all that it calls make is longer than what came in: it says more and counts as full. Else prove '..UptoSaid'. A law counts once. -/
mutual
def uptoBulk {H : Type} : DataW H → Nat
  | .lit (.string bytes) => bytes.length + 1
  | .lit _ => 1
  | .nil => 1
  | .ptr d => uptoBulk d + 1
  | .slice elems spare => uptoBulkAll elems + uptoBulkAll spare + 1
  | .agg parts => uptoBulkAll parts + 1
  | .iface _ d => uptoBulk d + 1
  | .map entries => uptoBulkEntries entries + 1
  | .held _ => 1
def uptoBulkAll {H : Type} : List (DataW H) → Nat
  | [] => 0
  | d :: r => uptoBulk d + uptoBulkAll r
def uptoBulkEntries {H : Type} : List (Lit × DataW H) → Nat
  | [] => 0
  | x :: r => uptoBulkEntry x + uptoBulkEntries r
def uptoBulkEntry {H : Type} : Lit × DataW H → Nat
  | (.string bytes, d) => bytes.length + uptoBulk d + 1
  | (_, d) => uptoBulk d + 1
 end
def uptoSmall : (H : Type) → List (DataW H) → Bool := fun _ ds => decide (uptoBulkAll ds ≤ 1048576)
def OpenSpec.upto (s : _root_.Go.ChangeSpec) : _root_.Go.OpenSpec := { _root_.Go.OpenSpec.ofChange s with cond := some uptoSmall }

/-- 'balerlaw21.StreamWith', WHERE WHAT IT READS IS OF BULK AT MOST 1048576: true; the input reads as it did. -/
def streamWithUptoRow : OpenClaim := { program := "ytcehhgppfahbkaagreatdoor", sum := "db68351c60aa7d4f18aed995b0234b32c0cf1800ceb0a82ff528d1d934dc8f97", func := "baler/balerlaw21.StreamWith", spec := "streamWith", inPlace := ["internal/abi.NoEscape", "internal/bytealg.MakeNoZero", "internal/bytealg.IndexByte"], unfollowed := true, recurses := true, named := ["baler/tables.bounds"], apart := false, laid := [("baler/tables.bounds", laid_baler_tables_bounds)], narrowed := true }
def StreamWithUptoSaid : Prop := streamWithUptoRow.holds Tryz.pinned (OpenSpec.upto streamWithSpec)

/-- 'balerlaw21.StreamEncodes', WHERE WHAT IT READS IS OF BULK AT MOST 1048576: true; the input reads as it did. -/
def streamEncodesUptoRow : OpenClaim := { program := "ytcehhgppfahbkaagreatdoor", sum := "db68351c60aa7d4f18aed995b0234b32c0cf1800ceb0a82ff528d1d934dc8f97", func := "baler/balerlaw21.StreamEncodes", spec := "streamEncodes", inPlace := ["internal/abi.NoEscape", "internal/bytealg.MakeNoZero", "internal/bytealg.IndexByte"], unfollowed := true, recurses := true, named := ["baler/tables.bounds"], apart := false, laid := [("baler/tables.bounds", laid_baler_tables_bounds)], narrowed := true }
def StreamEncodesUptoSaid : Prop := streamEncodesUptoRow.holds Tryz.pinned (OpenSpec.upto streamEncodesSpec)

/-- 'balerlaw21.StreamBlocks', WHERE WHAT IT READS IS OF BULK AT MOST 1048576: true; the input reads as it did. -/
def streamBlocksUptoRow : OpenClaim := { program := "ytcehhgppfahbkaagreatdoor", sum := "db68351c60aa7d4f18aed995b0234b32c0cf1800ceb0a82ff528d1d934dc8f97", func := "baler/balerlaw21.StreamBlocks", spec := "streamBlocks", inPlace := ["internal/abi.NoEscape", "internal/bytealg.MakeNoZero", "internal/bytealg.IndexByte"], unfollowed := true, recurses := true, named := ["baler/tables.bounds"], apart := false, laid := [("baler/tables.bounds", laid_baler_tables_bounds)], narrowed := true }
def StreamBlocksUptoSaid : Prop := streamBlocksUptoRow.holds Tryz.pinned (OpenSpec.upto streamBlocksSpec)

/-- 'balerlaw21.StreamActs', WHERE WHAT IT READS IS OF BULK AT MOST 1048576: true; the input reads as it did. -/
def streamActsUptoRow : OpenClaim := { program := "ytcehhgppfahbkaagreatdoor", sum := "db68351c60aa7d4f18aed995b0234b32c0cf1800ceb0a82ff528d1d934dc8f97", func := "baler/balerlaw21.StreamActs", spec := "streamActs", inPlace := ["internal/abi.NoEscape", "internal/bytealg.MakeNoZero", "internal/bytealg.IndexByte"], unfollowed := true, recurses := true, named := ["baler/tables.bounds"], apart := false, laid := [("baler/tables.bounds", laid_baler_tables_bounds)], narrowed := true }
def StreamActsUptoSaid : Prop := streamActsUptoRow.holds Tryz.pinned (OpenSpec.upto streamActsSpec)

/-- 'balerlaw21.StreamMost', WHERE WHAT IT READS IS OF BULK AT MOST 1048576: true; the input reads as it did. -/
def streamMostUptoRow : OpenClaim := { program := "ytcehhgppfahbkaagreatdoor", sum := "db68351c60aa7d4f18aed995b0234b32c0cf1800ceb0a82ff528d1d934dc8f97", func := "baler/balerlaw21.StreamMost", spec := "streamMost", inPlace := ["internal/abi.NoEscape", "internal/bytealg.MakeNoZero", "internal/bytealg.IndexByte"], unfollowed := true, recurses := true, named := ["baler/tables.bounds"], apart := false, laid := [("baler/tables.bounds", laid_baler_tables_bounds)], narrowed := true }
def StreamMostUptoSaid : Prop := streamMostUptoRow.holds Tryz.pinned (OpenSpec.upto streamMostSpec)

/-- 'balerlaw23.PressStops', WHERE WHAT IT READS IS OF BULK AT MOST 1048576: true; the input reads as it did. -/
def pressStopsUptoRow : OpenClaim := { program := "ytcehhgppfahbkaagreatdoor", sum := "db68351c60aa7d4f18aed995b0234b32c0cf1800ceb0a82ff528d1d934dc8f97", func := "baler/balerlaw23.PressStops", spec := "pressStops", inPlace := ["internal/abi.NoEscape", "internal/bytealg.MakeNoZero", "internal/bytealg.IndexByte"], unfollowed := true, recurses := true, named := ["baler/tables.bounds"], apart := false, laid := [("baler/tables.bounds", laid_baler_tables_bounds)], narrowed := true }
def PressStopsUptoSaid : Prop := pressStopsUptoRow.holds Tryz.pinned (OpenSpec.upto pressStopsSpec)

/-- 'balerlaw23.PressActs', WHERE WHAT IT READS IS OF BULK AT MOST 1048576: true; the input reads as it did. -/
def pressActsUptoRow : OpenClaim := { program := "ytcehhgppfahbkaagreatdoor", sum := "db68351c60aa7d4f18aed995b0234b32c0cf1800ceb0a82ff528d1d934dc8f97", func := "baler/balerlaw23.PressActs", spec := "pressActs", inPlace := ["internal/abi.NoEscape", "internal/bytealg.MakeNoZero", "internal/bytealg.IndexByte"], unfollowed := true, recurses := true, named := ["baler/tables.bounds"], apart := false, laid := [("baler/tables.bounds", laid_baler_tables_bounds)], narrowed := true }
def PressActsUptoSaid : Prop := pressActsUptoRow.holds Tryz.pinned (OpenSpec.upto pressActsSpec)

end Rows
end Go.Proofs.YtcehhgppfahbkaaGreatDoor

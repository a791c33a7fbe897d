/-
  NARROWER THAN 'FOR EVERY INPUT', by the rows' own cells (each row's printed sentence says how): CodeNil: laid · StreamNil: laid · PressFeeds: laid · PressNil: laid · PressNews: laid.
  DERIVED. THE GIVEN ROWS OF THIS SEAT. 5 by the template 'for every input the law returns true; each argument reads behind the call as it read before'; 0 by the template 'total and deterministic' (their statements: YthhhkplbjcknkaaGreatDoorTotals.lean).
  GIVEN WITH THE SEED: the statements are not yours to turn. If you find one false, say at which input.
  Laid BY PROGRAM, IN A SANDBOX (cutbox-rows.mjs): the forced cells as the released guide's own fill.sh prints them over the translation b8ac7ec294204582… (all of the seat's roots in one cut). By AI agents, Wed Nov 11 2026. No macro, syntax, notation, axiom, sorry.
-/
import Derived.Test.YthhhkplbjcknkaaGreatDoorChecked
import GoSem.Claim
import GoSem.ClaimJoined
import GoSem.ClaimMapViews
import Derived.JoinedTies
import Derived.KernelRfl
namespace Go.Proofs.YthhhkplbjcknkaaGreatDoor
/- THE CELL 'sum', in the pinned program and in every row, IS THE sha256 OF THE DUMP (.gsa) THAT YthhhkplbjcknkaaGreatDoorProg.lean LOADS. Nothing in Lean hashes anything: it is a label: what it is worth is what the hold of that sum in a sandbox is worth. -/
noncomputable def Tryz.pinned : Pinned := { name := "ythhhkplbjcknkaagreatdoor", sum := "b8ac7ec29420458220f15af2f34bbb1ef276a364dc377a5f4aea7e51e8690c89", checked := Tryz.checked }
namespace Rows
def none {H : Type} : Left H := { results := [], args := [] }

/- WHAT THE LISTED PACKAGE-LEVEL VARIABLES READ AS WHEN THE CALL BEGINS. Each datum BY PROGRAM (the guide's laid-datum.mjs) off the statement by which the dump's own 'gosem.cut.vars' lays the variable. In a bare row this is a premise. The card (YthhhkplbjcknkaaGreatDoorCards.lean) ties it to the program's text. -/
def laid_baler_tables_bounds {H : Type} : DataW H := .agg [.lit (.int .i64 200), .lit (.int .i64 600), .lit (.int .i64 1200), .lit (.int .i64 2400)]

/-- 'balerlaw14.CodeNil': WHATEVER THE INPUT: true; the input reads as it did. -/
def codeNilSpec : ChangeSpec := { name := "codeNil", fn := fun _ => fun
  | [d1, d2] => { results := [.lit (.bool true)], args := [d1, d2] }
  | _ => none }
def codeNilRow : OpenClaim := { program := "ythhhkplbjcknkaagreatdoor", sum := "b8ac7ec29420458220f15af2f34bbb1ef276a364dc377a5f4aea7e51e8690c89", func := "baler/balerlaw14.CodeNil", spec := "codeNil", unfollowed := true, recurses := true, named := ["baler/tables.bounds"], apart := false, laid := [("baler/tables.bounds", laid_baler_tables_bounds)] }
def CodeNilSaid : Prop := codeNilRow.holds Tryz.pinned (OpenSpec.ofChange codeNilSpec)

/-- ITS FALSE NEIGHBOUR: 'it returns false'. Refute it at one input. -/
def codeNilWrong : ChangeSpec := { name := "codeNil", fn := fun _ => fun
  | [d1, d2] => { results := [.lit (.bool false)], args := [d1, d2] }
  | _ => none }
def CodeNilWrongFalsely : Prop := codeNilRow.holds Tryz.pinned (OpenSpec.ofChange codeNilWrong)

/-- 'balerlaw21.StreamNil': WHATEVER THE INPUT: true; the input reads as it did. -/
def streamNilSpec : ChangeSpec := { name := "streamNil", fn := fun _ => fun
  | [d1, d2, d3] => { results := [.lit (.bool true)], args := [d1, d2, d3] }
  | _ => none }
def streamNilRow : OpenClaim := { program := "ythhhkplbjcknkaagreatdoor", sum := "b8ac7ec29420458220f15af2f34bbb1ef276a364dc377a5f4aea7e51e8690c89", func := "baler/balerlaw21.StreamNil", spec := "streamNil", inPlace := ["internal/abi.NoEscape", "internal/bytealg.MakeNoZero", "internal/bytealg.IndexByte"], unfollowed := true, recurses := true, named := ["baler/tables.bounds"], apart := false, laid := [("baler/tables.bounds", laid_baler_tables_bounds)] }
def StreamNilSaid : Prop := streamNilRow.holds Tryz.pinned (OpenSpec.ofChange streamNilSpec)

/-- ITS FALSE NEIGHBOUR: 'it returns false'. Refute it at one input. -/
def streamNilWrong : ChangeSpec := { name := "streamNil", fn := fun _ => fun
  | [d1, d2, d3] => { results := [.lit (.bool false)], args := [d1, d2, d3] }
  | _ => none }
def StreamNilWrongFalsely : Prop := streamNilRow.holds Tryz.pinned (OpenSpec.ofChange streamNilWrong)

/-- 'balerlaw23.PressFeeds': WHATEVER THE INPUT: true; the input reads as it did. -/
def pressFeedsSpec : ChangeSpec := { name := "pressFeeds", fn := fun _ => fun
  | [d1, d2] => { results := [.lit (.bool true)], args := [d1, d2] }
  | _ => none }
def pressFeedsRow : OpenClaim := { program := "ythhhkplbjcknkaagreatdoor", sum := "b8ac7ec29420458220f15af2f34bbb1ef276a364dc377a5f4aea7e51e8690c89", func := "baler/balerlaw23.PressFeeds", spec := "pressFeeds", inPlace := ["internal/abi.NoEscape", "internal/bytealg.MakeNoZero", "internal/bytealg.IndexByte"], unfollowed := true, recurses := true, named := ["baler/tables.bounds"], apart := false, laid := [("baler/tables.bounds", laid_baler_tables_bounds)] }
def PressFeedsSaid : Prop := pressFeedsRow.holds Tryz.pinned (OpenSpec.ofChange pressFeedsSpec)

/-- ITS FALSE NEIGHBOUR: 'it returns false'. Refute it at one input. -/
def pressFeedsWrong : ChangeSpec := { name := "pressFeeds", fn := fun _ => fun
  | [d1, d2] => { results := [.lit (.bool false)], args := [d1, d2] }
  | _ => none }
def PressFeedsWrongFalsely : Prop := pressFeedsRow.holds Tryz.pinned (OpenSpec.ofChange pressFeedsWrong)

/-- 'balerlaw23.PressNil': WHATEVER THE INPUT: true; the input reads as it did. -/
def pressNilSpec : ChangeSpec := { name := "pressNil", fn := fun _ => fun
  | [d1, d2] => { results := [.lit (.bool true)], args := [d1, d2] }
  | _ => none }
def pressNilRow : OpenClaim := { program := "ythhhkplbjcknkaagreatdoor", sum := "b8ac7ec29420458220f15af2f34bbb1ef276a364dc377a5f4aea7e51e8690c89", func := "baler/balerlaw23.PressNil", spec := "pressNil", inPlace := ["internal/abi.NoEscape", "internal/bytealg.MakeNoZero", "internal/bytealg.IndexByte"], unfollowed := true, recurses := true, named := ["baler/tables.bounds"], apart := false, laid := [("baler/tables.bounds", laid_baler_tables_bounds)] }
def PressNilSaid : Prop := pressNilRow.holds Tryz.pinned (OpenSpec.ofChange pressNilSpec)

/-- ITS FALSE NEIGHBOUR: 'it returns false'. Refute it at one input. -/
def pressNilWrong : ChangeSpec := { name := "pressNil", fn := fun _ => fun
  | [d1, d2] => { results := [.lit (.bool false)], args := [d1, d2] }
  | _ => none }
def PressNilWrongFalsely : Prop := pressNilRow.holds Tryz.pinned (OpenSpec.ofChange pressNilWrong)

/-- 'balerlaw23.PressNews': WHATEVER THE INPUT: true; the input reads as it did. -/
def pressNewsSpec : ChangeSpec := { name := "pressNews", fn := fun _ => fun
  | [d] => { results := [.lit (.bool true)], args := [d] }
  | _ => none }
def pressNewsRow : OpenClaim := { program := "ythhhkplbjcknkaagreatdoor", sum := "b8ac7ec29420458220f15af2f34bbb1ef276a364dc377a5f4aea7e51e8690c89", func := "baler/balerlaw23.PressNews", spec := "pressNews", inPlace := ["internal/abi.NoEscape", "internal/bytealg.MakeNoZero", "internal/bytealg.IndexByte"], unfollowed := true, recurses := true, named := ["baler/tables.bounds"], apart := false, laid := [("baler/tables.bounds", laid_baler_tables_bounds)] }
def PressNewsSaid : Prop := pressNewsRow.holds Tryz.pinned (OpenSpec.ofChange pressNewsSpec)

/-- ITS FALSE NEIGHBOUR: 'it returns false'. Refute it at one input. -/
def pressNewsWrong : ChangeSpec := { name := "pressNews", fn := fun _ => fun
  | [d] => { results := [.lit (.bool false)], args := [d] }
  | _ => none }
def PressNewsWrongFalsely : Prop := pressNewsRow.holds Tryz.pinned (OpenSpec.ofChange pressNewsWrong)

/- THE SECOND FORM. 'bulk': how many values and letters a reading holds, each counted each time it is reached (what is shared counts as often as it is met; a slice's spare places count too). A statement '..UptoSaid' is the law's where the arguments, and the package variables that the reading takes, are together of bulk at most 1048576: NARROWER than '..Said'. Prove '..Said' where nothing that the law and all that it calls make is longer than what came in: it says more and counts as full. Else prove '..UptoSaid'. A law counts once. -/
mutual
def uptoBulk {H : Type} : DataW H → Nat
  | .lit (.string bytes) => bytes.length + 1
  | .lit _ => 1
  | .nil => 1
  | .ptr d => uptoBulk d + 1
  | .slice elems spare => uptoBulkAll elems + uptoBulkAll spare + 1
  | .agg parts => uptoBulkAll parts + 1
  | .iface _ d => uptoBulk d + 1
  | .map entries => uptoBulkEntries entries + 1
  | .held _ => 1
def uptoBulkAll {H : Type} : List (DataW H) → Nat
  | [] => 0
  | d :: r => uptoBulk d + uptoBulkAll r
def uptoBulkEntries {H : Type} : List (Lit × DataW H) → Nat
  | [] => 0
  | x :: r => uptoBulkEntry x + uptoBulkEntries r
def uptoBulkEntry {H : Type} : Lit × DataW H → Nat
  | (.string bytes, d) => bytes.length + uptoBulk d + 1
  | (_, d) => uptoBulk d + 1
 end
def uptoSmall : (H : Type) → List (DataW H) → Bool := fun _ ds => decide (uptoBulkAll ds ≤ 1048576)
def OpenSpec.upto (s : _root_.Go.ChangeSpec) : _root_.Go.OpenSpec := { _root_.Go.OpenSpec.ofChange s with cond := some uptoSmall }

/-- 'balerlaw14.CodeNil', WHERE WHAT IT READS IS OF BULK AT MOST 1048576: true; the input reads as it did. -/
def codeNilUptoRow : OpenClaim := { program := "ythhhkplbjcknkaagreatdoor", sum := "b8ac7ec29420458220f15af2f34bbb1ef276a364dc377a5f4aea7e51e8690c89", func := "baler/balerlaw14.CodeNil", spec := "codeNil", unfollowed := true, recurses := true, named := ["baler/tables.bounds"], apart := false, laid := [("baler/tables.bounds", laid_baler_tables_bounds)], narrowed := true }
def CodeNilUptoSaid : Prop := codeNilUptoRow.holds Tryz.pinned (OpenSpec.upto codeNilSpec)

/-- 'balerlaw21.StreamNil', WHERE WHAT IT READS IS OF BULK AT MOST 1048576: true; the input reads as it did. -/
def streamNilUptoRow : OpenClaim := { program := "ythhhkplbjcknkaagreatdoor", sum := "b8ac7ec29420458220f15af2f34bbb1ef276a364dc377a5f4aea7e51e8690c89", func := "baler/balerlaw21.StreamNil", spec := "streamNil", inPlace := ["internal/abi.NoEscape", "internal/bytealg.MakeNoZero", "internal/bytealg.IndexByte"], unfollowed := true, recurses := true, named := ["baler/tables.bounds"], apart := false, laid := [("baler/tables.bounds", laid_baler_tables_bounds)], narrowed := true }
def StreamNilUptoSaid : Prop := streamNilUptoRow.holds Tryz.pinned (OpenSpec.upto streamNilSpec)

/-- 'balerlaw23.PressFeeds', WHERE WHAT IT READS IS OF BULK AT MOST 1048576: true; the input reads as it did. -/
def pressFeedsUptoRow : OpenClaim := { program := "ythhhkplbjcknkaagreatdoor", sum := "b8ac7ec29420458220f15af2f34bbb1ef276a364dc377a5f4aea7e51e8690c89", func := "baler/balerlaw23.PressFeeds", spec := "pressFeeds", inPlace := ["internal/abi.NoEscape", "internal/bytealg.MakeNoZero", "internal/bytealg.IndexByte"], unfollowed := true, recurses := true, named := ["baler/tables.bounds"], apart := false, laid := [("baler/tables.bounds", laid_baler_tables_bounds)], narrowed := true }
def PressFeedsUptoSaid : Prop := pressFeedsUptoRow.holds Tryz.pinned (OpenSpec.upto pressFeedsSpec)

/-- 'balerlaw23.PressNil', WHERE WHAT IT READS IS OF BULK AT MOST 1048576: true; the input reads as it did. -/
def pressNilUptoRow : OpenClaim := { program := "ythhhkplbjcknkaagreatdoor", sum := "b8ac7ec29420458220f15af2f34bbb1ef276a364dc377a5f4aea7e51e8690c89", func := "baler/balerlaw23.PressNil", spec := "pressNil", inPlace := ["internal/abi.NoEscape", "internal/bytealg.MakeNoZero", "internal/bytealg.IndexByte"], unfollowed := true, recurses := true, named := ["baler/tables.bounds"], apart := false, laid := [("baler/tables.bounds", laid_baler_tables_bounds)], narrowed := true }
def PressNilUptoSaid : Prop := pressNilUptoRow.holds Tryz.pinned (OpenSpec.upto pressNilSpec)

/-- 'balerlaw23.PressNews', WHERE WHAT IT READS IS OF BULK AT MOST 1048576: true; the input reads as it did. -/
def pressNewsUptoRow : OpenClaim := { program := "ythhhkplbjcknkaagreatdoor", sum := "b8ac7ec29420458220f15af2f34bbb1ef276a364dc377a5f4aea7e51e8690c89", func := "baler/balerlaw23.PressNews", spec := "pressNews", inPlace := ["internal/abi.NoEscape", "internal/bytealg.MakeNoZero", "internal/bytealg.IndexByte"], unfollowed := true, recurses := true, named := ["baler/tables.bounds"], apart := false, laid := [("baler/tables.bounds", laid_baler_tables_bounds)], narrowed := true }
def PressNewsUptoSaid : Prop := pressNewsUptoRow.holds Tryz.pinned (OpenSpec.upto pressNewsSpec)

end Rows
end Go.Proofs.YthhhkplbjcknkaaGreatDoor

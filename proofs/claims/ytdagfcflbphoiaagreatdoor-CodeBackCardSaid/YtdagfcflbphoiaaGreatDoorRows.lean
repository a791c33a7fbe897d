/-
  NARROWER THAN 'FOR EVERY INPUT', by the rows' own cells (each row's printed sentence says how): CodeWrites: laid · CodeReads: laid · CodeBack: laid · CodeSteps: laid.
  DERIVED. THE GIVEN ROWS OF THIS SEAT. 4 by the template 'for every input the law returns true; each argument reads behind the call as it read before'; 0 by the template 'total and deterministic' (their statements: YtdagfcflbphoiaaGreatDoorTotals.lean).
  GIVEN WITH THE SEED: the statements are not yours to turn. If you find one false, say at which input.
  Laid BY PROGRAM, IN A SANDBOX (cutbox-rows.mjs): the forced cells as the released guide's own fill.sh prints them over the translation 52cc69571934dfa0… (all of the seat's roots in one cut). By AI agents, Wed Nov 11 2026. No macro, syntax, notation, axiom, sorry.
-/
import Derived.Test.YtdagfcflbphoiaaGreatDoorChecked
import GoSem.Claim
import GoSem.ClaimJoined
import GoSem.ClaimMapViews
import Derived.JoinedTies
import Derived.KernelRfl
namespace Go.Proofs.YtdagfcflbphoiaaGreatDoor
/- THE CELL 'sum', in the pinned program and in every row, IS THE sha256 OF THE DUMP (.gsa) THAT YtdagfcflbphoiaaGreatDoorProg.lean LOADS. Nothing in Lean hashes anything: it is a label: what it is worth is what the hold of that sum in a sandbox is worth. -/
noncomputable def Tryz.pinned : Pinned := { name := "ytdagfcflbphoiaagreatdoor", sum := "52cc69571934dfa0963b56b666c842f9dc34030c6788b9ab4e9fc860d36188ce", checked := Tryz.checked }
namespace Rows
def none {H : Type} : Left H := { results := [], args := [] }

/- WHAT THE LISTED PACKAGE-LEVEL VARIABLES READ AS WHEN THE CALL BEGINS. Each datum BY PROGRAM (the guide's laid-datum.mjs) off the statement by which the dump's own 'gosem.cut.vars' lays the variable. In a bare row this is a premise. The card (YtdagfcflbphoiaaGreatDoorCards.lean) ties it to the program's text. -/
def laid_baler_tables_bounds {H : Type} : DataW H := .agg [.lit (.int .i64 200), .lit (.int .i64 600), .lit (.int .i64 1200), .lit (.int .i64 2400)]

/-- 'balerlaw14.CodeWrites': WHATEVER THE INPUT: true; the input reads as it did. -/
def codeWritesSpec : ChangeSpec := { name := "codeWrites", fn := fun _ => fun
  | [d1, d2, d3] => { results := [.lit (.bool true)], args := [d1, d2, d3] }
  | _ => none }
def codeWritesRow : OpenClaim := { program := "ytdagfcflbphoiaagreatdoor", sum := "52cc69571934dfa0963b56b666c842f9dc34030c6788b9ab4e9fc860d36188ce", func := "baler/balerlaw14.CodeWrites", spec := "codeWrites", unfollowed := true, recurses := true, named := ["baler/tables.bounds"], apart := false, laid := [("baler/tables.bounds", laid_baler_tables_bounds)] }
def CodeWritesSaid : Prop := codeWritesRow.holds Tryz.pinned (OpenSpec.ofChange codeWritesSpec)

/-- ITS FALSE NEIGHBOUR: 'it returns false'. Refute it at one input. -/
def codeWritesWrong : ChangeSpec := { name := "codeWrites", fn := fun _ => fun
  | [d1, d2, d3] => { results := [.lit (.bool false)], args := [d1, d2, d3] }
  | _ => none }
def CodeWritesWrongFalsely : Prop := codeWritesRow.holds Tryz.pinned (OpenSpec.ofChange codeWritesWrong)

/-- 'balerlaw14.CodeReads': WHATEVER THE INPUT: true; the input reads as it did. -/
def codeReadsSpec : ChangeSpec := { name := "codeReads", fn := fun _ => fun
  | [d1, d2, d3] => { results := [.lit (.bool true)], args := [d1, d2, d3] }
  | _ => none }
def codeReadsRow : OpenClaim := { program := "ytdagfcflbphoiaagreatdoor", sum := "52cc69571934dfa0963b56b666c842f9dc34030c6788b9ab4e9fc860d36188ce", func := "baler/balerlaw14.CodeReads", spec := "codeReads", unfollowed := true, recurses := true, named := ["baler/tables.bounds"], apart := false, laid := [("baler/tables.bounds", laid_baler_tables_bounds)] }
def CodeReadsSaid : Prop := codeReadsRow.holds Tryz.pinned (OpenSpec.ofChange codeReadsSpec)

/-- ITS FALSE NEIGHBOUR: 'it returns false'. Refute it at one input. -/
def codeReadsWrong : ChangeSpec := { name := "codeReads", fn := fun _ => fun
  | [d1, d2, d3] => { results := [.lit (.bool false)], args := [d1, d2, d3] }
  | _ => none }
def CodeReadsWrongFalsely : Prop := codeReadsRow.holds Tryz.pinned (OpenSpec.ofChange codeReadsWrong)

/-- 'balerlaw14.CodeBack': WHATEVER THE INPUT: true; the input reads as it did. -/
def codeBackSpec : ChangeSpec := { name := "codeBack", fn := fun _ => fun
  | [d1, d2, d3] => { results := [.lit (.bool true)], args := [d1, d2, d3] }
  | _ => none }
def codeBackRow : OpenClaim := { program := "ytdagfcflbphoiaagreatdoor", sum := "52cc69571934dfa0963b56b666c842f9dc34030c6788b9ab4e9fc860d36188ce", func := "baler/balerlaw14.CodeBack", spec := "codeBack", unfollowed := true, recurses := true, named := ["baler/tables.bounds"], apart := false, laid := [("baler/tables.bounds", laid_baler_tables_bounds)] }
def CodeBackSaid : Prop := codeBackRow.holds Tryz.pinned (OpenSpec.ofChange codeBackSpec)

/-- ITS FALSE NEIGHBOUR: 'it returns false'. Refute it at one input. -/
def codeBackWrong : ChangeSpec := { name := "codeBack", fn := fun _ => fun
  | [d1, d2, d3] => { results := [.lit (.bool false)], args := [d1, d2, d3] }
  | _ => none }
def CodeBackWrongFalsely : Prop := codeBackRow.holds Tryz.pinned (OpenSpec.ofChange codeBackWrong)

/-- 'balerlaw14.CodeSteps': WHATEVER THE INPUT: true; the input reads as it did. -/
def codeStepsSpec : ChangeSpec := { name := "codeSteps", fn := fun _ => fun
  | [d1, d2, d3] => { results := [.lit (.bool true)], args := [d1, d2, d3] }
  | _ => none }
def codeStepsRow : OpenClaim := { program := "ytdagfcflbphoiaagreatdoor", sum := "52cc69571934dfa0963b56b666c842f9dc34030c6788b9ab4e9fc860d36188ce", func := "baler/balerlaw14.CodeSteps", spec := "codeSteps", unfollowed := true, recurses := true, named := ["baler/tables.bounds"], apart := false, laid := [("baler/tables.bounds", laid_baler_tables_bounds)] }
def CodeStepsSaid : Prop := codeStepsRow.holds Tryz.pinned (OpenSpec.ofChange codeStepsSpec)

/-- ITS FALSE NEIGHBOUR: 'it returns false'. Refute it at one input. -/
def codeStepsWrong : ChangeSpec := { name := "codeSteps", fn := fun _ => fun
  | [d1, d2, d3] => { results := [.lit (.bool false)], args := [d1, d2, d3] }
  | _ => none }
def CodeStepsWrongFalsely : Prop := codeStepsRow.holds Tryz.pinned (OpenSpec.ofChange codeStepsWrong)

/- THE SECOND FORM. 'bulk': how many values and letters a reading holds, each counted each time it is reached (what is shared counts as often as it is met; a slice's spare places count too). A statement '..UptoSaid' is the law's where the arguments, and the package variables that the reading takes, are together of bulk at most 1048576: NARROWER than '..Said'. Prove '..Said' where nothing that the law and all that it calls make is longer than what came in: it says more and counts as full. Else prove '..UptoSaid'. A law counts once. -/
mutual
def uptoBulk {H : Type} : DataW H → Nat
  | .lit (.string bytes) => bytes.length + 1
  | .lit _ => 1
  | .nil => 1
  | .ptr d => uptoBulk d + 1
  | .slice elems spare => uptoBulkAll elems + uptoBulkAll spare + 1
  | .agg parts => uptoBulkAll parts + 1
  | .iface _ d => uptoBulk d + 1
  | .map entries => uptoBulkEntries entries + 1
  | .held _ => 1
def uptoBulkAll {H : Type} : List (DataW H) → Nat
  | [] => 0
  | d :: r => uptoBulk d + uptoBulkAll r
def uptoBulkEntries {H : Type} : List (Lit × DataW H) → Nat
  | [] => 0
  | x :: r => uptoBulkEntry x + uptoBulkEntries r
def uptoBulkEntry {H : Type} : Lit × DataW H → Nat
  | (.string bytes, d) => bytes.length + uptoBulk d + 1
  | (_, d) => uptoBulk d + 1
 end
def uptoSmall : (H : Type) → List (DataW H) → Bool := fun _ ds => decide (uptoBulkAll ds ≤ 1048576)
def OpenSpec.upto (s : _root_.Go.ChangeSpec) : _root_.Go.OpenSpec := { _root_.Go.OpenSpec.ofChange s with cond := some uptoSmall }

/-- 'balerlaw14.CodeWrites', WHERE WHAT IT READS IS OF BULK AT MOST 1048576: true; the input reads as it did. -/
def codeWritesUptoRow : OpenClaim := { program := "ytdagfcflbphoiaagreatdoor", sum := "52cc69571934dfa0963b56b666c842f9dc34030c6788b9ab4e9fc860d36188ce", func := "baler/balerlaw14.CodeWrites", spec := "codeWrites", unfollowed := true, recurses := true, named := ["baler/tables.bounds"], apart := false, laid := [("baler/tables.bounds", laid_baler_tables_bounds)], narrowed := true }
def CodeWritesUptoSaid : Prop := codeWritesUptoRow.holds Tryz.pinned (OpenSpec.upto codeWritesSpec)

/-- 'balerlaw14.CodeReads', WHERE WHAT IT READS IS OF BULK AT MOST 1048576: true; the input reads as it did. -/
def codeReadsUptoRow : OpenClaim := { program := "ytdagfcflbphoiaagreatdoor", sum := "52cc69571934dfa0963b56b666c842f9dc34030c6788b9ab4e9fc860d36188ce", func := "baler/balerlaw14.CodeReads", spec := "codeReads", unfollowed := true, recurses := true, named := ["baler/tables.bounds"], apart := false, laid := [("baler/tables.bounds", laid_baler_tables_bounds)], narrowed := true }
def CodeReadsUptoSaid : Prop := codeReadsUptoRow.holds Tryz.pinned (OpenSpec.upto codeReadsSpec)

/-- 'balerlaw14.CodeBack', WHERE WHAT IT READS IS OF BULK AT MOST 1048576: true; the input reads as it did. -/
def codeBackUptoRow : OpenClaim := { program := "ytdagfcflbphoiaagreatdoor", sum := "52cc69571934dfa0963b56b666c842f9dc34030c6788b9ab4e9fc860d36188ce", func := "baler/balerlaw14.CodeBack", spec := "codeBack", unfollowed := true, recurses := true, named := ["baler/tables.bounds"], apart := false, laid := [("baler/tables.bounds", laid_baler_tables_bounds)], narrowed := true }
def CodeBackUptoSaid : Prop := codeBackUptoRow.holds Tryz.pinned (OpenSpec.upto codeBackSpec)

/-- 'balerlaw14.CodeSteps', WHERE WHAT IT READS IS OF BULK AT MOST 1048576: true; the input reads as it did. -/
def codeStepsUptoRow : OpenClaim := { program := "ytdagfcflbphoiaagreatdoor", sum := "52cc69571934dfa0963b56b666c842f9dc34030c6788b9ab4e9fc860d36188ce", func := "baler/balerlaw14.CodeSteps", spec := "codeSteps", unfollowed := true, recurses := true, named := ["baler/tables.bounds"], apart := false, laid := [("baler/tables.bounds", laid_baler_tables_bounds)], narrowed := true }
def CodeStepsUptoSaid : Prop := codeStepsUptoRow.holds Tryz.pinned (OpenSpec.upto codeStepsSpec)

end Rows
end Go.Proofs.YtdagfcflbphoiaaGreatDoor

/-
  NARROWER THAN 'FOR EVERY INPUT', by the rows' own cells (each row's printed sentence says how): TablesCosts: laid · TablesWhole: laid · TablesFirst: laid · TablesOf: laid · TablesSame: laid.
  DERIVED. THE GIVEN ROWS OF THIS SEAT. 5 by the template 'for every input the law returns true; each argument reads behind the call as it read before'; 0 by the template 'total and deterministic' (their statements: YtdagfcflbphoiaaDoorTotals.lean).
  GIVEN WITH THE SEED: the statements are not yours to turn. If you find one false, say at which input.
  Laid BY PROGRAM, IN A SANDBOX (cutbox-rows.mjs): the forced cells as the released guide's own fill.sh prints them over the translation fd3210e3444e2944… (all of the seat's roots in one cut). By AI agents, Wed Nov 11 2026. No macro, syntax, notation, axiom, sorry.
-/
import Derived.Test.YtdagfcflbphoiaaDoorChecked
import GoSem.Claim
import GoSem.ClaimJoined
import GoSem.ClaimMapViews
import Derived.JoinedTies
import Derived.KernelRfl
namespace Go.Proofs.YtdagfcflbphoiaaDoor
/- THE CELL 'sum', in the pinned program and in every row, IS THE sha256 OF THE DUMP (.gsa) THAT YtdagfcflbphoiaaDoorProg.lean LOADS. Nothing in Lean hashes anything: it is a label: what it is worth is what the hold of that sum in a sandbox is worth. -/
noncomputable def Tryd.pinned : Pinned := { name := "ytdagfcflbphoiaadoor", sum := "fd3210e3444e294433d88aa19e1d20d678ca974dd49eeff0ba8a18ceedf55e68", checked := Tryd.checked }
namespace Rows
def none {H : Type} : Left H := { results := [], args := [] }

/- WHAT THE LISTED PACKAGE-LEVEL VARIABLES READ AS WHEN THE CALL BEGINS. Each datum BY PROGRAM (the guide's laid-datum.mjs) off the statement by which the dump's own 'gosem.cut.vars' lays the variable. In a bare row this is a premise. The card (YtdagfcflbphoiaaDoorCards.lean) ties it to the program's text. -/
def laid_baler_tables_bounds {H : Type} : DataW H := .agg [.lit (.int .i64 200), .lit (.int .i64 600), .lit (.int .i64 1200), .lit (.int .i64 2400)]

/-- 'balerlaw12.TablesCosts': WHATEVER THE INPUT: true; the input reads as it did. -/
def tablesCostsSpec : ChangeSpec := { name := "tablesCosts", fn := fun _ => fun
  | [d1, d2] => { results := [.lit (.bool true)], args := [d1, d2] }
  | _ => none }
def tablesCostsRow : OpenClaim := { program := "ytdagfcflbphoiaadoor", sum := "fd3210e3444e294433d88aa19e1d20d678ca974dd49eeff0ba8a18ceedf55e68", func := "baler/balerlaw12.TablesCosts", spec := "tablesCosts", unfollowed := true, recurses := true, named := ["baler/tables.bounds"], apart := false, laid := [("baler/tables.bounds", laid_baler_tables_bounds)] }
def TablesCostsSaid : Prop := tablesCostsRow.holds Tryd.pinned (OpenSpec.ofChange tablesCostsSpec)

/-- ITS FALSE NEIGHBOUR: 'it returns false'. Refute it at one input. -/
def tablesCostsWrong : ChangeSpec := { name := "tablesCosts", fn := fun _ => fun
  | [d1, d2] => { results := [.lit (.bool false)], args := [d1, d2] }
  | _ => none }
def TablesCostsWrongFalsely : Prop := tablesCostsRow.holds Tryd.pinned (OpenSpec.ofChange tablesCostsWrong)

/-- 'balerlaw12.TablesWhole': WHATEVER THE INPUT: true; the input reads as it did. -/
def tablesWholeSpec : ChangeSpec := { name := "tablesWhole", fn := fun _ => fun
  | [d1, d2] => { results := [.lit (.bool true)], args := [d1, d2] }
  | _ => none }
def tablesWholeRow : OpenClaim := { program := "ytdagfcflbphoiaadoor", sum := "fd3210e3444e294433d88aa19e1d20d678ca974dd49eeff0ba8a18ceedf55e68", func := "baler/balerlaw12.TablesWhole", spec := "tablesWhole", unfollowed := true, recurses := true, named := ["baler/tables.bounds"], apart := false, laid := [("baler/tables.bounds", laid_baler_tables_bounds)] }
def TablesWholeSaid : Prop := tablesWholeRow.holds Tryd.pinned (OpenSpec.ofChange tablesWholeSpec)

/-- ITS FALSE NEIGHBOUR: 'it returns false'. Refute it at one input. -/
def tablesWholeWrong : ChangeSpec := { name := "tablesWhole", fn := fun _ => fun
  | [d1, d2] => { results := [.lit (.bool false)], args := [d1, d2] }
  | _ => none }
def TablesWholeWrongFalsely : Prop := tablesWholeRow.holds Tryd.pinned (OpenSpec.ofChange tablesWholeWrong)

/-- 'balerlaw12.TablesFirst': WHATEVER THE INPUT: true; the input reads as it did. -/
def tablesFirstSpec : ChangeSpec := { name := "tablesFirst", fn := fun _ => fun
  | [d1, d2] => { results := [.lit (.bool true)], args := [d1, d2] }
  | _ => none }
def tablesFirstRow : OpenClaim := { program := "ytdagfcflbphoiaadoor", sum := "fd3210e3444e294433d88aa19e1d20d678ca974dd49eeff0ba8a18ceedf55e68", func := "baler/balerlaw12.TablesFirst", spec := "tablesFirst", unfollowed := true, recurses := true, named := ["baler/tables.bounds"], apart := false, laid := [("baler/tables.bounds", laid_baler_tables_bounds)] }
def TablesFirstSaid : Prop := tablesFirstRow.holds Tryd.pinned (OpenSpec.ofChange tablesFirstSpec)

/-- ITS FALSE NEIGHBOUR: 'it returns false'. Refute it at one input. -/
def tablesFirstWrong : ChangeSpec := { name := "tablesFirst", fn := fun _ => fun
  | [d1, d2] => { results := [.lit (.bool false)], args := [d1, d2] }
  | _ => none }
def TablesFirstWrongFalsely : Prop := tablesFirstRow.holds Tryd.pinned (OpenSpec.ofChange tablesFirstWrong)

/-- 'balerlaw12.TablesOf': WHATEVER THE INPUT: true; the input reads as it did. -/
def tablesOfSpec : ChangeSpec := { name := "tablesOf", fn := fun _ => fun
  | [d1, d2] => { results := [.lit (.bool true)], args := [d1, d2] }
  | _ => none }
def tablesOfRow : OpenClaim := { program := "ytdagfcflbphoiaadoor", sum := "fd3210e3444e294433d88aa19e1d20d678ca974dd49eeff0ba8a18ceedf55e68", func := "baler/balerlaw12.TablesOf", spec := "tablesOf", unfollowed := true, recurses := true, named := ["baler/tables.bounds"], apart := false, laid := [("baler/tables.bounds", laid_baler_tables_bounds)] }
def TablesOfSaid : Prop := tablesOfRow.holds Tryd.pinned (OpenSpec.ofChange tablesOfSpec)

/-- ITS FALSE NEIGHBOUR: 'it returns false'. Refute it at one input. -/
def tablesOfWrong : ChangeSpec := { name := "tablesOf", fn := fun _ => fun
  | [d1, d2] => { results := [.lit (.bool false)], args := [d1, d2] }
  | _ => none }
def TablesOfWrongFalsely : Prop := tablesOfRow.holds Tryd.pinned (OpenSpec.ofChange tablesOfWrong)

/-- 'balerlaw12.TablesSame': WHATEVER THE INPUT: true; the input reads as it did. -/
def tablesSameSpec : ChangeSpec := { name := "tablesSame", fn := fun _ => fun
  | [d1, d2] => { results := [.lit (.bool true)], args := [d1, d2] }
  | _ => none }
def tablesSameRow : OpenClaim := { program := "ytdagfcflbphoiaadoor", sum := "fd3210e3444e294433d88aa19e1d20d678ca974dd49eeff0ba8a18ceedf55e68", func := "baler/balerlaw12.TablesSame", spec := "tablesSame", unfollowed := true, recurses := true, named := ["baler/tables.bounds"], apart := false, laid := [("baler/tables.bounds", laid_baler_tables_bounds)] }
def TablesSameSaid : Prop := tablesSameRow.holds Tryd.pinned (OpenSpec.ofChange tablesSameSpec)

/-- ITS FALSE NEIGHBOUR: 'it returns false'. Refute it at one input. -/
def tablesSameWrong : ChangeSpec := { name := "tablesSame", fn := fun _ => fun
  | [d1, d2] => { results := [.lit (.bool false)], args := [d1, d2] }
  | _ => none }
def TablesSameWrongFalsely : Prop := tablesSameRow.holds Tryd.pinned (OpenSpec.ofChange tablesSameWrong)

/- THE SECOND FORM. 'bulk': how many values and letters a reading holds, each counted each time it is reached (what is shared counts as often as it is met; a slice's spare places count too). A statement '..UptoSaid' is the law's where the arguments, and the package variables that the reading takes, are together of bulk at most 1048576: NARROWER than '..Said'. Prove '..Said' where nothing that the law and all that it calls make is longer than what came in: it says more and counts as full. Else prove '..UptoSaid'. A law counts once. -/
mutual
def uptoBulk {H : Type} : DataW H → Nat
  | .lit (.string bytes) => bytes.length + 1
  | .lit _ => 1
  | .nil => 1
  | .ptr d => uptoBulk d + 1
  | .slice elems spare => uptoBulkAll elems + uptoBulkAll spare + 1
  | .agg parts => uptoBulkAll parts + 1
  | .iface _ d => uptoBulk d + 1
  | .map entries => uptoBulkEntries entries + 1
  | .held _ => 1
def uptoBulkAll {H : Type} : List (DataW H) → Nat
  | [] => 0
  | d :: r => uptoBulk d + uptoBulkAll r
def uptoBulkEntries {H : Type} : List (Lit × DataW H) → Nat
  | [] => 0
  | x :: r => uptoBulkEntry x + uptoBulkEntries r
def uptoBulkEntry {H : Type} : Lit × DataW H → Nat
  | (.string bytes, d) => bytes.length + uptoBulk d + 1
  | (_, d) => uptoBulk d + 1
 end
def uptoSmall : (H : Type) → List (DataW H) → Bool := fun _ ds => decide (uptoBulkAll ds ≤ 1048576)
def OpenSpec.upto (s : _root_.Go.ChangeSpec) : _root_.Go.OpenSpec := { _root_.Go.OpenSpec.ofChange s with cond := some uptoSmall }

/-- 'balerlaw12.TablesCosts', WHERE WHAT IT READS IS OF BULK AT MOST 1048576: true; the input reads as it did. -/
def tablesCostsUptoRow : OpenClaim := { program := "ytdagfcflbphoiaadoor", sum := "fd3210e3444e294433d88aa19e1d20d678ca974dd49eeff0ba8a18ceedf55e68", func := "baler/balerlaw12.TablesCosts", spec := "tablesCosts", unfollowed := true, recurses := true, named := ["baler/tables.bounds"], apart := false, laid := [("baler/tables.bounds", laid_baler_tables_bounds)], narrowed := true }
def TablesCostsUptoSaid : Prop := tablesCostsUptoRow.holds Tryd.pinned (OpenSpec.upto tablesCostsSpec)

/-- 'balerlaw12.TablesWhole', WHERE WHAT IT READS IS OF BULK AT MOST 1048576: true; the input reads as it did. -/
def tablesWholeUptoRow : OpenClaim := { program := "ytdagfcflbphoiaadoor", sum := "fd3210e3444e294433d88aa19e1d20d678ca974dd49eeff0ba8a18ceedf55e68", func := "baler/balerlaw12.TablesWhole", spec := "tablesWhole", unfollowed := true, recurses := true, named := ["baler/tables.bounds"], apart := false, laid := [("baler/tables.bounds", laid_baler_tables_bounds)], narrowed := true }
def TablesWholeUptoSaid : Prop := tablesWholeUptoRow.holds Tryd.pinned (OpenSpec.upto tablesWholeSpec)

/-- 'balerlaw12.TablesFirst', WHERE WHAT IT READS IS OF BULK AT MOST 1048576: true; the input reads as it did. -/
def tablesFirstUptoRow : OpenClaim := { program := "ytdagfcflbphoiaadoor", sum := "fd3210e3444e294433d88aa19e1d20d678ca974dd49eeff0ba8a18ceedf55e68", func := "baler/balerlaw12.TablesFirst", spec := "tablesFirst", unfollowed := true, recurses := true, named := ["baler/tables.bounds"], apart := false, laid := [("baler/tables.bounds", laid_baler_tables_bounds)], narrowed := true }
def TablesFirstUptoSaid : Prop := tablesFirstUptoRow.holds Tryd.pinned (OpenSpec.upto tablesFirstSpec)

/-- 'balerlaw12.TablesOf', WHERE WHAT IT READS IS OF BULK AT MOST 1048576: true; the input reads as it did. -/
def tablesOfUptoRow : OpenClaim := { program := "ytdagfcflbphoiaadoor", sum := "fd3210e3444e294433d88aa19e1d20d678ca974dd49eeff0ba8a18ceedf55e68", func := "baler/balerlaw12.TablesOf", spec := "tablesOf", unfollowed := true, recurses := true, named := ["baler/tables.bounds"], apart := false, laid := [("baler/tables.bounds", laid_baler_tables_bounds)], narrowed := true }
def TablesOfUptoSaid : Prop := tablesOfUptoRow.holds Tryd.pinned (OpenSpec.upto tablesOfSpec)

/-- 'balerlaw12.TablesSame', WHERE WHAT IT READS IS OF BULK AT MOST 1048576: true; the input reads as it did. -/
def tablesSameUptoRow : OpenClaim := { program := "ytdagfcflbphoiaadoor", sum := "fd3210e3444e294433d88aa19e1d20d678ca974dd49eeff0ba8a18ceedf55e68", func := "baler/balerlaw12.TablesSame", spec := "tablesSame", unfollowed := true, recurses := true, named := ["baler/tables.bounds"], apart := false, laid := [("baler/tables.bounds", laid_baler_tables_bounds)], narrowed := true }
def TablesSameUptoSaid : Prop := tablesSameUptoRow.holds Tryd.pinned (OpenSpec.upto tablesSameSpec)

end Rows
end Go.Proofs.YtdagfcflbphoiaaDoor

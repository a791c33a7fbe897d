/-
  No cell of these rows narrows 'for every input' (looked for: loops, veiled, ifaces, maps, wideKeys, modest, calm, conditions, laid).
  DERIVED. THE GIVEN ROWS OF THIS SEAT. 12 by the template 'for every input the law returns true; each argument reads behind the call as it read before'; 0 by the template 'total and deterministic' (their statements: YtbakfaihnecmoaaTotals.lean).
  GIVEN WITH THE SEED: the statements are not yours to turn. If you find one false, say at which input.
  Laid BY PROGRAM, IN A SANDBOX (cutbox-rows.mjs): the forced cells as the released guide's own fill.sh prints them over the translation 992363b3fd968384… (all of the seat's roots in one cut). By AI agents, Wed Nov 11 2026. No macro, syntax, notation, axiom, sorry.
-/
import Derived.Test.YtbakfaihnecmoaaChecked
import GoSem.Claim
import GoSem.ClaimJoined
import GoSem.ClaimMapViews
import Derived.JoinedTies
import Derived.KernelRfl
namespace Go.Proofs.Ytbakfaihnecmoaa
/- THE CELL 'sum', in the pinned program and in every row, IS THE sha256 OF THE DUMP (.gsa) THAT YtbakfaihnecmoaaProg.lean LOADS. Nothing in Lean hashes anything: it is a label: what it is worth is what the hold of that sum in a sandbox is worth. -/
noncomputable def Try.pinned : Pinned := { name := "ytbakfaihnecmoaa", sum := "992363b3fd968384ce69ef33b007928eb083fa6fda37a6a3d273a5f9bf2b5a77", checked := Try.checked }
namespace Rows
def none {H : Type} : Left H := { results := [], args := [] }

/-- 'balerlaw16.SorterOf': WHATEVER THE INPUT: true; the input reads as it did. -/
def sorterOfSpec : ChangeSpec := { name := "sorterOf", fn := fun _ => fun
  | [d] => { results := [.lit (.bool true)], args := [d] }
  | _ => none }
def sorterOfRow : OpenClaim := { program := "ytbakfaihnecmoaa", sum := "992363b3fd968384ce69ef33b007928eb083fa6fda37a6a3d273a5f9bf2b5a77", func := "baler/balerlaw16.SorterOf", spec := "sorterOf", apart := false }
def SorterOfSaid : Prop := sorterOfRow.holds Try.pinned (OpenSpec.ofChange sorterOfSpec)

/-- ITS FALSE NEIGHBOUR: 'it returns false'. Refute it at one input. -/
def sorterOfWrong : ChangeSpec := { name := "sorterOf", fn := fun _ => fun
  | [d] => { results := [.lit (.bool false)], args := [d] }
  | _ => none }
def SorterOfWrongFalsely : Prop := sorterOfRow.holds Try.pinned (OpenSpec.ofChange sorterOfWrong)

/-- 'balerlaw16.SorterCuts': WHATEVER THE INPUT: true; the input reads as it did. -/
def sorterCutsSpec : ChangeSpec := { name := "sorterCuts", fn := fun _ => fun
  | [d1, d2] => { results := [.lit (.bool true)], args := [d1, d2] }
  | _ => none }
def sorterCutsRow : OpenClaim := { program := "ytbakfaihnecmoaa", sum := "992363b3fd968384ce69ef33b007928eb083fa6fda37a6a3d273a5f9bf2b5a77", func := "baler/balerlaw16.SorterCuts", spec := "sorterCuts", recurses := true, apart := false }
def SorterCutsSaid : Prop := sorterCutsRow.holds Try.pinned (OpenSpec.ofChange sorterCutsSpec)

/-- ITS FALSE NEIGHBOUR: 'it returns false'. Refute it at one input. -/
def sorterCutsWrong : ChangeSpec := { name := "sorterCuts", fn := fun _ => fun
  | [d1, d2] => { results := [.lit (.bool false)], args := [d1, d2] }
  | _ => none }
def SorterCutsWrongFalsely : Prop := sorterCutsRow.holds Try.pinned (OpenSpec.ofChange sorterCutsWrong)

/-- 'balerlaw16.SorterLong': WHATEVER THE INPUT: true; the input reads as it did. -/
def sorterLongSpec : ChangeSpec := { name := "sorterLong", fn := fun _ => fun
  | [d1, d2] => { results := [.lit (.bool true)], args := [d1, d2] }
  | _ => none }
def sorterLongRow : OpenClaim := { program := "ytbakfaihnecmoaa", sum := "992363b3fd968384ce69ef33b007928eb083fa6fda37a6a3d273a5f9bf2b5a77", func := "baler/balerlaw16.SorterLong", spec := "sorterLong", apart := false }
def SorterLongSaid : Prop := sorterLongRow.holds Try.pinned (OpenSpec.ofChange sorterLongSpec)

/-- ITS FALSE NEIGHBOUR: 'it returns false'. Refute it at one input. -/
def sorterLongWrong : ChangeSpec := { name := "sorterLong", fn := fun _ => fun
  | [d1, d2] => { results := [.lit (.bool false)], args := [d1, d2] }
  | _ => none }
def SorterLongWrongFalsely : Prop := sorterLongRow.holds Try.pinned (OpenSpec.ofChange sorterLongWrong)

/-- 'balerlaw16.SorterNil': WHATEVER THE INPUT: true; the input reads as it did. -/
def sorterNilSpec : ChangeSpec := { name := "sorterNil", fn := fun _ => fun
  | [d] => { results := [.lit (.bool true)], args := [d] }
  | _ => none }
def sorterNilRow : OpenClaim := { program := "ytbakfaihnecmoaa", sum := "992363b3fd968384ce69ef33b007928eb083fa6fda37a6a3d273a5f9bf2b5a77", func := "baler/balerlaw16.SorterNil", spec := "sorterNil", apart := false }
def SorterNilSaid : Prop := sorterNilRow.holds Try.pinned (OpenSpec.ofChange sorterNilSpec)

/-- ITS FALSE NEIGHBOUR: 'it returns false'. Refute it at one input. -/
def sorterNilWrong : ChangeSpec := { name := "sorterNil", fn := fun _ => fun
  | [d] => { results := [.lit (.bool false)], args := [d] }
  | _ => none }
def SorterNilWrongFalsely : Prop := sorterNilRow.holds Try.pinned (OpenSpec.ofChange sorterNilWrong)

/-- 'balerlaw16.SorterMost': WHATEVER THE INPUT: true; the input reads as it did. -/
def sorterMostSpec : ChangeSpec := { name := "sorterMost", fn := fun _ => fun
  | [d1, d2] => { results := [.lit (.bool true)], args := [d1, d2] }
  | _ => none }
def sorterMostRow : OpenClaim := { program := "ytbakfaihnecmoaa", sum := "992363b3fd968384ce69ef33b007928eb083fa6fda37a6a3d273a5f9bf2b5a77", func := "baler/balerlaw16.SorterMost", spec := "sorterMost", apart := false }
def SorterMostSaid : Prop := sorterMostRow.holds Try.pinned (OpenSpec.ofChange sorterMostSpec)

/-- ITS FALSE NEIGHBOUR: 'it returns false'. Refute it at one input. -/
def sorterMostWrong : ChangeSpec := { name := "sorterMost", fn := fun _ => fun
  | [d1, d2] => { results := [.lit (.bool false)], args := [d1, d2] }
  | _ => none }
def SorterMostWrongFalsely : Prop := sorterMostRow.holds Try.pinned (OpenSpec.ofChange sorterMostWrong)

/-- 'balerlaw17.BwtOf': WHATEVER THE INPUT: true; the input reads as it did. -/
def bwtOfSpec : ChangeSpec := { name := "bwtOf", fn := fun _ => fun
  | [d] => { results := [.lit (.bool true)], args := [d] }
  | _ => none }
def bwtOfRow : OpenClaim := { program := "ytbakfaihnecmoaa", sum := "992363b3fd968384ce69ef33b007928eb083fa6fda37a6a3d273a5f9bf2b5a77", func := "baler/balerlaw17.BwtOf", spec := "bwtOf", apart := false }
def BwtOfSaid : Prop := bwtOfRow.holds Try.pinned (OpenSpec.ofChange bwtOfSpec)

/-- ITS FALSE NEIGHBOUR: 'it returns false'. Refute it at one input. -/
def bwtOfWrong : ChangeSpec := { name := "bwtOf", fn := fun _ => fun
  | [d] => { results := [.lit (.bool false)], args := [d] }
  | _ => none }
def BwtOfWrongFalsely : Prop := bwtOfRow.holds Try.pinned (OpenSpec.ofChange bwtOfWrong)

/-- 'balerlaw17.BwtBytes': WHATEVER THE INPUT: true; the input reads as it did. -/
def bwtBytesSpec : ChangeSpec := { name := "bwtBytes", fn := fun _ => fun
  | [d1, d2] => { results := [.lit (.bool true)], args := [d1, d2] }
  | _ => none }
def bwtBytesRow : OpenClaim := { program := "ytbakfaihnecmoaa", sum := "992363b3fd968384ce69ef33b007928eb083fa6fda37a6a3d273a5f9bf2b5a77", func := "baler/balerlaw17.BwtBytes", spec := "bwtBytes", apart := false }
def BwtBytesSaid : Prop := bwtBytesRow.holds Try.pinned (OpenSpec.ofChange bwtBytesSpec)

/-- ITS FALSE NEIGHBOUR: 'it returns false'. Refute it at one input. -/
def bwtBytesWrong : ChangeSpec := { name := "bwtBytes", fn := fun _ => fun
  | [d1, d2] => { results := [.lit (.bool false)], args := [d1, d2] }
  | _ => none }
def BwtBytesWrongFalsely : Prop := bwtBytesRow.holds Try.pinned (OpenSpec.ofChange bwtBytesWrong)

/-- 'balerlaw17.BwtTurns': WHATEVER THE INPUT: true; the input reads as it did. -/
def bwtTurnsSpec : ChangeSpec := { name := "bwtTurns", fn := fun _ => fun
  | [d1, d2] => { results := [.lit (.bool true)], args := [d1, d2] }
  | _ => none }
def bwtTurnsRow : OpenClaim := { program := "ytbakfaihnecmoaa", sum := "992363b3fd968384ce69ef33b007928eb083fa6fda37a6a3d273a5f9bf2b5a77", func := "baler/balerlaw17.BwtTurns", spec := "bwtTurns", apart := false }
def BwtTurnsSaid : Prop := bwtTurnsRow.holds Try.pinned (OpenSpec.ofChange bwtTurnsSpec)

/-- ITS FALSE NEIGHBOUR: 'it returns false'. Refute it at one input. -/
def bwtTurnsWrong : ChangeSpec := { name := "bwtTurns", fn := fun _ => fun
  | [d1, d2] => { results := [.lit (.bool false)], args := [d1, d2] }
  | _ => none }
def BwtTurnsWrongFalsely : Prop := bwtTurnsRow.holds Try.pinned (OpenSpec.ofChange bwtTurnsWrong)

/-- 'balerlaw17.BwtMost': WHATEVER THE INPUT: true; the input reads as it did. -/
def bwtMostSpec : ChangeSpec := { name := "bwtMost", fn := fun _ => fun
  | [d1, d2] => { results := [.lit (.bool true)], args := [d1, d2] }
  | _ => none }
def bwtMostRow : OpenClaim := { program := "ytbakfaihnecmoaa", sum := "992363b3fd968384ce69ef33b007928eb083fa6fda37a6a3d273a5f9bf2b5a77", func := "baler/balerlaw17.BwtMost", spec := "bwtMost", apart := false }
def BwtMostSaid : Prop := bwtMostRow.holds Try.pinned (OpenSpec.ofChange bwtMostSpec)

/-- ITS FALSE NEIGHBOUR: 'it returns false'. Refute it at one input. -/
def bwtMostWrong : ChangeSpec := { name := "bwtMost", fn := fun _ => fun
  | [d1, d2] => { results := [.lit (.bool false)], args := [d1, d2] }
  | _ => none }
def BwtMostWrongFalsely : Prop := bwtMostRow.holds Try.pinned (OpenSpec.ofChange bwtMostWrong)

/-- 'balerlaw17.BwtCuts': WHATEVER THE INPUT: true; the input reads as it did. -/
def bwtCutsSpec : ChangeSpec := { name := "bwtCuts", fn := fun _ => fun
  | [d1, d2] => { results := [.lit (.bool true)], args := [d1, d2] }
  | _ => none }
def bwtCutsRow : OpenClaim := { program := "ytbakfaihnecmoaa", sum := "992363b3fd968384ce69ef33b007928eb083fa6fda37a6a3d273a5f9bf2b5a77", func := "baler/balerlaw17.BwtCuts", spec := "bwtCuts", recurses := true, apart := false }
def BwtCutsSaid : Prop := bwtCutsRow.holds Try.pinned (OpenSpec.ofChange bwtCutsSpec)

/-- ITS FALSE NEIGHBOUR: 'it returns false'. Refute it at one input. -/
def bwtCutsWrong : ChangeSpec := { name := "bwtCuts", fn := fun _ => fun
  | [d1, d2] => { results := [.lit (.bool false)], args := [d1, d2] }
  | _ => none }
def BwtCutsWrongFalsely : Prop := bwtCutsRow.holds Try.pinned (OpenSpec.ofChange bwtCutsWrong)

/-- 'balerlaw17.BwtNil': WHATEVER THE INPUT: true; the input reads as it did. -/
def bwtNilSpec : ChangeSpec := { name := "bwtNil", fn := fun _ => fun
  | [d] => { results := [.lit (.bool true)], args := [d] }
  | _ => none }
def bwtNilRow : OpenClaim := { program := "ytbakfaihnecmoaa", sum := "992363b3fd968384ce69ef33b007928eb083fa6fda37a6a3d273a5f9bf2b5a77", func := "baler/balerlaw17.BwtNil", spec := "bwtNil", apart := false }
def BwtNilSaid : Prop := bwtNilRow.holds Try.pinned (OpenSpec.ofChange bwtNilSpec)

/-- ITS FALSE NEIGHBOUR: 'it returns false'. Refute it at one input. -/
def bwtNilWrong : ChangeSpec := { name := "bwtNil", fn := fun _ => fun
  | [d] => { results := [.lit (.bool false)], args := [d] }
  | _ => none }
def BwtNilWrongFalsely : Prop := bwtNilRow.holds Try.pinned (OpenSpec.ofChange bwtNilWrong)

/-- 'balerlaw17.BwtFrom': WHATEVER THE INPUT: true; the input reads as it did. -/
def bwtFromSpec : ChangeSpec := { name := "bwtFrom", fn := fun _ => fun
  | [d1, d2] => { results := [.lit (.bool true)], args := [d1, d2] }
  | _ => none }
def bwtFromRow : OpenClaim := { program := "ytbakfaihnecmoaa", sum := "992363b3fd968384ce69ef33b007928eb083fa6fda37a6a3d273a5f9bf2b5a77", func := "baler/balerlaw17.BwtFrom", spec := "bwtFrom", apart := false }
def BwtFromSaid : Prop := bwtFromRow.holds Try.pinned (OpenSpec.ofChange bwtFromSpec)

/-- ITS FALSE NEIGHBOUR: 'it returns false'. Refute it at one input. -/
def bwtFromWrong : ChangeSpec := { name := "bwtFrom", fn := fun _ => fun
  | [d1, d2] => { results := [.lit (.bool false)], args := [d1, d2] }
  | _ => none }
def BwtFromWrongFalsely : Prop := bwtFromRow.holds Try.pinned (OpenSpec.ofChange bwtFromWrong)

/- THE SECOND FORM. 'bulk': how many values and letters a reading holds, each counted each time it is reached (what is shared counts as often as it is met; a slice's spare places count too). A statement '..UptoSaid' is the law's where the arguments, and the package variables that the reading takes, are together of bulk at most 1048576: NARROWER than '..Said'. Prove '..Said' where nothing that the law and all that it calls make is longer than what came in: it says more and counts as full. Else prove '..UptoSaid'. A law counts once. -/
mutual
def uptoBulk {H : Type} : DataW H → Nat
  | .lit (.string bytes) => bytes.length + 1
  | .lit _ => 1
  | .nil => 1
  | .ptr d => uptoBulk d + 1
  | .slice elems spare => uptoBulkAll elems + uptoBulkAll spare + 1
  | .agg parts => uptoBulkAll parts + 1
  | .iface _ d => uptoBulk d + 1
  | .map entries => uptoBulkEntries entries + 1
  | .held _ => 1
def uptoBulkAll {H : Type} : List (DataW H) → Nat
  | [] => 0
  | d :: r => uptoBulk d + uptoBulkAll r
def uptoBulkEntries {H : Type} : List (Lit × DataW H) → Nat
  | [] => 0
  | x :: r => uptoBulkEntry x + uptoBulkEntries r
def uptoBulkEntry {H : Type} : Lit × DataW H → Nat
  | (.string bytes, d) => bytes.length + uptoBulk d + 1
  | (_, d) => uptoBulk d + 1
 end
def uptoSmall : (H : Type) → List (DataW H) → Bool := fun _ ds => decide (uptoBulkAll ds ≤ 1048576)
def OpenSpec.upto (s : _root_.Go.ChangeSpec) : _root_.Go.OpenSpec := { _root_.Go.OpenSpec.ofChange s with cond := some uptoSmall }

/-- 'balerlaw16.SorterOf', WHERE WHAT IT READS IS OF BULK AT MOST 1048576: true; the input reads as it did. -/
def sorterOfUptoRow : OpenClaim := { program := "ytbakfaihnecmoaa", sum := "992363b3fd968384ce69ef33b007928eb083fa6fda37a6a3d273a5f9bf2b5a77", func := "baler/balerlaw16.SorterOf", spec := "sorterOf", apart := false, narrowed := true }
def SorterOfUptoSaid : Prop := sorterOfUptoRow.holds Try.pinned (OpenSpec.upto sorterOfSpec)

/-- 'balerlaw16.SorterCuts', WHERE WHAT IT READS IS OF BULK AT MOST 1048576: true; the input reads as it did. -/
def sorterCutsUptoRow : OpenClaim := { program := "ytbakfaihnecmoaa", sum := "992363b3fd968384ce69ef33b007928eb083fa6fda37a6a3d273a5f9bf2b5a77", func := "baler/balerlaw16.SorterCuts", spec := "sorterCuts", recurses := true, apart := false, narrowed := true }
def SorterCutsUptoSaid : Prop := sorterCutsUptoRow.holds Try.pinned (OpenSpec.upto sorterCutsSpec)

/-- 'balerlaw16.SorterLong', WHERE WHAT IT READS IS OF BULK AT MOST 1048576: true; the input reads as it did. -/
def sorterLongUptoRow : OpenClaim := { program := "ytbakfaihnecmoaa", sum := "992363b3fd968384ce69ef33b007928eb083fa6fda37a6a3d273a5f9bf2b5a77", func := "baler/balerlaw16.SorterLong", spec := "sorterLong", apart := false, narrowed := true }
def SorterLongUptoSaid : Prop := sorterLongUptoRow.holds Try.pinned (OpenSpec.upto sorterLongSpec)

/-- 'balerlaw16.SorterNil', WHERE WHAT IT READS IS OF BULK AT MOST 1048576: true; the input reads as it did. -/
def sorterNilUptoRow : OpenClaim := { program := "ytbakfaihnecmoaa", sum := "992363b3fd968384ce69ef33b007928eb083fa6fda37a6a3d273a5f9bf2b5a77", func := "baler/balerlaw16.SorterNil", spec := "sorterNil", apart := false, narrowed := true }
def SorterNilUptoSaid : Prop := sorterNilUptoRow.holds Try.pinned (OpenSpec.upto sorterNilSpec)

/-- 'balerlaw16.SorterMost', WHERE WHAT IT READS IS OF BULK AT MOST 1048576: true; the input reads as it did. -/
def sorterMostUptoRow : OpenClaim := { program := "ytbakfaihnecmoaa", sum := "992363b3fd968384ce69ef33b007928eb083fa6fda37a6a3d273a5f9bf2b5a77", func := "baler/balerlaw16.SorterMost", spec := "sorterMost", apart := false, narrowed := true }
def SorterMostUptoSaid : Prop := sorterMostUptoRow.holds Try.pinned (OpenSpec.upto sorterMostSpec)

/-- 'balerlaw17.BwtOf', WHERE WHAT IT READS IS OF BULK AT MOST 1048576: true; the input reads as it did. -/
def bwtOfUptoRow : OpenClaim := { program := "ytbakfaihnecmoaa", sum := "992363b3fd968384ce69ef33b007928eb083fa6fda37a6a3d273a5f9bf2b5a77", func := "baler/balerlaw17.BwtOf", spec := "bwtOf", apart := false, narrowed := true }
def BwtOfUptoSaid : Prop := bwtOfUptoRow.holds Try.pinned (OpenSpec.upto bwtOfSpec)

/-- 'balerlaw17.BwtBytes', WHERE WHAT IT READS IS OF BULK AT MOST 1048576: true; the input reads as it did. -/
def bwtBytesUptoRow : OpenClaim := { program := "ytbakfaihnecmoaa", sum := "992363b3fd968384ce69ef33b007928eb083fa6fda37a6a3d273a5f9bf2b5a77", func := "baler/balerlaw17.BwtBytes", spec := "bwtBytes", apart := false, narrowed := true }
def BwtBytesUptoSaid : Prop := bwtBytesUptoRow.holds Try.pinned (OpenSpec.upto bwtBytesSpec)

/-- 'balerlaw17.BwtTurns', WHERE WHAT IT READS IS OF BULK AT MOST 1048576: true; the input reads as it did. -/
def bwtTurnsUptoRow : OpenClaim := { program := "ytbakfaihnecmoaa", sum := "992363b3fd968384ce69ef33b007928eb083fa6fda37a6a3d273a5f9bf2b5a77", func := "baler/balerlaw17.BwtTurns", spec := "bwtTurns", apart := false, narrowed := true }
def BwtTurnsUptoSaid : Prop := bwtTurnsUptoRow.holds Try.pinned (OpenSpec.upto bwtTurnsSpec)

/-- 'balerlaw17.BwtMost', WHERE WHAT IT READS IS OF BULK AT MOST 1048576: true; the input reads as it did. -/
def bwtMostUptoRow : OpenClaim := { program := "ytbakfaihnecmoaa", sum := "992363b3fd968384ce69ef33b007928eb083fa6fda37a6a3d273a5f9bf2b5a77", func := "baler/balerlaw17.BwtMost", spec := "bwtMost", apart := false, narrowed := true }
def BwtMostUptoSaid : Prop := bwtMostUptoRow.holds Try.pinned (OpenSpec.upto bwtMostSpec)

/-- 'balerlaw17.BwtCuts', WHERE WHAT IT READS IS OF BULK AT MOST 1048576: true; the input reads as it did. -/
def bwtCutsUptoRow : OpenClaim := { program := "ytbakfaihnecmoaa", sum := "992363b3fd968384ce69ef33b007928eb083fa6fda37a6a3d273a5f9bf2b5a77", func := "baler/balerlaw17.BwtCuts", spec := "bwtCuts", recurses := true, apart := false, narrowed := true }
def BwtCutsUptoSaid : Prop := bwtCutsUptoRow.holds Try.pinned (OpenSpec.upto bwtCutsSpec)

/-- 'balerlaw17.BwtNil', WHERE WHAT IT READS IS OF BULK AT MOST 1048576: true; the input reads as it did. -/
def bwtNilUptoRow : OpenClaim := { program := "ytbakfaihnecmoaa", sum := "992363b3fd968384ce69ef33b007928eb083fa6fda37a6a3d273a5f9bf2b5a77", func := "baler/balerlaw17.BwtNil", spec := "bwtNil", apart := false, narrowed := true }
def BwtNilUptoSaid : Prop := bwtNilUptoRow.holds Try.pinned (OpenSpec.upto bwtNilSpec)

/-- 'balerlaw17.BwtFrom', WHERE WHAT IT READS IS OF BULK AT MOST 1048576: true; the input reads as it did. -/
def bwtFromUptoRow : OpenClaim := { program := "ytbakfaihnecmoaa", sum := "992363b3fd968384ce69ef33b007928eb083fa6fda37a6a3d273a5f9bf2b5a77", func := "baler/balerlaw17.BwtFrom", spec := "bwtFrom", apart := false, narrowed := true }
def BwtFromUptoSaid : Prop := bwtFromUptoRow.holds Try.pinned (OpenSpec.upto bwtFromSpec)

end Rows
end Go.Proofs.Ytbakfaihnecmoaa

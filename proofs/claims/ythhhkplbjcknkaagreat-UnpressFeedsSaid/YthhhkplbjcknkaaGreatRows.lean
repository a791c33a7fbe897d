/-
  No cell of these rows narrows 'for every input' (looked for: loops, veiled, ifaces, maps, wideKeys, modest, calm, conditions, laid).
  DERIVED. THE GIVEN ROWS OF THIS SEAT. 5 by the template 'for every input the law returns true; each argument reads behind the call as it read before'; 0 by the template 'total and deterministic' (their statements: YthhhkplbjcknkaaGreatTotals.lean).
  GIVEN WITH THE SEED: the statements are not yours to turn. If you find one false, say at which input.
  Laid BY PROGRAM, IN A SANDBOX (cutbox-rows.mjs): the forced cells as the released guide's own fill.sh prints them over the translation 70faf793fe7e010d… (all of the seat's roots in one cut). By AI agents, Wed Nov 11 2026. No macro, syntax, notation, axiom, sorry.
-/
import Derived.Test.YthhhkplbjcknkaaGreatChecked
import GoSem.Claim
import GoSem.ClaimJoined
import GoSem.ClaimMapViews
import Derived.JoinedTies
import Derived.KernelRfl
namespace Go.Proofs.YthhhkplbjcknkaaGreat
/- THE CELL 'sum', in the pinned program and in every row, IS THE sha256 OF THE DUMP (.gsa) THAT YthhhkplbjcknkaaGreatProg.lean LOADS. Nothing in Lean hashes anything: it is a label: what it is worth is what the hold of that sum in a sandbox is worth. -/
noncomputable def Tryz.pinned : Pinned := { name := "ythhhkplbjcknkaagreat", sum := "70faf793fe7e010df3f6a9e6ec7e4218cbdc3daf436b46935dd42551262a92a4", checked := Tryz.checked }
namespace Rows
def none {H : Type} : Left H := { results := [], args := [] }

/-- 'balerlaw24.UnpressFeeds': WHATEVER THE INPUT: true; the input reads as it did. -/
def unpressFeedsSpec : ChangeSpec := { name := "unpressFeeds", fn := fun _ => fun
  | [d1, d2] => { results := [.lit (.bool true)], args := [d1, d2] }
  | _ => none }
def unpressFeedsRow : OpenClaim := { program := "ythhhkplbjcknkaagreat", sum := "70faf793fe7e010df3f6a9e6ec7e4218cbdc3daf436b46935dd42551262a92a4", func := "baler/balerlaw24.UnpressFeeds", spec := "unpressFeeds", inPlace := ["internal/abi.NoEscape", "internal/bytealg.MakeNoZero"], unfollowed := true, recurses := true, apart := false }
def UnpressFeedsSaid : Prop := unpressFeedsRow.holds Tryz.pinned (OpenSpec.ofChange unpressFeedsSpec)

/-- ITS FALSE NEIGHBOUR: 'it returns false'. Refute it at one input. -/
def unpressFeedsWrong : ChangeSpec := { name := "unpressFeeds", fn := fun _ => fun
  | [d1, d2] => { results := [.lit (.bool false)], args := [d1, d2] }
  | _ => none }
def UnpressFeedsWrongFalsely : Prop := unpressFeedsRow.holds Tryz.pinned (OpenSpec.ofChange unpressFeedsWrong)

/-- 'balerlaw24.UnpressNil': WHATEVER THE INPUT: true; the input reads as it did. -/
def unpressNilSpec : ChangeSpec := { name := "unpressNil", fn := fun _ => fun
  | [d1, d2] => { results := [.lit (.bool true)], args := [d1, d2] }
  | _ => none }
def unpressNilRow : OpenClaim := { program := "ythhhkplbjcknkaagreat", sum := "70faf793fe7e010df3f6a9e6ec7e4218cbdc3daf436b46935dd42551262a92a4", func := "baler/balerlaw24.UnpressNil", spec := "unpressNil", inPlace := ["internal/abi.NoEscape", "internal/bytealg.MakeNoZero"], unfollowed := true, recurses := true, apart := false }
def UnpressNilSaid : Prop := unpressNilRow.holds Tryz.pinned (OpenSpec.ofChange unpressNilSpec)

/-- ITS FALSE NEIGHBOUR: 'it returns false'. Refute it at one input. -/
def unpressNilWrong : ChangeSpec := { name := "unpressNil", fn := fun _ => fun
  | [d1, d2] => { results := [.lit (.bool false)], args := [d1, d2] }
  | _ => none }
def UnpressNilWrongFalsely : Prop := unpressNilRow.holds Tryz.pinned (OpenSpec.ofChange unpressNilWrong)

/-- 'balerlaw24.UnpressNews': WHATEVER THE INPUT: true; the input reads as it did. -/
def unpressNewsSpec : ChangeSpec := { name := "unpressNews", fn := fun _ => fun
  | [d] => { results := [.lit (.bool true)], args := [d] }
  | _ => none }
def unpressNewsRow : OpenClaim := { program := "ythhhkplbjcknkaagreat", sum := "70faf793fe7e010df3f6a9e6ec7e4218cbdc3daf436b46935dd42551262a92a4", func := "baler/balerlaw24.UnpressNews", spec := "unpressNews", inPlace := ["internal/abi.NoEscape", "internal/bytealg.MakeNoZero"], unfollowed := true, recurses := true, apart := false }
def UnpressNewsSaid : Prop := unpressNewsRow.holds Tryz.pinned (OpenSpec.ofChange unpressNewsSpec)

/-- ITS FALSE NEIGHBOUR: 'it returns false'. Refute it at one input. -/
def unpressNewsWrong : ChangeSpec := { name := "unpressNews", fn := fun _ => fun
  | [d] => { results := [.lit (.bool false)], args := [d] }
  | _ => none }
def UnpressNewsWrongFalsely : Prop := unpressNewsRow.holds Tryz.pinned (OpenSpec.ofChange unpressNewsWrong)

/-- 'balerlaw25.TesterNil': WHATEVER THE INPUT: true; the input reads as it did. -/
def testerNilSpec : ChangeSpec := { name := "testerNil", fn := fun _ => fun
  | [d1, d2] => { results := [.lit (.bool true)], args := [d1, d2] }
  | _ => none }
def testerNilRow : OpenClaim := { program := "ythhhkplbjcknkaagreat", sum := "70faf793fe7e010df3f6a9e6ec7e4218cbdc3daf436b46935dd42551262a92a4", func := "baler/balerlaw25.TesterNil", spec := "testerNil", inPlace := ["internal/abi.NoEscape", "internal/bytealg.MakeNoZero"], unfollowed := true, recurses := true, apart := false }
def TesterNilSaid : Prop := testerNilRow.holds Tryz.pinned (OpenSpec.ofChange testerNilSpec)

/-- ITS FALSE NEIGHBOUR: 'it returns false'. Refute it at one input. -/
def testerNilWrong : ChangeSpec := { name := "testerNil", fn := fun _ => fun
  | [d1, d2] => { results := [.lit (.bool false)], args := [d1, d2] }
  | _ => none }
def TesterNilWrongFalsely : Prop := testerNilRow.holds Tryz.pinned (OpenSpec.ofChange testerNilWrong)

/-- 'balerlaw25.TesterNews': WHATEVER THE INPUT: true; the input reads as it did. -/
def testerNewsSpec : ChangeSpec := { name := "testerNews", fn := fun _ => fun
  | [d1, d2] => { results := [.lit (.bool true)], args := [d1, d2] }
  | _ => none }
def testerNewsRow : OpenClaim := { program := "ythhhkplbjcknkaagreat", sum := "70faf793fe7e010df3f6a9e6ec7e4218cbdc3daf436b46935dd42551262a92a4", func := "baler/balerlaw25.TesterNews", spec := "testerNews", inPlace := ["internal/abi.NoEscape", "internal/bytealg.MakeNoZero"], unfollowed := true, recurses := true, apart := false }
def TesterNewsSaid : Prop := testerNewsRow.holds Tryz.pinned (OpenSpec.ofChange testerNewsSpec)

/-- ITS FALSE NEIGHBOUR: 'it returns false'. Refute it at one input. -/
def testerNewsWrong : ChangeSpec := { name := "testerNews", fn := fun _ => fun
  | [d1, d2] => { results := [.lit (.bool false)], args := [d1, d2] }
  | _ => none }
def TesterNewsWrongFalsely : Prop := testerNewsRow.holds Tryz.pinned (OpenSpec.ofChange testerNewsWrong)

/- THE SECOND FORM. 'bulk': how many values and letters a reading holds, each counted each time it is reached (what is shared counts as often as it is met; a slice's spare places count too). A statement '..UptoSaid' is the law's where the arguments, and the package variables that the reading takes, are together of bulk at most 1048576: NARROWER than '..Said'. Prove '..Said' where nothing that the law and all that it calls make is longer than what came in: it says more and counts as full. Else prove '..UptoSaid'. A law counts once. -/
mutual
def uptoBulk {H : Type} : DataW H → Nat
  | .lit (.string bytes) => bytes.length + 1
  | .lit _ => 1
  | .nil => 1
  | .ptr d => uptoBulk d + 1
  | .slice elems spare => uptoBulkAll elems + uptoBulkAll spare + 1
  | .agg parts => uptoBulkAll parts + 1
  | .iface _ d => uptoBulk d + 1
  | .map entries => uptoBulkEntries entries + 1
  | .held _ => 1
def uptoBulkAll {H : Type} : List (DataW H) → Nat
  | [] => 0
  | d :: r => uptoBulk d + uptoBulkAll r
def uptoBulkEntries {H : Type} : List (Lit × DataW H) → Nat
  | [] => 0
  | x :: r => uptoBulkEntry x + uptoBulkEntries r
def uptoBulkEntry {H : Type} : Lit × DataW H → Nat
  | (.string bytes, d) => bytes.length + uptoBulk d + 1
  | (_, d) => uptoBulk d + 1
 end
def uptoSmall : (H : Type) → List (DataW H) → Bool := fun _ ds => decide (uptoBulkAll ds ≤ 1048576)
def OpenSpec.upto (s : _root_.Go.ChangeSpec) : _root_.Go.OpenSpec := { _root_.Go.OpenSpec.ofChange s with cond := some uptoSmall }

/-- 'balerlaw24.UnpressFeeds', WHERE WHAT IT READS IS OF BULK AT MOST 1048576: true; the input reads as it did. -/
def unpressFeedsUptoRow : OpenClaim := { program := "ythhhkplbjcknkaagreat", sum := "70faf793fe7e010df3f6a9e6ec7e4218cbdc3daf436b46935dd42551262a92a4", func := "baler/balerlaw24.UnpressFeeds", spec := "unpressFeeds", inPlace := ["internal/abi.NoEscape", "internal/bytealg.MakeNoZero"], unfollowed := true, recurses := true, apart := false, narrowed := true }
def UnpressFeedsUptoSaid : Prop := unpressFeedsUptoRow.holds Tryz.pinned (OpenSpec.upto unpressFeedsSpec)

/-- 'balerlaw24.UnpressNil', WHERE WHAT IT READS IS OF BULK AT MOST 1048576: true; the input reads as it did. -/
def unpressNilUptoRow : OpenClaim := { program := "ythhhkplbjcknkaagreat", sum := "70faf793fe7e010df3f6a9e6ec7e4218cbdc3daf436b46935dd42551262a92a4", func := "baler/balerlaw24.UnpressNil", spec := "unpressNil", inPlace := ["internal/abi.NoEscape", "internal/bytealg.MakeNoZero"], unfollowed := true, recurses := true, apart := false, narrowed := true }
def UnpressNilUptoSaid : Prop := unpressNilUptoRow.holds Tryz.pinned (OpenSpec.upto unpressNilSpec)

/-- 'balerlaw24.UnpressNews', WHERE WHAT IT READS IS OF BULK AT MOST 1048576: true; the input reads as it did. -/
def unpressNewsUptoRow : OpenClaim := { program := "ythhhkplbjcknkaagreat", sum := "70faf793fe7e010df3f6a9e6ec7e4218cbdc3daf436b46935dd42551262a92a4", func := "baler/balerlaw24.UnpressNews", spec := "unpressNews", inPlace := ["internal/abi.NoEscape", "internal/bytealg.MakeNoZero"], unfollowed := true, recurses := true, apart := false, narrowed := true }
def UnpressNewsUptoSaid : Prop := unpressNewsUptoRow.holds Tryz.pinned (OpenSpec.upto unpressNewsSpec)

/-- 'balerlaw25.TesterNil', WHERE WHAT IT READS IS OF BULK AT MOST 1048576: true; the input reads as it did. -/
def testerNilUptoRow : OpenClaim := { program := "ythhhkplbjcknkaagreat", sum := "70faf793fe7e010df3f6a9e6ec7e4218cbdc3daf436b46935dd42551262a92a4", func := "baler/balerlaw25.TesterNil", spec := "testerNil", inPlace := ["internal/abi.NoEscape", "internal/bytealg.MakeNoZero"], unfollowed := true, recurses := true, apart := false, narrowed := true }
def TesterNilUptoSaid : Prop := testerNilUptoRow.holds Tryz.pinned (OpenSpec.upto testerNilSpec)

/-- 'balerlaw25.TesterNews', WHERE WHAT IT READS IS OF BULK AT MOST 1048576: true; the input reads as it did. -/
def testerNewsUptoRow : OpenClaim := { program := "ythhhkplbjcknkaagreat", sum := "70faf793fe7e010df3f6a9e6ec7e4218cbdc3daf436b46935dd42551262a92a4", func := "baler/balerlaw25.TesterNews", spec := "testerNews", inPlace := ["internal/abi.NoEscape", "internal/bytealg.MakeNoZero"], unfollowed := true, recurses := true, apart := false, narrowed := true }
def TesterNewsUptoSaid : Prop := testerNewsUptoRow.holds Tryz.pinned (OpenSpec.upto testerNewsSpec)

end Rows
end Go.Proofs.YthhhkplbjcknkaaGreat

/-
  DERIVED. GIVEN WITH THE SEED: THE CARDS: each row of YthhhkplbjcknkaaGreatDoorRows.lean that lists a variable, with what it lists TIED to the program's text (the seventh form; the later family's looks); each row that meets fmt, with fmt's text TOLD by the authors' own Lean function (tested against real Go, not proved from fmt's source: count such statements apart). THE CARD IS WHAT COUNTS. Prove the row's statement (the work); the ties are given (YthhhkplbjcknkaaGreatDoorTie.lean); close each card by the builder's one call (the guide's Derived/Test/ToyasCard.lean, 'card_holds'). Laid BY PROGRAM, IN A SANDBOX (cutbox-door.mjs). By AI agents, Wed Nov 11 2026. No macro, syntax, notation, axiom, sorry.
-/
import Derived.Test.YthhhkplbjcknkaaGreatDoorRows
import GoSem.ClaimSeven
namespace Go.Proofs.YthhhkplbjcknkaaGreatDoor
namespace Rows

/-- THE TIED CARD OF 'balerlaw14.CodeNil'. -/
def codeNilCard : Claim7 := { stood := { row := codeNilRow, standIns := [], harness := (true, "863dc04b3321949e46c0d96b8f6c4c40738100266c6ae86383c239b365e1bc2e"), looks := false }, kinds := [], alts := [], laidByText := true, laidKinds := [.data], laidTests := true, laidLooks := .later }
def CodeNilCardSaid : Prop := Claim7.holds Tryz.pinned (.plain (OpenSpec.ofChange codeNilSpec)) codeNilCard

/-- THE TIED CARD OF 'balerlaw21.StreamNil'. -/
def streamNilCard : Claim7 := { stood := { row := streamNilRow, standIns := [], harness := (true, "863dc04b3321949e46c0d96b8f6c4c40738100266c6ae86383c239b365e1bc2e"), looks := false }, kinds := [], alts := [], laidByText := true, laidKinds := [.data], laidTests := true, laidLooks := .later }
def StreamNilCardSaid : Prop := Claim7.holds Tryz.pinned (.plain (OpenSpec.ofChange streamNilSpec)) streamNilCard

/-- THE TIED CARD OF 'balerlaw23.PressFeeds'. -/
def pressFeedsCard : Claim7 := { stood := { row := pressFeedsRow, standIns := [], harness := (true, "863dc04b3321949e46c0d96b8f6c4c40738100266c6ae86383c239b365e1bc2e"), looks := false }, kinds := [], alts := [], laidByText := true, laidKinds := [.data], laidTests := true, laidLooks := .later }
def PressFeedsCardSaid : Prop := Claim7.holds Tryz.pinned (.plain (OpenSpec.ofChange pressFeedsSpec)) pressFeedsCard

/-- THE TIED CARD OF 'balerlaw23.PressNil'. -/
def pressNilCard : Claim7 := { stood := { row := pressNilRow, standIns := [], harness := (true, "863dc04b3321949e46c0d96b8f6c4c40738100266c6ae86383c239b365e1bc2e"), looks := false }, kinds := [], alts := [], laidByText := true, laidKinds := [.data], laidTests := true, laidLooks := .later }
def PressNilCardSaid : Prop := Claim7.holds Tryz.pinned (.plain (OpenSpec.ofChange pressNilSpec)) pressNilCard

/-- THE TIED CARD OF 'balerlaw23.PressNews'. -/
def pressNewsCard : Claim7 := { stood := { row := pressNewsRow, standIns := [], harness := (true, "863dc04b3321949e46c0d96b8f6c4c40738100266c6ae86383c239b365e1bc2e"), looks := false }, kinds := [], alts := [], laidByText := true, laidKinds := [.data], laidTests := true, laidLooks := .later }
def PressNewsCardSaid : Prop := Claim7.holds Tryz.pinned (.plain (OpenSpec.ofChange pressNewsSpec)) pressNewsCard

/-- THE SECOND FORM's CARD OF 'balerlaw14.CodeNil'. -/
def codeNilUptoCard : Claim7 := { stood := { row := codeNilUptoRow, standIns := [], harness := (true, "863dc04b3321949e46c0d96b8f6c4c40738100266c6ae86383c239b365e1bc2e"), looks := false }, kinds := [], alts := [], laidByText := true, laidKinds := [.data], laidTests := true, laidLooks := .later }
def CodeNilUptoCardSaid : Prop := Claim7.holds Tryz.pinned (.plain (OpenSpec.upto codeNilSpec)) codeNilUptoCard

/-- THE SECOND FORM's CARD OF 'balerlaw21.StreamNil'. -/
def streamNilUptoCard : Claim7 := { stood := { row := streamNilUptoRow, standIns := [], harness := (true, "863dc04b3321949e46c0d96b8f6c4c40738100266c6ae86383c239b365e1bc2e"), looks := false }, kinds := [], alts := [], laidByText := true, laidKinds := [.data], laidTests := true, laidLooks := .later }
def StreamNilUptoCardSaid : Prop := Claim7.holds Tryz.pinned (.plain (OpenSpec.upto streamNilSpec)) streamNilUptoCard

/-- THE SECOND FORM's CARD OF 'balerlaw23.PressFeeds'. -/
def pressFeedsUptoCard : Claim7 := { stood := { row := pressFeedsUptoRow, standIns := [], harness := (true, "863dc04b3321949e46c0d96b8f6c4c40738100266c6ae86383c239b365e1bc2e"), looks := false }, kinds := [], alts := [], laidByText := true, laidKinds := [.data], laidTests := true, laidLooks := .later }
def PressFeedsUptoCardSaid : Prop := Claim7.holds Tryz.pinned (.plain (OpenSpec.upto pressFeedsSpec)) pressFeedsUptoCard

/-- THE SECOND FORM's CARD OF 'balerlaw23.PressNil'. -/
def pressNilUptoCard : Claim7 := { stood := { row := pressNilUptoRow, standIns := [], harness := (true, "863dc04b3321949e46c0d96b8f6c4c40738100266c6ae86383c239b365e1bc2e"), looks := false }, kinds := [], alts := [], laidByText := true, laidKinds := [.data], laidTests := true, laidLooks := .later }
def PressNilUptoCardSaid : Prop := Claim7.holds Tryz.pinned (.plain (OpenSpec.upto pressNilSpec)) pressNilUptoCard

/-- THE SECOND FORM's CARD OF 'balerlaw23.PressNews'. -/
def pressNewsUptoCard : Claim7 := { stood := { row := pressNewsUptoRow, standIns := [], harness := (true, "863dc04b3321949e46c0d96b8f6c4c40738100266c6ae86383c239b365e1bc2e"), looks := false }, kinds := [], alts := [], laidByText := true, laidKinds := [.data], laidTests := true, laidLooks := .later }
def PressNewsUptoCardSaid : Prop := Claim7.holds Tryz.pinned (.plain (OpenSpec.upto pressNewsSpec)) pressNewsUptoCard
end Rows
end Go.Proofs.YthhhkplbjcknkaaGreatDoor

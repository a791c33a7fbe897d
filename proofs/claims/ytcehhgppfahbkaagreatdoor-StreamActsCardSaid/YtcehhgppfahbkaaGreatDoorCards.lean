/-
  DERIVED. GIVEN WITH THE SEED: THE CARDS: each row of YtcehhgppfahbkaaGreatDoorRows.lean that lists a variable, with what it lists TIED to the program's text (the seventh form; the later family's looks); each row that meets fmt, with fmt's text TOLD by the authors' own Lean function (tested against real Go, not proved from fmt's source: count such statements apart). THE CARD IS WHAT COUNTS. Prove the row's statement (the work); the ties are given (YtcehhgppfahbkaaGreatDoorTie.lean); close each card by the builder's one call (the guide's Derived/Test/ToyasCard.lean, 'card_holds'). Laid BY PROGRAM, IN A SANDBOX (cutbox-door.mjs). By AI agents, Wed Nov 11 2026. No macro, syntax, notation, axiom, sorry.
-/
import Derived.Test.YtcehhgppfahbkaaGreatDoorRows
import GoSem.ClaimSeven
namespace Go.Proofs.YtcehhgppfahbkaaGreatDoor
namespace Rows

/-- THE TIED CARD OF 'balerlaw21.StreamWith'. -/
def streamWithCard : Claim7 := { stood := { row := streamWithRow, standIns := [], harness := (true, "3cb7499ffe7c41f86fa8bbd226a486ebbd10126e69763f8bd7fe51c10e3ad4c1"), looks := false }, kinds := [], alts := [], laidByText := true, laidKinds := [.data], laidTests := true, laidLooks := .later }
def StreamWithCardSaid : Prop := Claim7.holds Tryz.pinned (.plain (OpenSpec.ofChange streamWithSpec)) streamWithCard

/-- THE TIED CARD OF 'balerlaw21.StreamEncodes'. -/
def streamEncodesCard : Claim7 := { stood := { row := streamEncodesRow, standIns := [], harness := (true, "3cb7499ffe7c41f86fa8bbd226a486ebbd10126e69763f8bd7fe51c10e3ad4c1"), looks := false }, kinds := [], alts := [], laidByText := true, laidKinds := [.data], laidTests := true, laidLooks := .later }
def StreamEncodesCardSaid : Prop := Claim7.holds Tryz.pinned (.plain (OpenSpec.ofChange streamEncodesSpec)) streamEncodesCard

/-- THE TIED CARD OF 'balerlaw21.StreamBlocks'. -/
def streamBlocksCard : Claim7 := { stood := { row := streamBlocksRow, standIns := [], harness := (true, "3cb7499ffe7c41f86fa8bbd226a486ebbd10126e69763f8bd7fe51c10e3ad4c1"), looks := false }, kinds := [], alts := [], laidByText := true, laidKinds := [.data], laidTests := true, laidLooks := .later }
def StreamBlocksCardSaid : Prop := Claim7.holds Tryz.pinned (.plain (OpenSpec.ofChange streamBlocksSpec)) streamBlocksCard

/-- THE TIED CARD OF 'balerlaw21.StreamActs'. -/
def streamActsCard : Claim7 := { stood := { row := streamActsRow, standIns := [], harness := (true, "3cb7499ffe7c41f86fa8bbd226a486ebbd10126e69763f8bd7fe51c10e3ad4c1"), looks := false }, kinds := [], alts := [], laidByText := true, laidKinds := [.data], laidTests := true, laidLooks := .later }
def StreamActsCardSaid : Prop := Claim7.holds Tryz.pinned (.plain (OpenSpec.ofChange streamActsSpec)) streamActsCard

/-- THE TIED CARD OF 'balerlaw21.StreamMost'. -/
def streamMostCard : Claim7 := { stood := { row := streamMostRow, standIns := [], harness := (true, "3cb7499ffe7c41f86fa8bbd226a486ebbd10126e69763f8bd7fe51c10e3ad4c1"), looks := false }, kinds := [], alts := [], laidByText := true, laidKinds := [.data], laidTests := true, laidLooks := .later }
def StreamMostCardSaid : Prop := Claim7.holds Tryz.pinned (.plain (OpenSpec.ofChange streamMostSpec)) streamMostCard

/-- THE TIED CARD OF 'balerlaw23.PressStops'. -/
def pressStopsCard : Claim7 := { stood := { row := pressStopsRow, standIns := [], harness := (true, "3cb7499ffe7c41f86fa8bbd226a486ebbd10126e69763f8bd7fe51c10e3ad4c1"), looks := false }, kinds := [], alts := [], laidByText := true, laidKinds := [.data], laidTests := true, laidLooks := .later }
def PressStopsCardSaid : Prop := Claim7.holds Tryz.pinned (.plain (OpenSpec.ofChange pressStopsSpec)) pressStopsCard

/-- THE TIED CARD OF 'balerlaw23.PressActs'. -/
def pressActsCard : Claim7 := { stood := { row := pressActsRow, standIns := [], harness := (true, "3cb7499ffe7c41f86fa8bbd226a486ebbd10126e69763f8bd7fe51c10e3ad4c1"), looks := false }, kinds := [], alts := [], laidByText := true, laidKinds := [.data], laidTests := true, laidLooks := .later }
def PressActsCardSaid : Prop := Claim7.holds Tryz.pinned (.plain (OpenSpec.ofChange pressActsSpec)) pressActsCard

/-- THE SECOND FORM's CARD OF 'balerlaw21.StreamWith'. -/
def streamWithUptoCard : Claim7 := { stood := { row := streamWithUptoRow, standIns := [], harness := (true, "3cb7499ffe7c41f86fa8bbd226a486ebbd10126e69763f8bd7fe51c10e3ad4c1"), looks := false }, kinds := [], alts := [], laidByText := true, laidKinds := [.data], laidTests := true, laidLooks := .later }
def StreamWithUptoCardSaid : Prop := Claim7.holds Tryz.pinned (.plain (OpenSpec.upto streamWithSpec)) streamWithUptoCard

/-- THE SECOND FORM's CARD OF 'balerlaw21.StreamEncodes'. -/
def streamEncodesUptoCard : Claim7 := { stood := { row := streamEncodesUptoRow, standIns := [], harness := (true, "3cb7499ffe7c41f86fa8bbd226a486ebbd10126e69763f8bd7fe51c10e3ad4c1"), looks := false }, kinds := [], alts := [], laidByText := true, laidKinds := [.data], laidTests := true, laidLooks := .later }
def StreamEncodesUptoCardSaid : Prop := Claim7.holds Tryz.pinned (.plain (OpenSpec.upto streamEncodesSpec)) streamEncodesUptoCard

/-- THE SECOND FORM's CARD OF 'balerlaw21.StreamBlocks'. -/
def streamBlocksUptoCard : Claim7 := { stood := { row := streamBlocksUptoRow, standIns := [], harness := (true, "3cb7499ffe7c41f86fa8bbd226a486ebbd10126e69763f8bd7fe51c10e3ad4c1"), looks := false }, kinds := [], alts := [], laidByText := true, laidKinds := [.data], laidTests := true, laidLooks := .later }
def StreamBlocksUptoCardSaid : Prop := Claim7.holds Tryz.pinned (.plain (OpenSpec.upto streamBlocksSpec)) streamBlocksUptoCard

/-- THE SECOND FORM's CARD OF 'balerlaw21.StreamActs'. -/
def streamActsUptoCard : Claim7 := { stood := { row := streamActsUptoRow, standIns := [], harness := (true, "3cb7499ffe7c41f86fa8bbd226a486ebbd10126e69763f8bd7fe51c10e3ad4c1"), looks := false }, kinds := [], alts := [], laidByText := true, laidKinds := [.data], laidTests := true, laidLooks := .later }
def StreamActsUptoCardSaid : Prop := Claim7.holds Tryz.pinned (.plain (OpenSpec.upto streamActsSpec)) streamActsUptoCard

/-- THE SECOND FORM's CARD OF 'balerlaw21.StreamMost'. -/
def streamMostUptoCard : Claim7 := { stood := { row := streamMostUptoRow, standIns := [], harness := (true, "3cb7499ffe7c41f86fa8bbd226a486ebbd10126e69763f8bd7fe51c10e3ad4c1"), looks := false }, kinds := [], alts := [], laidByText := true, laidKinds := [.data], laidTests := true, laidLooks := .later }
def StreamMostUptoCardSaid : Prop := Claim7.holds Tryz.pinned (.plain (OpenSpec.upto streamMostSpec)) streamMostUptoCard

/-- THE SECOND FORM's CARD OF 'balerlaw23.PressStops'. -/
def pressStopsUptoCard : Claim7 := { stood := { row := pressStopsUptoRow, standIns := [], harness := (true, "3cb7499ffe7c41f86fa8bbd226a486ebbd10126e69763f8bd7fe51c10e3ad4c1"), looks := false }, kinds := [], alts := [], laidByText := true, laidKinds := [.data], laidTests := true, laidLooks := .later }
def PressStopsUptoCardSaid : Prop := Claim7.holds Tryz.pinned (.plain (OpenSpec.upto pressStopsSpec)) pressStopsUptoCard

/-- THE SECOND FORM's CARD OF 'balerlaw23.PressActs'. -/
def pressActsUptoCard : Claim7 := { stood := { row := pressActsUptoRow, standIns := [], harness := (true, "3cb7499ffe7c41f86fa8bbd226a486ebbd10126e69763f8bd7fe51c10e3ad4c1"), looks := false }, kinds := [], alts := [], laidByText := true, laidKinds := [.data], laidTests := true, laidLooks := .later }
def PressActsUptoCardSaid : Prop := Claim7.holds Tryz.pinned (.plain (OpenSpec.upto pressActsSpec)) pressActsUptoCard
end Rows
end Go.Proofs.YtcehhgppfahbkaaGreatDoor

/-
  DERIVED. GIVEN WITH THE SEED: THE CARDS: each row of YtdagfcflbphoiaaDoorRows.lean that lists a variable, with what it lists TIED to the program's text (the seventh form; the later family's looks); each row that meets fmt, with fmt's text TOLD by the authors' own Lean function (tested against real Go, not proved from fmt's source: count such statements apart). THE CARD IS WHAT COUNTS. Prove the row's statement (the work); the ties are given (YtdagfcflbphoiaaDoorTie.lean); close each card by the builder's one call (the guide's Derived/Test/ToyasCard.lean, 'card_holds'). Laid BY PROGRAM, IN A SANDBOX (cutbox-door.mjs). By AI agents, Wed Nov 11 2026. No macro, syntax, notation, axiom, sorry.
-/
import Derived.Test.YtdagfcflbphoiaaDoorRows
import GoSem.ClaimSeven
namespace Go.Proofs.YtdagfcflbphoiaaDoor
namespace Rows

/-- THE TIED CARD OF 'balerlaw12.TablesCosts'. -/
def tablesCostsCard : Claim7 := { stood := { row := tablesCostsRow, standIns := [], harness := (true, "2b7d1b14c5528aab1cffcdd843211ad48ddbd725c8a530f702f71b6038256c2e"), looks := false }, kinds := [], alts := [], laidByText := true, laidKinds := [.data], laidTests := true, laidLooks := .later }
def TablesCostsCardSaid : Prop := Claim7.holds Tryd.pinned (.plain (OpenSpec.ofChange tablesCostsSpec)) tablesCostsCard

/-- THE TIED CARD OF 'balerlaw12.TablesWhole'. -/
def tablesWholeCard : Claim7 := { stood := { row := tablesWholeRow, standIns := [], harness := (true, "2b7d1b14c5528aab1cffcdd843211ad48ddbd725c8a530f702f71b6038256c2e"), looks := false }, kinds := [], alts := [], laidByText := true, laidKinds := [.data], laidTests := true, laidLooks := .later }
def TablesWholeCardSaid : Prop := Claim7.holds Tryd.pinned (.plain (OpenSpec.ofChange tablesWholeSpec)) tablesWholeCard

/-- THE TIED CARD OF 'balerlaw12.TablesFirst'. -/
def tablesFirstCard : Claim7 := { stood := { row := tablesFirstRow, standIns := [], harness := (true, "2b7d1b14c5528aab1cffcdd843211ad48ddbd725c8a530f702f71b6038256c2e"), looks := false }, kinds := [], alts := [], laidByText := true, laidKinds := [.data], laidTests := true, laidLooks := .later }
def TablesFirstCardSaid : Prop := Claim7.holds Tryd.pinned (.plain (OpenSpec.ofChange tablesFirstSpec)) tablesFirstCard

/-- THE TIED CARD OF 'balerlaw12.TablesOf'. -/
def tablesOfCard : Claim7 := { stood := { row := tablesOfRow, standIns := [], harness := (true, "2b7d1b14c5528aab1cffcdd843211ad48ddbd725c8a530f702f71b6038256c2e"), looks := false }, kinds := [], alts := [], laidByText := true, laidKinds := [.data], laidTests := true, laidLooks := .later }
def TablesOfCardSaid : Prop := Claim7.holds Tryd.pinned (.plain (OpenSpec.ofChange tablesOfSpec)) tablesOfCard

/-- THE TIED CARD OF 'balerlaw12.TablesSame'. -/
def tablesSameCard : Claim7 := { stood := { row := tablesSameRow, standIns := [], harness := (true, "2b7d1b14c5528aab1cffcdd843211ad48ddbd725c8a530f702f71b6038256c2e"), looks := false }, kinds := [], alts := [], laidByText := true, laidKinds := [.data], laidTests := true, laidLooks := .later }
def TablesSameCardSaid : Prop := Claim7.holds Tryd.pinned (.plain (OpenSpec.ofChange tablesSameSpec)) tablesSameCard

/-- THE SECOND FORM's CARD OF 'balerlaw12.TablesCosts'. -/
def tablesCostsUptoCard : Claim7 := { stood := { row := tablesCostsUptoRow, standIns := [], harness := (true, "2b7d1b14c5528aab1cffcdd843211ad48ddbd725c8a530f702f71b6038256c2e"), looks := false }, kinds := [], alts := [], laidByText := true, laidKinds := [.data], laidTests := true, laidLooks := .later }
def TablesCostsUptoCardSaid : Prop := Claim7.holds Tryd.pinned (.plain (OpenSpec.upto tablesCostsSpec)) tablesCostsUptoCard

/-- THE SECOND FORM's CARD OF 'balerlaw12.TablesWhole'. -/
def tablesWholeUptoCard : Claim7 := { stood := { row := tablesWholeUptoRow, standIns := [], harness := (true, "2b7d1b14c5528aab1cffcdd843211ad48ddbd725c8a530f702f71b6038256c2e"), looks := false }, kinds := [], alts := [], laidByText := true, laidKinds := [.data], laidTests := true, laidLooks := .later }
def TablesWholeUptoCardSaid : Prop := Claim7.holds Tryd.pinned (.plain (OpenSpec.upto tablesWholeSpec)) tablesWholeUptoCard

/-- THE SECOND FORM's CARD OF 'balerlaw12.TablesFirst'. -/
def tablesFirstUptoCard : Claim7 := { stood := { row := tablesFirstUptoRow, standIns := [], harness := (true, "2b7d1b14c5528aab1cffcdd843211ad48ddbd725c8a530f702f71b6038256c2e"), looks := false }, kinds := [], alts := [], laidByText := true, laidKinds := [.data], laidTests := true, laidLooks := .later }
def TablesFirstUptoCardSaid : Prop := Claim7.holds Tryd.pinned (.plain (OpenSpec.upto tablesFirstSpec)) tablesFirstUptoCard

/-- THE SECOND FORM's CARD OF 'balerlaw12.TablesOf'. -/
def tablesOfUptoCard : Claim7 := { stood := { row := tablesOfUptoRow, standIns := [], harness := (true, "2b7d1b14c5528aab1cffcdd843211ad48ddbd725c8a530f702f71b6038256c2e"), looks := false }, kinds := [], alts := [], laidByText := true, laidKinds := [.data], laidTests := true, laidLooks := .later }
def TablesOfUptoCardSaid : Prop := Claim7.holds Tryd.pinned (.plain (OpenSpec.upto tablesOfSpec)) tablesOfUptoCard

/-- THE SECOND FORM's CARD OF 'balerlaw12.TablesSame'. -/
def tablesSameUptoCard : Claim7 := { stood := { row := tablesSameUptoRow, standIns := [], harness := (true, "2b7d1b14c5528aab1cffcdd843211ad48ddbd725c8a530f702f71b6038256c2e"), looks := false }, kinds := [], alts := [], laidByText := true, laidKinds := [.data], laidTests := true, laidLooks := .later }
def TablesSameUptoCardSaid : Prop := Claim7.holds Tryd.pinned (.plain (OpenSpec.upto tablesSameSpec)) tablesSameUptoCard
end Rows
end Go.Proofs.YtdagfcflbphoiaaDoor

/-
  DERIVED. GIVEN WITH THE SEED: THE CARDS: each row of YthfaaoeecajkeaaDoorRows.lean that lists a variable, with what it lists TIED to the program's text (the seventh form; the later family's looks); each row that meets fmt, with fmt's text TOLD by the authors' own Lean function (tested against real Go, not proved from fmt's source: count such statements apart). THE CARD IS WHAT COUNTS. Prove the row's statement (the work); the ties are given (YthfaaoeecajkeaaDoorTie.lean); close each card by the builder's one call (the guide's Derived/Test/ToyasCard.lean, 'card_holds'). Laid BY PROGRAM, IN A SANDBOX (cutbox-door.mjs). By AI agents, Wed Nov 11 2026. No macro, syntax, notation, axiom, sorry.
-/
import Derived.Test.YthfaaoeecajkeaaDoorRows
import GoSem.ClaimSeven
namespace Go.Proofs.YthfaaoeecajkeaaDoor
namespace Rows

/-- THE TIED CARD OF 'pintlelaw05.FirstEntries'. -/
def firstEntriesCard : Claim7 := { stood := { row := firstEntriesRow, standIns := [], harness := (true, "7aa87fe390df306984bb957a6206c76fe81ccf0741010fd387dbe9d3b4bbe039"), looks := false }, kinds := [], alts := [], laidByText := true, laidKinds := [.data, .pinned], laidTests := true, laidLooks := .later }
def FirstEntriesCardSaid : Prop := Claim7.holds Tryd.pinned (.plain (OpenSpec.ofChange firstEntriesSpec)) firstEntriesCard

/-- THE TIED CARD OF 'pintlelaw05.FirstPads'. -/
def firstPadsCard : Claim7 := { stood := { row := firstPadsRow, standIns := [], harness := (true, "7aa87fe390df306984bb957a6206c76fe81ccf0741010fd387dbe9d3b4bbe039"), looks := false }, kinds := [], alts := [], laidByText := true, laidKinds := [.data, .pinned], laidTests := true, laidLooks := .later }
def FirstPadsCardSaid : Prop := Claim7.holds Tryd.pinned (.plain (OpenSpec.ofChange firstPadsSpec)) firstPadsCard

/-- THE TIED CARD OF 'pintlelaw05.FirstMsgs'. -/
def firstMsgsCard : Claim7 := { stood := { row := firstMsgsRow, standIns := [], harness := (true, "7aa87fe390df306984bb957a6206c76fe81ccf0741010fd387dbe9d3b4bbe039"), looks := false }, kinds := [], alts := [], laidByText := true, laidKinds := [.data, .pinned], laidTests := true, laidLooks := .later }
def FirstMsgsCardSaid : Prop := Claim7.holds Tryd.pinned (.plain (OpenSpec.ofChange firstMsgsSpec)) firstMsgsCard

/-- THE TIED CARD OF 'pintlelaw05.FirstSizes'. -/
def firstSizesCard : Claim7 := { stood := { row := firstSizesRow, standIns := [], harness := (true, "7aa87fe390df306984bb957a6206c76fe81ccf0741010fd387dbe9d3b4bbe039"), looks := false }, kinds := [], alts := [], laidByText := true, laidKinds := [.data, .pinned], laidTests := true, laidLooks := .later }
def FirstSizesCardSaid : Prop := Claim7.holds Tryd.pinned (.plain (OpenSpec.ofChange firstSizesSpec)) firstSizesCard

/-- THE SECOND FORM's CARD OF 'pintlelaw05.FirstEntries'. -/
def firstEntriesUptoCard : Claim7 := { stood := { row := firstEntriesUptoRow, standIns := [], harness := (true, "7aa87fe390df306984bb957a6206c76fe81ccf0741010fd387dbe9d3b4bbe039"), looks := false }, kinds := [], alts := [], laidByText := true, laidKinds := [.data, .pinned], laidTests := true, laidLooks := .later }
def FirstEntriesUptoCardSaid : Prop := Claim7.holds Tryd.pinned (.plain (OpenSpec.upto firstEntriesSpec)) firstEntriesUptoCard

/-- THE SECOND FORM's CARD OF 'pintlelaw05.FirstPads'. -/
def firstPadsUptoCard : Claim7 := { stood := { row := firstPadsUptoRow, standIns := [], harness := (true, "7aa87fe390df306984bb957a6206c76fe81ccf0741010fd387dbe9d3b4bbe039"), looks := false }, kinds := [], alts := [], laidByText := true, laidKinds := [.data, .pinned], laidTests := true, laidLooks := .later }
def FirstPadsUptoCardSaid : Prop := Claim7.holds Tryd.pinned (.plain (OpenSpec.upto firstPadsSpec)) firstPadsUptoCard

/-- THE SECOND FORM's CARD OF 'pintlelaw05.FirstMsgs'. -/
def firstMsgsUptoCard : Claim7 := { stood := { row := firstMsgsUptoRow, standIns := [], harness := (true, "7aa87fe390df306984bb957a6206c76fe81ccf0741010fd387dbe9d3b4bbe039"), looks := false }, kinds := [], alts := [], laidByText := true, laidKinds := [.data, .pinned], laidTests := true, laidLooks := .later }
def FirstMsgsUptoCardSaid : Prop := Claim7.holds Tryd.pinned (.plain (OpenSpec.upto firstMsgsSpec)) firstMsgsUptoCard

/-- THE SECOND FORM's CARD OF 'pintlelaw05.FirstSizes'. -/
def firstSizesUptoCard : Claim7 := { stood := { row := firstSizesUptoRow, standIns := [], harness := (true, "7aa87fe390df306984bb957a6206c76fe81ccf0741010fd387dbe9d3b4bbe039"), looks := false }, kinds := [], alts := [], laidByText := true, laidKinds := [.data, .pinned], laidTests := true, laidLooks := .later }
def FirstSizesUptoCardSaid : Prop := Claim7.holds Tryd.pinned (.plain (OpenSpec.upto firstSizesSpec)) firstSizesUptoCard
end Rows
end Go.Proofs.YthfaaoeecajkeaaDoor

/-
  DERIVED. GIVEN WITH THE SEED: THE CARDS: each row of YtnnpjjehecbljaaDoorRows.lean that lists a variable, with what it lists TIED to the program's text (the seventh form; the later family's looks); each row that meets fmt, with fmt's text TOLD by the authors' own Lean function (tested against real Go, not proved from fmt's source: count such statements apart). THE CARD IS WHAT COUNTS. Prove the row's statement (the work); the ties are given (YtnnpjjehecbljaaDoorTie.lean); close each card by the builder's one call (the guide's Derived/Test/ToyasCard.lean, 'card_holds'). Laid BY PROGRAM, IN A SANDBOX (cutbox-door.mjs). By AI agents, Wed Nov 11 2026. No macro, syntax, notation, axiom, sorry.
-/
import Derived.Test.YtnnpjjehecbljaaDoorRows
import GoSem.ClaimSeven
namespace Go.Proofs.YtnnpjjehecbljaaDoor
namespace Rows

/-- THE TIED CARD OF 'pintlelaw14.LevelRises'. -/
def levelRisesCard : Claim7 := { stood := { row := levelRisesRow, standIns := [], harness := (true, "dc6f80a189bf307f1b5db5460bb19ffdc30b30265b70c3165db3682374826d6f"), looks := false }, kinds := [], alts := [], laidByText := true, laidKinds := [.data, .data, .data], laidTests := true, laidLooks := .later }
def LevelRisesCardSaid : Prop := Claim7.holds Tryd.pinned (.plain (OpenSpec.ofChange levelRisesSpec)) levelRisesCard

/-- THE TIED CARD OF 'pintlelaw14.LevelMembers'. -/
def levelMembersCard : Claim7 := { stood := { row := levelMembersRow, standIns := [], harness := (true, "dc6f80a189bf307f1b5db5460bb19ffdc30b30265b70c3165db3682374826d6f"), looks := false }, kinds := [], alts := [], laidByText := true, laidKinds := [.data, .data, .data], laidTests := true, laidLooks := .later }
def LevelMembersCardSaid : Prop := Claim7.holds Tryd.pinned (.plain (OpenSpec.ofChange levelMembersSpec)) levelMembersCard

/-- THE SECOND FORM's CARD OF 'pintlelaw14.LevelRises'. -/
def levelRisesUptoCard : Claim7 := { stood := { row := levelRisesUptoRow, standIns := [], harness := (true, "dc6f80a189bf307f1b5db5460bb19ffdc30b30265b70c3165db3682374826d6f"), looks := false }, kinds := [], alts := [], laidByText := true, laidKinds := [.data, .data, .data], laidTests := true, laidLooks := .later }
def LevelRisesUptoCardSaid : Prop := Claim7.holds Tryd.pinned (.plain (OpenSpec.upto levelRisesSpec)) levelRisesUptoCard

/-- THE SECOND FORM's CARD OF 'pintlelaw14.LevelMembers'. -/
def levelMembersUptoCard : Claim7 := { stood := { row := levelMembersUptoRow, standIns := [], harness := (true, "dc6f80a189bf307f1b5db5460bb19ffdc30b30265b70c3165db3682374826d6f"), looks := false }, kinds := [], alts := [], laidByText := true, laidKinds := [.data, .data, .data], laidTests := true, laidLooks := .later }
def LevelMembersUptoCardSaid : Prop := Claim7.holds Tryd.pinned (.plain (OpenSpec.upto levelMembersSpec)) levelMembersUptoCard
end Rows
end Go.Proofs.YtnnpjjehecbljaaDoor

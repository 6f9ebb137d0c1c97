/-
  DERIVED. GIVEN WITH THE SEED: THE CARDS: each row of YtnnpjjehecbljaaGreatDoorRows.lean that lists a variable, with what it lists TIED to the program's text (the seventh form; the later family's looks); each row that meets fmt, with fmt's text TOLD by the authors' own Lean function (tested against real Go, not proved from fmt's source: count such statements apart). THE CARD IS WHAT COUNTS. Prove the row's statement (the work); the ties are given (YtnnpjjehecbljaaGreatDoorTie.lean); close each card by the builder's one call (the guide's Derived/Test/ToyasCard.lean, 'card_holds'). Laid BY PROGRAM, IN A SANDBOX (cutbox-door.mjs). By AI agents, Wed Nov 11 2026. No macro, syntax, notation, axiom, sorry.
-/
import Derived.Test.YtnnpjjehecbljaaGreatDoorRows
import GoSem.ClaimSeven
namespace Go.Proofs.YtnnpjjehecbljaaGreatDoor
namespace Rows

/-- THE TIED CARD OF 'pintlelaw14.LevelAnswers'. -/
def levelAnswersCard : Claim7 := { stood := { row := levelAnswersRow, standIns := [], harness := (true, "4814101f94f33d924e5e7adcade8ee5e441763f8fc1fe209a702c953de5579b7"), looks := false }, kinds := [], alts := [], laidByText := true, laidKinds := [.data, .data, .data], laidTests := true, laidLooks := .later }
def LevelAnswersCardSaid : Prop := Claim7.holds Tryz.pinned (.plain (OpenSpec.ofChange levelAnswersSpec)) levelAnswersCard

/-- THE TIED CARD OF 'pintlelaw14.LevelKeeps'. -/
def levelKeepsCard : Claim7 := { stood := { row := levelKeepsRow, standIns := [], harness := (true, "4814101f94f33d924e5e7adcade8ee5e441763f8fc1fe209a702c953de5579b7"), looks := false }, kinds := [], alts := [], laidByText := true, laidKinds := [.data, .data, .data], laidTests := true, laidLooks := .later }
def LevelKeepsCardSaid : Prop := Claim7.holds Tryz.pinned (.plain (OpenSpec.ofChange levelKeepsSpec)) levelKeepsCard

/-- THE TIED CARD OF 'pintlelaw14.LevelPuts'. -/
def levelPutsCard : Claim7 := { stood := { row := levelPutsRow, standIns := [], harness := (true, "4814101f94f33d924e5e7adcade8ee5e441763f8fc1fe209a702c953de5579b7"), looks := false }, kinds := [], alts := [], laidByText := true, laidKinds := [.data, .data, .data], laidTests := true, laidLooks := .later }
def LevelPutsCardSaid : Prop := Claim7.holds Tryz.pinned (.plain (OpenSpec.ofChange levelPutsSpec)) levelPutsCard

/-- THE SECOND FORM's CARD OF 'pintlelaw14.LevelAnswers'. -/
def levelAnswersUptoCard : Claim7 := { stood := { row := levelAnswersUptoRow, standIns := [], harness := (true, "4814101f94f33d924e5e7adcade8ee5e441763f8fc1fe209a702c953de5579b7"), looks := false }, kinds := [], alts := [], laidByText := true, laidKinds := [.data, .data, .data], laidTests := true, laidLooks := .later }
def LevelAnswersUptoCardSaid : Prop := Claim7.holds Tryz.pinned (.plain (OpenSpec.upto levelAnswersSpec)) levelAnswersUptoCard

/-- THE SECOND FORM's CARD OF 'pintlelaw14.LevelKeeps'. -/
def levelKeepsUptoCard : Claim7 := { stood := { row := levelKeepsUptoRow, standIns := [], harness := (true, "4814101f94f33d924e5e7adcade8ee5e441763f8fc1fe209a702c953de5579b7"), looks := false }, kinds := [], alts := [], laidByText := true, laidKinds := [.data, .data, .data], laidTests := true, laidLooks := .later }
def LevelKeepsUptoCardSaid : Prop := Claim7.holds Tryz.pinned (.plain (OpenSpec.upto levelKeepsSpec)) levelKeepsUptoCard

/-- THE SECOND FORM's CARD OF 'pintlelaw14.LevelPuts'. -/
def levelPutsUptoCard : Claim7 := { stood := { row := levelPutsUptoRow, standIns := [], harness := (true, "4814101f94f33d924e5e7adcade8ee5e441763f8fc1fe209a702c953de5579b7"), looks := false }, kinds := [], alts := [], laidByText := true, laidKinds := [.data, .data, .data], laidTests := true, laidLooks := .later }
def LevelPutsUptoCardSaid : Prop := Claim7.holds Tryz.pinned (.plain (OpenSpec.upto levelPutsSpec)) levelPutsUptoCard
end Rows
end Go.Proofs.YtnnpjjehecbljaaGreatDoor

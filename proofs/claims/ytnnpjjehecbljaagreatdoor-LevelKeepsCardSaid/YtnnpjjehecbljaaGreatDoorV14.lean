/-
  Texts of this seat, joined: FMr1.
-/
import Derived.Test.YtnnpjjehecbljaaGreatDoorV13
set_option linter.unusedSimpArgs false
set_option linter.unusedVariables false
namespace Go.Proofs.YtnnpjjehecbljaaGreatDoor
open Go.RowKit

end Go.Proofs.YtnnpjjehecbljaaGreatDoor

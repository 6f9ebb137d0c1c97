/-
  Texts of this seat, joined: FMr2 FMr3.
-/
import Derived.Test.YtnnpjjehecbljaaGreatDoorV13
import Derived.StillTailTactics
set_option linter.unusedSimpArgs false
set_option linter.unusedVariables false
namespace Go.Proofs.YtnnpjjehecbljaaGreatDoor
open Go.RowKit

end Go.Proofs.YtnnpjjehecbljaaGreatDoor

namespace Go.Proofs.YtnnpjjehecbljaaGreatDoor
open Go.RowKit

end Go.Proofs.YtnnpjjehecbljaaGreatDoor

/-
  Texts of this seat, joined: RNt3 RNt4 RNt5 RNt6.
-/
import Derived.Test.YtnnpjjehecbljaaGreatDoorV26
set_option linter.unusedSimpArgs false
set_option linter.unusedVariables false
namespace Go.Proofs.YtnnpjjehecbljaaGreatDoor
open Go.RowKit

end Go.Proofs.YtnnpjjehecbljaaGreatDoor

namespace Go.Proofs.YtnnpjjehecbljaaGreatDoor
open Go.RowKit

end Go.Proofs.YtnnpjjehecbljaaGreatDoor

namespace Go.Proofs.YtnnpjjehecbljaaGreatDoor
open Go.RowKit

end Go.Proofs.YtnnpjjehecbljaaGreatDoor

namespace Go.Proofs.YtnnpjjehecbljaaGreatDoor
open Go.RowKit

end Go.Proofs.YtnnpjjehecbljaaGreatDoor

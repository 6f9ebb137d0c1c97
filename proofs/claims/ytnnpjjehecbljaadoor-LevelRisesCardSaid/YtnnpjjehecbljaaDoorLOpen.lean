/-
  The tables that the rows list, laid in a world.
-/
import Derived.Test.YtnnpjjehecbljaaDoorRows
import Derived.Lay
import Derived.Handed
import Derived.LaidLaws
import Derived.WalkKit
namespace Go.Proofs.YtnnpjjehecbljaaDoor
open Go.ChangeShapes Go.WideShapes Go.RowKit

/-- What the rows list. -/
def laidL : List (String × DataW Unit) := [("math/bits.deBruijn32tab", Rows.laid_math_bits_deBruijn32tab), ("math/bits.deBruijn64tab", Rows.laid_math_bits_deBruijn64tab), ("internal/strconv.uint64pow10", Rows.laid_internal_strconv_uint64pow10)]
end Go.Proofs.YtnnpjjehecbljaaDoor

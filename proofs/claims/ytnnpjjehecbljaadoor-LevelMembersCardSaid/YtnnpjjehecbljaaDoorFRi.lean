/-
  entry.Right: the contract for any entry.
-/
import Derived.Test.YtnnpjjehecbljaaDoorFRi1
import Derived.Test.YtnnpjjehecbljaaDoorFRi2
import Derived.Test.YtnnpjjehecbljaaDoorFRi3
import Derived.Test.YtnnpjjehecbljaaDoorFRi4
import Derived.Test.YtnnpjjehecbljaaDoorFRi5
import Derived.Test.YtnnpjjehecbljaaDoorFRi6
import Derived.Test.YtnnpjjehecbljaaDoorFRi7
namespace Go.Proofs.YtnnpjjehecbljaaDoor
open Go.RowKit

theorem eRight (e : Ent) (w : World) (he : e.Fits) : Calls Tryd.prog 18 #[.agg e.cells] w fun r w' => r = .returned (.bool e.ok) ∧ Fr [] w w' := by
  cases hok : (entMay e.kind).2 with
  | false => exact eRight5 e w he hok
  | true =>
    by_cases h2 : 0 < e.term
    · by_cases h3 : 0 < e.index
      · by_cases hc : 0 < e.client
        · by_cases hl : e.level = 1
          · exact eRight1 e w he hok h2 h3 hc hl
          · exact eRight2 e w he hok h2 h3 hc hl
        · by_cases hl : e.level = 1
          · exact eRight3 e w he hok h2 h3 hc hl
          · exact eRight4 e w he hok h2 h3 hc hl
      · exact eRight7 e w he hok h2 h3
    · exact eRight6 e w he hok h2
end Go.Proofs.YtnnpjjehecbljaaDoor

/-
  The walk of the reference's MixIn.
-/
import Derived.Test.YtcebpfhokacccaaMixIn
import Derived.Deep.RegionHeld3
namespace Go.Proofs.Ytcebpfhokacccaa
set_option linter.unusedVariables false
open Go.RowKit

end Go.Proofs.Ytcebpfhokacccaa

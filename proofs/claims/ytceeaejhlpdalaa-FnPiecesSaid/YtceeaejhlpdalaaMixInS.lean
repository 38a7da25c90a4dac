/-
  The walk of the reference's MixIn.
-/
import Derived.Test.YtceeaejhlpdalaaMixIn
import Derived.Deep.RegionHeld3
namespace Go.Proofs.Ytceeaejhlpdalaa
set_option linter.unusedVariables false
open Go.RowKit

end Go.Proofs.Ytceeaejhlpdalaa

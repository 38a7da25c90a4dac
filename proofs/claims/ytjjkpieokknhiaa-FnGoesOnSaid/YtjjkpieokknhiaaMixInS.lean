/-
  The walk of the reference's MixIn.
-/
import Derived.Test.YtjjkpieokknhiaaMixIn
import Derived.Deep.RegionHeld3
namespace Go.Proofs.Ytjjkpieokknhiaa
set_option linter.unusedVariables false
open Go.RowKit

end Go.Proofs.Ytjjkpieokknhiaa

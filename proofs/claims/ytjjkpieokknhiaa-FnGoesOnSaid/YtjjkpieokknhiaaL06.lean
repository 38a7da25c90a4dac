/-
  The walk of the reference's way from a leaf to the root, by induction on the size.
-/
import Derived.Test.YtjjkpieokknhiaaFoldRoot
namespace Go.Proofs.Ytjjkpieokknhiaa
set_option linter.unusedVariables false
open Go.RowKit

end Go.Proofs.Ytjjkpieokknhiaa

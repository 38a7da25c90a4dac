/-
  The walks of FeedOk, and of the laws' helpers on feeds.
-/
import Derived.Test.YtejhpkcoeakegaaDoorLibU
import Derived.Test.YtejhpkcoeakegaaDoorSmall
import Derived.Outline
import Derived.Deep.RegionWith
namespace Go.Proofs.YtejhpkcoeakegaaDoor
set_option linter.unusedVariables false
open Go.RowKit

/-- FeedOk, of a feed whose state has n words. -/
def feedOk (w t : Int) (n : Nat) (r : ByteArray) (c : Int) : Bool := inR w 1 32 && inR t 0 255 && decide (n = 8) && inR c 0 4000 && ((r.size : Int) == c % 64)

end Go.Proofs.YtejhpkcoeakegaaDoor

/-
  The walks of the smallest functions: ranges of a number, Constant.
-/
import Derived.Test.YtejhpkcoeakegaaDoorPlain
import Derived.Test.YtejhpkcoeakegaaDoorRows
import Derived.WalkKit
import Derived.WalkLawsBesides
import Derived.WalkSpells
namespace Go.Proofs.YtejhpkcoeakegaaDoor
set_option linter.unusedVariables false
open Go.RowKit

/-- Is x from a to b? -/
def inR (x a b : Int) : Bool := decide (a ≤ x) && decide (x ≤ b)
theorem inR_true {x a b : Int} (h1 : a ≤ x) (h2 : x ≤ b) : inR x a b = true := by simp [inR, h1, h2]
theorem inR_lo {x a b : Int} (h1 : x < a) : inR x a b = false := by simp [inR]; omega
theorem inR_hi {x a b : Int} (h1 : b < x) : inR x a b = false := by simp [inR]; omega

end Go.Proofs.YtejhpkcoeakegaaDoor

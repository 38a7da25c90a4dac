/-
  The walks of the laws' helpers on slices of strings: equal, mark, held, copy.
-/
import Derived.Test.YtcebpfhokacccaaBase
import Derived.Test.YtcebpfhokacccaaRows
import Derived.WalkKit
import Derived.WalkLawsBesides
import Derived.WalkSpells
import Derived.LoopTactic
import Derived.Deep.QuietTactic
import Derived.BigQuiet
import Derived.IntWalk
namespace Go.Proofs.Ytcebpfhokacccaa
set_option linter.unusedVariables false
open Go.RowKit

end Go.Proofs.Ytcebpfhokacccaa

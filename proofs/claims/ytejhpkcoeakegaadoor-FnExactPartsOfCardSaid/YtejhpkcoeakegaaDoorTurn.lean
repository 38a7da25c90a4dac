/-
  The walks of Turn (the program's and the reference's) and of math/bits.RotateLeft32: both turn a word by n modulo 32 places.
-/
import Derived.Test.YtejhpkcoeakegaaDoorPlain
import Derived.Test.YtejhpkcoeakegaaDoorRows
import Derived.WalkKit
import Derived.WalkLawsBesides
import Derived.WalkSpells
import Derived.LoopTactic
namespace Go.Proofs.YtejhpkcoeakegaaDoor
set_option linter.unusedVariables false
open Go.RowKit

theorem rotl_step (X j : Nat) (hX : X < 4294967296) (hj : j < 32) : bits .or .u32 ((rotl X j : Int) * 2 % 4294967296) ((rotl X j : Int) / 2147483648) = (rotl X (j + 1) : Int) := by
  have hr := rotl_lt X j hX hj
  have e2 : ((rotl X j : Int) * 2 % 4294967296) = ((rotl X j * 2 % 4294967296 : Nat) : Int) := by simp
  have e3 : ((rotl X j : Int) / 2147483648) = ((rotl X j / 2147483648 : Nat) : Int) := by simp
  rw [e2, e3, u32_or_nat _ _ (by omega) (by omega), nat_join 1 _ _ (by omega) (by omega), rotl_succ X j hX hj]

end Go.Proofs.YtejhpkcoeakegaaDoor

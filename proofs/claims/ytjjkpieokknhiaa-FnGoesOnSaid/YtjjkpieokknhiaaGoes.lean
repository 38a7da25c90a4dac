/-
  What the law of trees that go on stands on.
-/
import Derived.Test.YtjjkpieokknhiaaBetween
import Derived.Test.YtjjkpieokknhiaaProved
namespace Go.Proofs.Ytjjkpieokknhiaa
set_option linter.unusedVariables false

theorem height_le (n : Nat) : heightOf n ≤ n + 1 := by
  unfold heightOf
  split
  · omega
  · have := Nat.log2_le_self (n - 1)
    omega
end Go.Proofs.Ytjjkpieokknhiaa

/-
  The walks of StartOf and firstState, and of slices.Clone at []uint32.
-/
import Derived.Test.YtejhpkcoeakegaaDoorApp
import Derived.Test.YtejhpkcoeakegaaDoorFeed
import Derived.Outline
import Derived.Handy
namespace Go.Proofs.YtejhpkcoeakegaaDoor
set_option linter.unusedVariables false
open Go.RowKit

/-- The eight words of the first state of a tag. -/
def start8 (t : Int) : List Int := [(t + 1) * 3 * 2246822519 % 4294967296, (t + 1) * 5 * 2246822519 % 4294967296, (t + 1) * 7 * 2246822519 % 4294967296, (t + 1) * 9 * 2246822519 % 4294967296,
  (t + 1) * 11 * 2246822519 % 4294967296, (t + 1) * 13 * 2246822519 % 4294967296, (t + 1) * 15 * 2246822519 % 4294967296, (t + 1) * 17 * 2246822519 % 4294967296]
def startI (t : Int) : List Int := if 0 ≤ t ∧ t ≤ 255 then start8 t else []
theorem startI_len (t : Int) : (startI t).length ≤ 8 := by unfold startI; split <;> simp [start8]
/-- A list of words as an array's value. -/
def chainV (zs : List Int) : Value := .agg (ints .u32 zs).toArray
theorem start8_bd (t : Int) : ∀ x ∈ start8 t, 0 ≤ x ∧ x ≤ 4294967295 := by
  intro x hx
  simp only [start8, List.mem_cons, List.not_mem_nil, or_false] at hx
  omega

end Go.Proofs.YtejhpkcoeakegaaDoor

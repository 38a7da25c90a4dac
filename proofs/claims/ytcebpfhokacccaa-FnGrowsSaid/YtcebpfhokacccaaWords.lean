/-
  The walks of WordsOf, the program's and the reference's.
-/
import Derived.Test.YtcebpfhokacccaaApp
import Derived.Test.YtcebpfhokacccaaWord
import Derived.Outline
namespace Go.Proofs.Ytcebpfhokacccaa
set_option linter.unusedVariables false
open Go.RowKit

/-- The words of a text, from its beginning on: j of them. -/
def wordsTo (s : ByteArray) (j : Nat) : List Int := (List.range j).map fun i : Nat => wordAtI s (4 * (i : Int))
theorem length_wordsTo (s : ByteArray) (j : Nat) : (wordsTo s j).length = j := by simp [wordsTo]
theorem wordsTo_succ (s : ByteArray) (j : Nat) : ints .u32 (wordsTo s j) ++ [.int .u32 (wordAtI s (4 * (j : Int)))] = ints .u32 (wordsTo s (j + 1)) := by
  simp [wordsTo, ints, List.range_succ]
def wordsGood (s : ByteArray) : Bool := decide (s.size ≤ 4000) && decide (s.size % 4 = 0)
/-- The words of a text that WordsOf takes. -/
def wordsOf (s : ByteArray) : List Int := if wordsGood s then wordsTo s (s.size / 4) else []
theorem wordsOf_len (s : ByteArray) : (wordsOf s).length ≤ 1000 := by
  unfold wordsOf wordsGood
  split
  · rename_i h
    simp at h
    rw [length_wordsTo]; omega
  · simp
theorem wordsGood_not {s : ByteArray} (h : wordsGood s = false) : ((decide ((4000 : Int) < s.size) = true) ∨ (decide ((4000 : Int) < s.size) = false ∧ ((s.size : Int) % 4 != 0) = true)) := by
  unfold wordsGood at h
  by_cases h1 : s.size ≤ 4000
  · right
    simp [h1] at h
    refine ⟨by simp; omega, by rw [bne_iff_ne]; omega⟩
  · left; simp; omega

end Go.Proofs.Ytcebpfhokacccaa

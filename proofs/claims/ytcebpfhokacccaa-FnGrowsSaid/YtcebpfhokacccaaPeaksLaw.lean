/-
  Plain laws of the range of a list of leaves: it is right, and its root is the tree's.
-/
import Derived.Test.YtcebpfhokacccaaRangeOf
import Derived.Test.YtcebpfhokacccaaRoots
import Derived.Test.YtcebpfhokacccaaDraw3
import Derived.Test.YtcebpfhokacccaaWider
namespace Go.Proofs.Ytcebpfhokacccaa
set_option linter.unusedVariables false
open Go.RowKit

theorem leavesOk_of' {wd : Nat} (h1 : 1 ≤ wd) (h32 : wd ≤ 32) {zs : List ByteArray} (h512 : zs.length ≤ 512) (hm : ∀ s ∈ zs, s.size = wd) : leavesOk (wd : Int) zs = true := by
  unfold leavesOk
  rw [inR_true (by omega) (by omega), hashesOk_of (fun s hs => by rw [hm s hs])]
  simp
  omega
theorem range_len {wd : Nat} {zs : List ByteArray} (h : zs.length ≤ 512) : (grownW wd 0 [] zs).length = pl zs.length := by
  have := grown_len (nodeT wd) (emptyT wd) zs 0 [] (by omega) rfl
  rwa [Nat.zero_add] at this
theorem range_mem {wd : Nat} (h32 : wd ≤ 32) {zs : List ByteArray} (hm : ∀ s ∈ zs, s.size = wd) : ∀ s ∈ grownW wd 0 [] zs, s.size = wd := grown_mem (nodeT wd) (emptyT wd) (fun l r => nodeT_size wd l r h32) zs 0 [] (fun s hs => by simp at hs) hm
theorem range_ok {wd : Nat} (h1 : 1 ≤ wd) (h32 : wd ≤ 32) {zs : List ByteArray} (h : zs.length ≤ 512) (hm : ∀ s ∈ zs, s.size = wd) : rangeOk (wd : Int) (zs.length : Int) (grownW wd 0 [] zs) = true := rangeOk_of h1 h32 h (range_len h) (range_mem h32 hm)
theorem range_root {wd : Nat} {zs : List ByteArray} (h : zs.length ≤ 512) : peaksRoot wd (grownW wd 0 [] zs) = rootW wd zs := by
  have e : grownW wd 0 [] zs = pk (nodeT wd) (emptyT wd) zs := grown_pk _ _ zs h
  rw [e]
  exact pk_root _ _ zs.length zs rfl
theorem pl_le (n : Nat) (h : n ≤ 512) : pl n ≤ 10 := by
  have := peaksI_len (n : Int)
  unfold peaksI at this
  rw [if_pos ⟨by omega, by omega⟩, List.length_map, Int.toNat_natCast] at this
  exact this
/-- Where a slice lies from place m on. -/
def dropA (c m : Nat) (A : Option Addr) : Option Addr := if c = m then A else A.map (·.add m)
end Go.Proofs.Ytcebpfhokacccaa

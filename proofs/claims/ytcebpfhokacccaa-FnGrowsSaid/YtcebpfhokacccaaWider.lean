/-
  Plain laws of Digest: a lesser width is the beginning of a greater; a text and its padding fill whole blocks; and the law's helpers.
-/
import Derived.Test.YtcebpfhokacccaaHashes
import Derived.Test.YtcebpfhokacccaaDraw2
namespace Go.Proofs.Ytcebpfhokacccaa
set_option linter.unusedVariables false
open Go.RowKit

theorem digT_take (w : Nat) (tag : Int) (t : ByteArray) (h : w ≤ 32) : (digT 32 tag t).extract 0 w = digT w tag t := by
  unfold digT chainT
  rw [ByteArray.extract_extract]
  congr 1
  omega
theorem pad_blocks (n : Nat) (h : n ≤ 4000) : ((n : Int) + ((padText n).size : Int) == 64 * blocksI (n : Int)) = true := by
  rw [beq_iff_eq, padText_size]
  unfold blocksI
  rw [if_pos (by unfold padOk inR; simp; omega), Int.toNat_natCast]
  unfold padZ
  omega
theorem l_big_in (code : List Int) (A : Option Addr) (c : Nat) (h : code.length ≤ 1048576) (w : World) :
    Calls Try.prog 5 #[.slice A code.length c] w fun e w' => e = .returned (.bool false) ∧ w = w' := by
  have d : decide ((1048576 : Int) < (code.length : Int)) = false := by simp; omega
  go_enter Try.func5, Try.ntmps5
  go_wp2
  go_ret
  exact ⟨rfl, rfl⟩
theorem l_big_out (code : List Int) (A : Option Addr) (c : Nat) (h : 1048576 < code.length) (w : World) :
    Calls Try.prog 5 #[.slice A code.length c] w fun e w' => e = .returned (.bool true) ∧ w = w' := by
  have d : (1048576 : Int) < (code.length : Int) := by omega
  go_enter Try.func5, Try.ntmps5
  go_wp2
  go_ret
  exact ⟨rfl, rfl⟩
end Go.Proofs.Ytcebpfhokacccaa

/-
  The walks of Hex, the program's and the reference's.
-/
import Derived.Test.YtejhpkcoeakegaaDoorHex
import Derived.Deep.RegionLaw
namespace Go.Proofs.YtejhpkcoeakegaaDoor
set_option linter.unusedVariables false
open Go.RowKit

/-- The first j bytes of a text, in figures of base sixteen. -/
def hexTo (s : ByteArray) (j : Nat) : List Int := (List.range j).flatMap fun i : Nat => [hexFig (byteAt s i / 16), hexFig (byteAt s i % 16)]
theorem length_hexTo (s : ByteArray) (j : Nat) : (hexTo s j).length = 2 * j := by
  induction j with
  | zero => rfl
  | succ j ih =>
    unfold hexTo at *
    rw [List.range_succ, List.flatMap_append, List.length_append, ih]
    simp
    omega
theorem hexTo_succ (s : ByteArray) (j : Nat) : ints .u8 (hexTo s j) ++ [.int .u8 (hexFig (byteAt s j / 16)), .int .u8 (hexFig (byteAt s j % 16))] = ints .u8 (hexTo s (j + 1)) := by
  simp [hexTo, ints, List.range_succ]
/-- Hex. -/
def hexOf (s : ByteArray) : ByteArray := if s.size ≤ 4000 then strOfNums (hexTo s s.size) else ByteArray.empty

theorem s_l01Figure (x : Int) (h0 : 0 ≤ x) (h1 : x ≤ 15) (w : World) :
    Calls Tryd.prog 38 #[.int .i64 x] w fun e w' => e = .returned (.int .u8 (hexFig x)) ∧ w = w' := by
  unfold hexFig
  by_cases c1 : x < 10
  · rw [if_pos c1]
    go_enter Tryd.func38, Tryd.ntmps38
    go_wp2
    go_ret
    exact ⟨rfl, rfl⟩
  · rw [if_neg c1]
    go_enter Tryd.func38, Tryd.ntmps38
    go_wp2
    go_ret
    exact ⟨ret_int (by omega), rfl⟩
end Go.Proofs.YtejhpkcoeakegaaDoor

/-
  The walks of the laws' helpers on slices of uint32: equal, mark, held, copy.
-/
import Derived.Test.YtejhpkcoeakegaaDoorBase
import Derived.Test.YtejhpkcoeakegaaDoorRows
import Derived.WalkKit
import Derived.WalkLawsBesides
import Derived.WalkSpells
import Derived.LoopTactic
import Derived.Deep.QuietTactic
import Derived.BigQuiet
import Derived.IntWalk
namespace Go.Proofs.YtejhpkcoeakegaaDoor
set_option linter.unusedVariables false
open Go.RowKit

/-- The marks k, k + 1, .. , n of them. -/
def marksU (k : Int) (n : Nat) : List Int := (List.range n).map fun i : Nat => k + (i : Int)
theorem length_marksU (k : Int) (n : Nat) : (marksU k n).length = n := by simp [marksU]
theorem marksU_get (k : Int) (n j : Nat) (h : j < n) : (marksU k n)[j]'(by rw [length_marksU]; exact h) = k + (j : Int) := by simp [marksU]
theorem marksU_set (k : Int) (n j : Nat) (zs : List Int) (hz : zs.length = n) (h : j < n) : (ints .u32 (marksU k j ++ zs.drop j)).set j (.int .u32 (k + (j : Int))) = ints .u32 (marksU k (j + 1) ++ zs.drop (j + 1)) := by
  have e1 : zs.drop j = zs[j]'(by omega) :: zs.drop (j + 1) := List.drop_eq_getElem_cons (by omega)
  rw [e1]
  unfold ints
  rw [List.map_append, List.map_cons, List.set_append_right _ _ (by simp [marksU])]
  simp only [List.length_map, length_marksU, Nat.sub_self, List.set_cons_zero]
  rw [List.map_append]
  simp [marksU, List.range_succ]

theorem toSetU (zs : List Int) (j : Nat) (h : j < zs.length) : (ints .u32 (zs.take j ++ List.replicate (zs.length - j) 0)).set j (.int .u32 (zs[j]'h)) = ints .u32 (zs.take (j + 1) ++ List.replicate (zs.length - (j + 1)) 0) := by
  have e1 : zs.length - j = (zs.length - (j + 1)) + 1 := by omega
  have e2 : (List.map (Value.int .u32) (zs.take j)).length = j := by rw [List.length_map, List.length_take]; omega
  rw [e1, List.replicate_succ, List.take_succ_eq_append_getElem h]
  unfold ints
  rw [List.map_append, List.map_cons, List.set_append_right _ _ (by omega), e2, Nat.sub_self, List.set_cons_zero, List.append_assoc, List.map_append]
  rfl
end Go.Proofs.YtejhpkcoeakegaaDoor

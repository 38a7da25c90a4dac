/-
  The walks of mixed and MixIn, and of Constant.
-/
import Derived.Test.YtejhpkcoeakegaaDoorStart
import Derived.Test.YtejhpkcoeakegaaDoorArr
import Derived.Test.YtejhpkcoeakegaaDoorTurn
import Derived.Test.YtejhpkcoeakegaaDoorMixPlain
import Derived.StillTailTactics
import Derived.Outline
namespace Go.Proofs.YtejhpkcoeakegaaDoor
set_option linter.unusedVariables false
open Go.RowKit

theorem list8 {l : List Int} (h : l.length = 8) : ∃ a0 a1 a2 a3 a4 a5 a6 a7, l = [a0, a1, a2, a3, a4, a5, a6, a7] := by
  match l, h with
  | [a0, a1, a2, a3, a4, a5, a6, a7], _ => exact ⟨a0, a1, a2, a3, a4, a5, a6, a7, rfl⟩
theorem list16 {l : List Int} (h : l.length = 16) : ∃ a0 a1 a2 a3 a4 a5 a6 a7 b0 b1 b2 b3 b4 b5 b6 b7, l = [a0, a1, a2, a3, a4, a5, a6, a7, b0, b1, b2, b3, b4, b5, b6, b7] := by
  match l, h with
  | [a0, a1, a2, a3, a4, a5, a6, a7, b0, b1, b2, b3, b4, b5, b6, b7], _ => exact ⟨a0, a1, a2, a3, a4, a5, a6, a7, b0, b1, b2, b3, b4, b5, b6, b7, rfl⟩

theorem calls_same {P : Program} {f : FuncId} {args : Array Value} {w : World} {v : Value} (h : Calls P f args w fun e w' => e = .returned v ∧ w = w') : Calls P f args w fun e w' => e = .returned v ∧ w' = w :=
  h.mono fun _ _ h => ⟨h.1, h.2.symm⟩
theorem ints_cell {w : World} {N : Nat} {t : TypeId} {k : IntKind} {zs : List Int} (h : Arr w N t (ints k zs)) {j : Nat} (hj : j < zs.length) : w.cell? ⟨N, j, none⟩ = some (.int k (wd zs j)) := by
  rw [h.cell (by rw [length_ints]; exact hj), ints_get, wd_get]
theorem ints_set (k : IntKind) (zs : List Int) (i : Nat) (x : Int) : (ints k zs).set i (.int k x) = ints k (zs.set i x) := by
  unfold ints; exact List.map_set.symm
theorem wd_set_same (l : List Int) (i : Nat) (x : Int) (h : i < l.length) : wd (l.set i x) i = x := by simp [wd, h]
theorem wd_set_other (l : List Int) (i j : Nat) (x : Int) (h : i ≠ j) : wd (l.set i x) j = wd l j := by simp [wd, h]
theorem below_drew {B : Nat} {a w : World} (h : Below B a w) : Below B a w.drew := h.trans ⟨rfl, rfl, rfl, Nat.le_refl _, fun _ _ => rfl⟩
end Go.Proofs.YtejhpkcoeakegaaDoor

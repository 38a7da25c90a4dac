/-
  The walks of HalfOf and HeightOf, the program's and the reference's.
-/
import Derived.Test.YtcebpfhokacccaaNumPlain
import Derived.Test.YtcebpfhokacccaaSmall
import Derived.Test.YtcebpfhokacccaaShelf
import Derived.LoopTactic
import Derived.IntWalk
import Derived.Outline
namespace Go.Proofs.Ytcebpfhokacccaa
set_option linter.unusedVariables false
open Go.RowKit

theorem pow_bd (j : Nat) (h : j ≤ 9) : (1 : Int) ≤ 2 ^ j ∧ (2 : Int) ^ j ≤ 512 := by
  have : j = 0 ∨ j = 1 ∨ j = 2 ∨ j = 3 ∨ j = 4 ∨ j = 5 ∨ j = 6 ∨ j = 7 ∨ j = 8 ∨ j = 9 := by omega
  rcases this with rfl | rfl | rfl | rfl | rfl | rfl | rfl | rfl | rfl | rfl <;> decide
theorem pow_wrap (j : Nat) (h : j ≤ 9) : wrap64 (2 ^ min (IntKind.u64.wrap (j : Int)).toNat 64) = 2 ^ j := by
  have hb := pow_bd j h
  rw [IntWalk.u64_in _ ⟨by omega, by omega⟩, Int.toNat_natCast, Nat.min_eq_left (by omega)]
  exact IntWalk.wrap64_in _ ⟨by omega, by omega⟩
theorem half_shift (n : Nat) (h2 : 2 ≤ n) (h : n ≤ 512) : (2 : Int) ^ (Lib.bitLen (n - 1) - 1) = (halfOf n : Int) ∧ 1 ≤ Lib.bitLen (n - 1) ∧ Lib.bitLen (n - 1) ≤ 9 := by
  have e : Lib.bitLen (n - 1) = Nat.log2 (n - 1) + 1 := bitLen_eq _ (by omega) (by omega)
  have hl := Lib.bitLen_le (n - 1) 9 (by omega) (by omega)
  refine ⟨?_, by omega, hl⟩
  rw [e, Nat.add_sub_cancel, halfOf]
  simp
theorem half_wrap (L : Nat) (h1 : 1 ≤ L) (h9 : L ≤ 9) : wrap64 (2 ^ min (IntKind.u64.wrap (wrap64 ((L : Int) - 1))).toNat 64) = 2 ^ (L - 1) := by
  have e : ((L : Int) - 1) = ((L - 1 : Nat) : Int) := by omega
  rw [IntWalk.wrap64_in ((L : Int) - 1) ⟨by omega, by omega⟩, e]
  exact pow_wrap (L - 1) (by omega)
theorem i_HalfOf (n : Int) (w : World) :
    Calls Try.prog 16 #[.int .i64 n] w fun e w' => e = .returned (.int .i64 (halfI n)) ∧ w = w' := by
  unfold halfI
  by_cases hl : 2 ≤ n ∧ n ≤ 512
  · rw [if_pos hl]
    have hin := inR_true hl.1 hl.2
    obtain ⟨h2, h3⟩ := hl
    obtain ⟨e1, e2, e3⟩ := half_shift n.toNat (by omega) (by omega)
    have He := hide (And.intro e1 (And.intro e2 e3))
    clear e1 e2 e3
    go_enter Try.func16, Try.ntmps16
    go_wp2_with (first | (go_at_call 36; refine (i_inRange _ _ _ _).mono ?_; rintro e w1 ⟨rfl, rfl⟩) | (go_at_call 37; refine (Try.bits_Len _ _ (by omega) (by omega)).mono ?_; rintro e w1 ⟨rfl, rfl⟩))
    go_ret
    refine ⟨ret_int ?_, rfl⟩
    obtain ⟨e1, e2, e3⟩ := He.out
    rw [half_wrap _ e2 e3, e1]
  · have hin : inR n 2 512 = false := by unfold inR; simp; omega
    rw [if_neg hl]
    go_enter Try.func16, Try.ntmps16
    go_wp2_with (go_at_call 36; refine (i_inRange _ _ _ _).mono ?_; rintro e w1 ⟨rfl, rfl⟩)
    go_ret
    exact ⟨rfl, rfl⟩
end Go.Proofs.Ytcebpfhokacccaa

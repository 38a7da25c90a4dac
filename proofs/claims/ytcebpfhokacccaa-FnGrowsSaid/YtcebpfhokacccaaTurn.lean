/-
  The walks of Turn (the program's and the reference's) and of math/bits.RotateLeft32: both turn a word by n modulo 32 places.
-/
import Derived.Test.YtcebpfhokacccaaPlain
import Derived.Test.YtcebpfhokacccaaRows
import Derived.WalkKit
import Derived.WalkLawsBesides
import Derived.WalkSpells
import Derived.LoopTactic
namespace Go.Proofs.Ytcebpfhokacccaa
set_option linter.unusedVariables false
open Go.RowKit

theorem i_Turn (x n : Int) (h0 : 0 ≤ x) (h1 : x ≤ 4294967295) (w : World) :
    Calls Try.prog 65 #[.int .u32 x, .int .i64 n] w fun e w' => e = .returned (.int .u32 (rotl x.toNat (n % 32).toNat)) ∧ w = w' := by
  have hb := and31 n
  have b0 : 0 ≤ n % 32 := by omega
  have b1 : n % 32 < 32 := by omega
  generalize n % 32 = k at *
  go_enter Try.func65, Try.ntmps65
  go_wp2
  go_ret
  refine ⟨ret_int ?_, rfl⟩
  obtain ⟨X, rfl⟩ := Int.eq_ofNat_of_zero_le h0
  obtain ⟨K, rfl⟩ := Int.eq_ofNat_of_zero_le b0
  have hX : X < 4294967296 := by omega
  have hK : K < 32 := by omega
  have e1 : (32 - (K : Int)).toNat = 32 - K := by omega
  rw [Int.toNat_natCast, Int.toNat_natCast, e1, ← rotl_or X K hX (by omega)]
  have e2 : ((X : Int) * 2 ^ K % 4294967296) = ((X * 2 ^ K % 4294967296 : Nat) : Int) := by simp
  have e3 : ((X : Int) / 2 ^ (32 - K)) = ((X / 2 ^ (32 - K) : Nat) : Int) := by simp
  rw [e2, e3, u32_or_nat]
  · exact Nat.mod_lt _ (by decide)
  · exact Nat.lt_of_le_of_lt (Nat.div_le_self _ _) hX

theorem rotl_step (X j : Nat) (hX : X < 4294967296) (hj : j < 32) : bits .or .u32 ((rotl X j : Int) * 2 % 4294967296) ((rotl X j : Int) / 2147483648) = (rotl X (j + 1) : Int) := by
  have hr := rotl_lt X j hX hj
  have e2 : ((rotl X j : Int) * 2 % 4294967296) = ((rotl X j * 2 % 4294967296 : Nat) : Int) := by simp
  have e3 : ((rotl X j : Int) / 2147483648) = ((rotl X j / 2147483648 : Nat) : Int) := by simp
  rw [e2, e3, u32_or_nat _ _ (by omega) (by omega), nat_join 1 _ _ (by omega) (by omega), rotl_succ X j hX hj]

end Go.Proofs.Ytcebpfhokacccaa

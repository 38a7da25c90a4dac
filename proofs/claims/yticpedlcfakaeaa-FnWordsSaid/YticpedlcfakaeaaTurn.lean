/-
  The walks of Turn (the program's and the reference's) and of math/bits.RotateLeft32: both turn a word by n modulo 32 places.
-/
import Derived.Test.YticpedlcfakaeaaPlain
import Derived.Test.YticpedlcfakaeaaRows
import Derived.WalkKit
import Derived.WalkLawsBesides
import Derived.WalkSpells
import Derived.LoopTactic
namespace Go.Proofs.Yticpedlcfakaeaa
set_option linter.unusedVariables false
open Go.RowKit

theorem i_Turn (x n : Int) (h0 : 0 ≤ x) (h1 : x ≤ 4294967295) (w : World) :
    Calls Try.prog 39 #[.int .u32 x, .int .i64 n] w fun e w' => e = .returned (.int .u32 (rotl x.toNat (n % 32).toNat)) ∧ w = w' := by
  have hb := and31 n
  have b0 : 0 ≤ n % 32 := by omega
  have b1 : n % 32 < 32 := by omega
  generalize n % 32 = k at *
  go_enter Try.func39, Try.ntmps39
  go_wp2
  go_ret
  refine ⟨ret_int ?_, rfl⟩
  obtain ⟨X, rfl⟩ := Int.eq_ofNat_of_zero_le h0
  obtain ⟨K, rfl⟩ := Int.eq_ofNat_of_zero_le b0
  have hX : X < 4294967296 := by omega
  have hK : K < 32 := by omega
  have e1 : (32 - (K : Int)).toNat = 32 - K := by omega
  rw [Int.toNat_natCast, Int.toNat_natCast, e1, ← rotl_or X K hX (by omega)]
  have e2 : ((X : Int) * 2 ^ K % 4294967296) = ((X * 2 ^ K % 4294967296 : Nat) : Int) := by simp
  have e3 : ((X : Int) / 2 ^ (32 - K)) = ((X / 2 ^ (32 - K) : Nat) : Int) := by simp
  rw [e2, e3, u32_or_nat]
  · exact Nat.mod_lt _ (by decide)
  · exact Nat.lt_of_le_of_lt (Nat.div_le_self _ _) hX

theorem rotl_step (X j : Nat) (hX : X < 4294967296) (hj : j < 32) : bits .or .u32 ((rotl X j : Int) * 2 % 4294967296) ((rotl X j : Int) / 2147483648) = (rotl X (j + 1) : Int) := by
  have hr := rotl_lt X j hX hj
  have e2 : ((rotl X j : Int) * 2 % 4294967296) = ((rotl X j * 2 % 4294967296 : Nat) : Int) := by simp
  have e3 : ((rotl X j : Int) / 2147483648) = ((rotl X j / 2147483648 : Nat) : Int) := by simp
  rw [e2, e3, u32_or_nat _ _ (by omega) (by omega), nat_join 1 _ _ (by omega) (by omega), rotl_succ X j hX hj]

set_option maxHeartbeats 400000 in
theorem s_Turn (x n : Int) (h0 : 0 ≤ x) (h1 : x ≤ 4294967295) (w : World) :
    Calls Try.prog 72 #[.int .u32 x, .int .i64 n] w fun e w' => e = .returned (.int .u32 (rotl x.toNat (n % 32).toNat)) ∧ w = w' := by
  obtain ⟨X, rfl⟩ := Int.eq_ofNat_of_zero_le h0
  have hX : X < 4294967296 := by omega
  obtain ⟨K, hK0, hK⟩ : ∃ K : Nat, n % 32 = K ∧ K < 32 := ⟨(n % 32).toNat, by omega, by omega⟩
  rw [Int.toNat_natCast, hK0, Int.toNat_natCast]
  have hm : n.tmod 32 = K ∨ n.tmod 32 = (K : Int) - 32 := by rw [Int.tmod_eq_emod]; split <;> omega
  clear hK0 h0 h1
  have HX := hide hX
  clear hX
  rcases hm with hm | hm
  all_goals
    go_enter Try.func72, Try.ntmps72
    go_wp2
    go_loop [0, 6, 7] (fun t i _ => ∃ j : Nat, j ≤ K ∧ i = .int .i64 j ∧ t = .int .u32 (rotl X j)) (fun _ i _ => K - (intOf i).toNat)
    case atStart => exact ⟨0, Nat.zero_le _, rfl, by rw [rotl_zero X HX.out]⟩
    case round =>
      obtain ⟨j, hj, rfl, rfl⟩ := hrel
      by_cases hlt : j < K
      · have st := rotl_step X j HX.out (by omega)
        go_wp2
        go_round
        case rel => exact ⟨j + 1, by omega, by go_num, rfl⟩
        case measure => simp [intOf]; omega
      · obtain rfl : j = K := by omega
        go_wp2
        go_ret
        exact ⟨rfl, rfl⟩
end Go.Proofs.Yticpedlcfakaeaa

/-
  The walks of StepsIn and StepsBetween, the program's and the reference's.
-/
import Derived.Test.YtjjkpieokknhiaaStepsPlain
import Derived.Test.YtjjkpieokknhiaaNum
namespace Go.Proofs.Ytjjkpieokknhiaa
set_option linter.unusedVariables false
open Go.RowKit

theorem i_HalfN (N H : Nat) (w : World) (h2 : 2 ≤ N) (h5 : N ≤ 512) (hH : Hid (halfOf N = H)) :
    Calls Try.prog 26 #[.int .i64 (N : Int)] w fun e w' => e = .returned (.int .i64 (H : Int)) ∧ w = w' := by
  refine (i_HalfOf _ _).mono ?_
  rintro e w1 ⟨rfl, rfl⟩
  rw [halfI_nat h2 h5, hH.out]
  exact ⟨rfl, rfl⟩
theorem i_StepsIn (n a : Int) (w : World) :
    Calls Try.prog 11 #[.int .i64 n, .int .i64 a] w fun e w' => e = .returned (.int .i64 (stepsI n a)) ∧ w = w' := by
  unfold stepsI
  by_cases hl : 0 ≤ a ∧ a < n ∧ n ≤ 512
  · rw [if_pos hl]
    obtain ⟨h1, h2, h3⟩ := hl
    obtain ⟨N0, rfl⟩ : ∃ N : Nat, n = N := ⟨n.toNat, by omega⟩
    obtain ⟨A0, rfl⟩ : ∃ N : Nat, a = N := ⟨a.toNat, by omega⟩
    simp only [Int.toNat_natCast]
    have hN : N0 ≤ 512 := by omega
    have hA : A0 < N0 := by omega
    obtain ⟨T, hT⟩ : ∃ T, stepsIn N0 A0 = T := ⟨_, rfl⟩
    rw [hT]
    replace hT := hide hT
    have d1 : decide ((A0 : Int) < 0) = false := by simp
    have d2 : decide (N0 ≤ A0) = false := by simp; omega
    have d3 : decide (512 < (N0 : Int)) = false := by simp; omega
    go_enter Try.func11, Try.ntmps11
    go_wp2
    go_loop [0, 1, 5, 6] (fun q p c _ => ∃ N A C : Nat, q = .int .i64 N ∧ p = .int .i64 A ∧ c = .int .i64 C ∧ C + N ≤ 512 ∧ A < N ∧ Hid (C + stepsIn N A = T)) (fun q _ _ _ => (intOf q).toNat)
    case atStart => exact ⟨N0, A0, 0, rfl, rfl, rfl, by omega, by omega, by rw [Nat.zero_add]; exact hT.out⟩
    case round =>
      obtain ⟨N, A, C, rfl, rfl, rfl, hs, hlt, hj⟩ := hrel
      by_cases hc : 1 < N
      · obtain ⟨H, hH⟩ : ∃ H, halfOf N = H := ⟨_, rfl⟩
        have hb : 1 ≤ H ∧ H < N := by
          obtain ⟨k0, k1, k2⟩ := half_spec (n := N) (by omega)
          omega
        obtain ⟨hb1, hb2⟩ := hb
        by_cases ha : A < H
        · have hk := hide (show C + 1 + stepsIn H A = T by
            have := hj.out
            rw [stepsIn_left (by omega) (by omega), hH] at this
            omega)
          replace hH := hide hH
          go_wp2_with (go_at_call 26; refine (i_HalfN N H _ (by omega) (by omega) hH).mono ?_; rintro e w1 ⟨rfl, rfl⟩)
          go_round
          case rel => first | exact ⟨H, A, C + 1, by go_num, by go_num, by go_num, by omega, by omega, hk.out⟩ | (refine ⟨trivial, ?_⟩; (repeat apply Exists.intro); exact ⟨⟨H, A, C + 1, by go_num, by go_num, by go_num, by omega, by omega, hk.out⟩, rfl⟩)
          case measure => simp [intOf]; omega
        · have hk := hide (show C + 1 + stepsIn (N - H) (A - H) = T by
            have := hj.out
            rw [stepsIn_right (by omega) (by omega), hH] at this
            omega)
          replace hH := hide hH
          go_wp2_with (go_at_call 26; refine (i_HalfN N H _ (by omega) (by omega) hH).mono ?_; rintro e w1 ⟨rfl, rfl⟩)
          go_round
          case rel => first | exact ⟨N - H, A - H, C + 1, by go_num, by go_num, by go_num, by omega, by omega, hk.out⟩ | (refine ⟨trivial, ?_⟩; (repeat apply Exists.intro); exact ⟨⟨N - H, A - H, C + 1, by go_num, by go_num, by go_num, by omega, by omega, hk.out⟩, rfl⟩)
          case measure => simp [intOf]; omega
      · have hk := hide (show C = T by
          have := hj.out
          rw [stepsIn_small (by omega)] at this
          omega)
        go_wp2
        go_ret
        exact ⟨ret_int (by rw [hk.out]), rfl⟩
  · rw [if_neg hl]
    by_cases h0 : a < 0
    · go_enter Try.func11, Try.ntmps11
      go_wp2
      go_ret
      exact ⟨rfl, rfl⟩
    · by_cases h1 : a ≥ n
      · go_enter Try.func11, Try.ntmps11
        go_wp2
        go_ret
        exact ⟨rfl, rfl⟩
      · go_enter Try.func11, Try.ntmps11
        go_wp2
        go_ret
        exact ⟨rfl, rfl⟩
theorem i_StepsBetween (m n : Int) (w : World) :
    Calls Try.prog 15 #[.int .i64 m, .int .i64 n] w fun e w' => e = .returned (.int .i64 (betweenI m n)) ∧ w = w' := by
  unfold betweenI
  by_cases hl : 0 ≤ m ∧ m ≤ n ∧ n ≤ 512
  · rw [if_pos hl]
    obtain ⟨h1, h2, h3⟩ := hl
    obtain ⟨N0, rfl⟩ : ∃ N : Nat, n = N := ⟨n.toNat, by omega⟩
    obtain ⟨M0, rfl⟩ : ∃ N : Nat, m = N := ⟨m.toNat, by omega⟩
    simp only [Int.toNat_natCast]
    have hN : N0 ≤ 512 := by omega
    have hA : M0 ≤ N0 := by omega
    by_cases hz : M0 = 0
    · subst hz
      rw [if_pos (by omega)]
      go_enter Try.func15, Try.ntmps15
      go_wp2
      go_ret
      exact ⟨rfl, rfl⟩
    rw [if_neg (by omega)]
    have d0 : ((M0 : Int) == 0) = false := by simp; omega
    have d1 : decide ((M0 : Int) < 0) = false := by simp
    have d2 : decide (N0 < M0) = false := by simp; omega
    have d3 : decide (512 < (N0 : Int)) = false := by simp; omega
    obtain ⟨T, hT⟩ : ∃ T, between M0 N0 true = T := ⟨_, rfl⟩
    rw [hT]
    replace hT := hide hT
    go_enter Try.func15, Try.ntmps15
    go_wp2
    go_loop [0, 1, 5, 6, 7] (fun p q c b _ => ∃ M N C : Nat, ∃ B : Bool, p = .int .i64 M ∧ q = .int .i64 N ∧ c = .int .i64 C ∧ b = .bool B ∧ C + N ≤ 512 ∧ M ≤ N ∧ 0 < M ∧ Hid (C + between M N B = T)) (fun _ q _ _ _ => (intOf q).toNat)
    case atStart => exact ⟨M0, N0, 0, true, rfl, rfl, rfl, rfl, by omega, by omega, by omega, by rw [Nat.zero_add]; exact hT.out⟩
    case round =>
      obtain ⟨M, N, C, B, rfl, rfl, rfl, rfl, hs, hle, h0, hj⟩ := hrel
      by_cases hc : M < N
      · obtain ⟨H, hH⟩ : ∃ H, halfOf N = H := ⟨_, rfl⟩
        have hb : 1 ≤ H ∧ H < N := by
          obtain ⟨k0, k1, k2⟩ := half_spec (n := N) (by omega)
          omega
        obtain ⟨hb1, hb2⟩ := hb
        by_cases ha : M ≤ H
        · have hk := hide (show C + 1 + between M H B = T by
            have := hj.out
            rw [between_left (by omega) (by omega) (by omega), hH] at this
            omega)
          replace hH := hide hH
          go_wp2_with (go_at_call 26; refine (i_HalfN N H _ (by omega) (by omega) hH).mono ?_; rintro e w1 ⟨rfl, rfl⟩)
          go_round
          case rel => first | exact ⟨M, H, C + 1, B, by go_num, by go_num, by go_num, rfl, by omega, by omega, by omega, hk.out⟩ | (refine ⟨trivial, ?_⟩; (repeat apply Exists.intro); exact ⟨⟨M, H, C + 1, B, by go_num, by go_num, by go_num, rfl, by omega, by omega, by omega, hk.out⟩, rfl⟩)
          case measure => simp [intOf]; omega
        · have hk := hide (show C + 1 + between (M - H) (N - H) false = T by
            have := hj.out
            rw [between_right (by omega) (by omega) (by omega), hH] at this
            omega)
          replace hH := hide hH
          go_wp2_with (go_at_call 26; refine (i_HalfN N H _ (by omega) (by omega) hH).mono ?_; rintro e w1 ⟨rfl, rfl⟩)
          go_round
          case rel => first | exact ⟨M - H, N - H, C + 1, false, by go_num, by go_num, by go_num, rfl, by omega, by omega, by omega, hk.out⟩ | (refine ⟨trivial, ?_⟩; (repeat apply Exists.intro); exact ⟨⟨M - H, N - H, C + 1, false, by go_num, by go_num, by go_num, rfl, by omega, by omega, by omega, hk.out⟩, rfl⟩)
          case measure => simp [intOf]; omega
      · obtain rfl : M = N := by omega
        cases B with
        | true =>
          have hk := hide (show C = T by
            have := hj.out
            rw [between_same (by omega)] at this
            simpa using this)
          go_wp2
          go_ret
          exact ⟨ret_int (by rw [hk.out]), rfl⟩
        | false =>
          have hk := hide (show C + 1 = T by
            have := hj.out
            rw [between_same (by omega)] at this
            simpa using this)
          go_wp2
          go_ret
          exact ⟨ret_int (by rw [← hk.out]; omega), rfl⟩
  · rw [if_neg hl]
    by_cases h0 : m < 0
    · go_enter Try.func15, Try.ntmps15
      go_wp2
      go_ret
      exact ⟨rfl, rfl⟩
    · by_cases h1 : m > n
      · go_enter Try.func15, Try.ntmps15
        go_wp2
        go_ret
        exact ⟨rfl, rfl⟩
      · go_enter Try.func15, Try.ntmps15
        go_wp2
        go_ret
        exact ⟨rfl, rfl⟩
end Go.Proofs.Ytjjkpieokknhiaa

/-
  The walks of StepsIn and StepsBetween, the program's and the reference's.
-/
import Derived.Test.YtmcaglkbohoclaaStepsPlain
import Derived.Test.YtmcaglkbohoclaaNum
namespace Go.Proofs.Ytmcaglkbohoclaa
set_option linter.unusedVariables false
open Go.RowKit

theorem i_HalfN (N H : Nat) (w : World) (h2 : 2 ≤ N) (h5 : N ≤ 512) (hH : Hid (halfOf N = H)) :
    Calls Try.prog 54 #[.int .i64 (N : Int)] w fun e w' => e = .returned (.int .i64 (H : Int)) ∧ w = w' := by
  refine (i_HalfOf _ _).mono ?_
  rintro e w1 ⟨rfl, rfl⟩
  rw [halfI_nat h2 h5, hH.out]
  exact ⟨rfl, rfl⟩
theorem s_HalfN (N H : Nat) (w : World) (h2 : 2 ≤ N) (h5 : N ≤ 512) (hH : Hid (halfOf N = H)) :
    Calls Try.prog 48 #[.int .i64 (N : Int)] w fun e w' => e = .returned (.int .i64 (H : Int)) ∧ w = w' := by
  refine (s_HalfOf _ _).mono ?_
  rintro e w1 ⟨rfl, rfl⟩
  rw [halfI_nat h2 h5, hH.out]
  exact ⟨rfl, rfl⟩
theorem i_StepsIn (n a : Int) (w : World) :
    Calls Try.prog 52 #[.int .i64 n, .int .i64 a] w fun e w' => e = .returned (.int .i64 (stepsI n a)) ∧ w = w' := by
  unfold stepsI
  by_cases hl : 0 ≤ a ∧ a < n ∧ n ≤ 512
  · rw [if_pos hl]
    obtain ⟨h1, h2, h3⟩ := hl
    obtain ⟨N0, rfl⟩ : ∃ N : Nat, n = N := ⟨n.toNat, by omega⟩
    obtain ⟨A0, rfl⟩ : ∃ N : Nat, a = N := ⟨a.toNat, by omega⟩
    simp only [Int.toNat_natCast]
    have hN : N0 ≤ 512 := by omega
    have hA : A0 < N0 := by omega
    obtain ⟨T, hT⟩ : ∃ T, stepsIn N0 A0 = T := ⟨_, rfl⟩
    rw [hT]
    replace hT := hide hT
    have d1 : decide ((A0 : Int) < 0) = false := by simp
    have d2 : decide (N0 ≤ A0) = false := by simp; omega
    have d3 : decide (512 < (N0 : Int)) = false := by simp; omega
    go_enter Try.func52, Try.ntmps52
    go_wp2
    go_loop [0, 1, 5, 6] (fun q p c _ => ∃ N A C : Nat, q = .int .i64 N ∧ p = .int .i64 A ∧ c = .int .i64 C ∧ C + N ≤ 512 ∧ A < N ∧ Hid (C + stepsIn N A = T)) (fun q _ _ _ => (intOf q).toNat)
    case atStart => exact ⟨N0, A0, 0, rfl, rfl, rfl, by omega, by omega, by rw [Nat.zero_add]; exact hT.out⟩
    case round =>
      obtain ⟨N, A, C, rfl, rfl, rfl, hs, hlt, hj⟩ := hrel
      by_cases hc : 1 < N
      · obtain ⟨H, hH⟩ : ∃ H, halfOf N = H := ⟨_, rfl⟩
        have hb : 1 ≤ H ∧ H < N := by
          obtain ⟨k0, k1, k2⟩ := half_spec (n := N) (by omega)
          omega
        obtain ⟨hb1, hb2⟩ := hb
        by_cases ha : A < H
        · have hk := hide (show C + 1 + stepsIn H A = T by
            have := hj.out
            rw [stepsIn_left (by omega) (by omega), hH] at this
            omega)
          replace hH := hide hH
          go_wp2_with (go_at_call 54; refine (i_HalfN N H _ (by omega) (by omega) hH).mono ?_; rintro e w1 ⟨rfl, rfl⟩)
          go_round
          case rel => first | exact ⟨H, A, C + 1, by go_num, by go_num, by go_num, by omega, by omega, hk.out⟩ | (refine ⟨trivial, ?_⟩; (repeat apply Exists.intro); exact ⟨⟨H, A, C + 1, by go_num, by go_num, by go_num, by omega, by omega, hk.out⟩, rfl⟩)
          case measure => simp [intOf]; omega
        · have hk := hide (show C + 1 + stepsIn (N - H) (A - H) = T by
            have := hj.out
            rw [stepsIn_right (by omega) (by omega), hH] at this
            omega)
          replace hH := hide hH
          go_wp2_with (go_at_call 54; refine (i_HalfN N H _ (by omega) (by omega) hH).mono ?_; rintro e w1 ⟨rfl, rfl⟩)
          go_round
          case rel => first | exact ⟨N - H, A - H, C + 1, by go_num, by go_num, by go_num, by omega, by omega, hk.out⟩ | (refine ⟨trivial, ?_⟩; (repeat apply Exists.intro); exact ⟨⟨N - H, A - H, C + 1, by go_num, by go_num, by go_num, by omega, by omega, hk.out⟩, rfl⟩)
          case measure => simp [intOf]; omega
      · have hk := hide (show C = T by
          have := hj.out
          rw [stepsIn_small (by omega)] at this
          omega)
        go_wp2
        go_ret
        exact ⟨ret_int (by rw [hk.out]), rfl⟩
  · rw [if_neg hl]
    by_cases h0 : a < 0
    · go_enter Try.func52, Try.ntmps52
      go_wp2
      go_ret
      exact ⟨rfl, rfl⟩
    · by_cases h1 : a ≥ n
      · go_enter Try.func52, Try.ntmps52
        go_wp2
        go_ret
        exact ⟨rfl, rfl⟩
      · go_enter Try.func52, Try.ntmps52
        go_wp2
        go_ret
        exact ⟨rfl, rfl⟩
theorem s_StepsIn (n a : Int) (w : World) :
    Calls Try.prog 47 #[.int .i64 n, .int .i64 a] w fun e w' => e = .returned (.int .i64 (stepsI n a)) ∧ w = w' := by
  unfold stepsI
  by_cases hl : 0 ≤ a ∧ a < n ∧ n ≤ 512
  · rw [if_pos hl]
    obtain ⟨h1, h2, h3⟩ := hl
    obtain ⟨N0, rfl⟩ : ∃ N : Nat, n = N := ⟨n.toNat, by omega⟩
    obtain ⟨A0, rfl⟩ : ∃ N : Nat, a = N := ⟨a.toNat, by omega⟩
    simp only [Int.toNat_natCast]
    have hN : N0 ≤ 512 := by omega
    have hA : A0 < N0 := by omega
    obtain ⟨T, hT⟩ : ∃ T, stepsIn N0 A0 = T := ⟨_, rfl⟩
    rw [hT]
    replace hT := hide hT
    have hin1 : inR (N0 : Int) 0 512 = true := inR_true (by omega) (by omega)
    have hin2 : inR (A0 : Int) 0 ((N0 : Int) - 1) = true := inR_true (by omega) (by omega)
    go_enter Try.func47, Try.ntmps47
    go_wp2_with (first | (go_at_call 57; refine (s_l04Size _ _).mono ?_; rintro e w1 ⟨rfl, rfl⟩) | (go_at_call 33; refine (s_l01In _ _ _ _).mono ?_; rintro e w1 ⟨rfl, rfl⟩))
    go_loop [0, 1, 5, 6] (fun q p c _ => ∃ N A C : Nat, q = .int .i64 N ∧ p = .int .i64 A ∧ c = .int .i64 C ∧ C + N ≤ 512 ∧ A < N ∧ Hid (C + stepsIn N A = T)) (fun q _ _ _ => (intOf q).toNat)
    case atStart => exact ⟨N0, A0, 0, rfl, rfl, rfl, by omega, by omega, by rw [Nat.zero_add]; exact hT.out⟩
    case round =>
      obtain ⟨N, A, C, rfl, rfl, rfl, hs, hlt, hj⟩ := hrel
      by_cases hc : 1 < N
      · obtain ⟨H, hH⟩ : ∃ H, halfOf N = H := ⟨_, rfl⟩
        have hb : 1 ≤ H ∧ H < N := by
          obtain ⟨k0, k1, k2⟩ := half_spec (n := N) (by omega)
          omega
        obtain ⟨hb1, hb2⟩ := hb
        by_cases ha : A < H
        · have hk := hide (show C + 1 + stepsIn H A = T by
            have := hj.out
            rw [stepsIn_left (by omega) (by omega), hH] at this
            omega)
          replace hH := hide hH
          go_wp2_with (go_at_call 48; refine (s_HalfN N H _ (by omega) (by omega) hH).mono ?_; rintro e w1 ⟨rfl, rfl⟩)
          go_round
          case rel => first | exact ⟨H, A, C + 1, by go_num, by go_num, by go_num, by omega, by omega, hk.out⟩ | (refine ⟨trivial, ?_⟩; (repeat apply Exists.intro); exact ⟨⟨H, A, C + 1, by go_num, by go_num, by go_num, by omega, by omega, hk.out⟩, rfl⟩)
          case measure => simp [intOf]; omega
        · have hk := hide (show C + 1 + stepsIn (N - H) (A - H) = T by
            have := hj.out
            rw [stepsIn_right (by omega) (by omega), hH] at this
            omega)
          replace hH := hide hH
          go_wp2_with (go_at_call 48; refine (s_HalfN N H _ (by omega) (by omega) hH).mono ?_; rintro e w1 ⟨rfl, rfl⟩)
          go_round
          case rel => first | exact ⟨N - H, A - H, C + 1, by go_num, by go_num, by go_num, by omega, by omega, hk.out⟩ | (refine ⟨trivial, ?_⟩; (repeat apply Exists.intro); exact ⟨⟨N - H, A - H, C + 1, by go_num, by go_num, by go_num, by omega, by omega, hk.out⟩, rfl⟩)
          case measure => simp [intOf]; omega
      · have hk := hide (show C = T by
          have := hj.out
          rw [stepsIn_small (by omega)] at this
          omega)
        go_wp2
        go_ret
        exact ⟨ret_int (by rw [hk.out]), rfl⟩
  · rw [if_neg hl]
    by_cases hs : 0 ≤ n ∧ n ≤ 512
    · have hin1 : inR n 0 512 = true := inR_true hs.1 hs.2
      have hin2 : inR a 0 (n - 1) = false := by unfold inR; simp; omega
      obtain ⟨hs1, hs2⟩ := hs
      go_enter Try.func47, Try.ntmps47
      go_wp2_with (first | (go_at_call 57; refine (s_l04Size _ _).mono ?_; rintro e w1 ⟨rfl, rfl⟩) | (go_at_call 33; refine (s_l01In _ _ _ _).mono ?_; rintro e w1 ⟨rfl, rfl⟩))
      go_ret
      exact ⟨rfl, rfl⟩
    · have hin1 : inR n 0 512 = false := by unfold inR; simp; omega
      go_enter Try.func47, Try.ntmps47
      go_wp2_with (first | (go_at_call 57; refine (s_l04Size _ _).mono ?_; rintro e w1 ⟨rfl, rfl⟩) | (go_at_call 33; refine (s_l01In _ _ _ _).mono ?_; rintro e w1 ⟨rfl, rfl⟩))
      go_ret
      exact ⟨rfl, rfl⟩
end Go.Proofs.Ytmcaglkbohoclaa

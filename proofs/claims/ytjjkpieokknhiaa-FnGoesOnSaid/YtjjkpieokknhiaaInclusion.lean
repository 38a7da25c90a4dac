/-
  The walks of Inclusion.
-/
import Derived.Test.YtjjkpieokknhiaaIncl
namespace Go.Proofs.Ytjjkpieokknhiaa
set_option linter.unusedVariables false
open Go.RowKit

def inclOk (width : Int) (zs : List ByteArray) (a : Int) : Bool := leavesOk width zs && decide (0 ≤ a) && decide (a < zs.length)
def inclI (width : Int) (zs : List ByteArray) (a : Int) : List ByteArray := if inclOk width zs a then inclW width.toNat zs a.toNat else []
set_option maxHeartbeats 1000000 in
theorem i_Inclusion (width : Int) (zs : List ByteArray) (A : Option Addr) (c L H : Nat) (a : Int) (w : World) (h : Rd w L H A (strs zs)) (hn : zs.length ≤ 9223372036854775807) (hc : zs.length ≤ c) (hc2 : c ≤ maxLen) :
    Calls Try.prog 10 #[.int .i64 width, .slice A zs.length c, .int .i64 a] w fun e w' => ∃ A' c', e = .returned (.tuple #[.slice A' (inclI width zs a).length c', .bool (inclOk width zs a)]) ∧ Below w.heap.size w w' ∧ Own w' w.heap.size w'.heap.size 9 (.slice A' (inclI width zs a).length c') (strs (inclI width zs a)) := by
  have HR := hide h
  clear h
  unfold inclI
  by_cases hk : inclOk width zs a = true
  · rw [hk]
    simp only [inclOk, Bool.and_eq_true, decide_eq_true_eq] at hk
    obtain ⟨⟨hk, ha⟩, hb⟩ := hk
    obtain ⟨h1, h2, h3, h4⟩ := leavesOk_spec hk
    obtain ⟨wd, rfl⟩ := Int.eq_ofNat_of_zero_le (show 0 ≤ width by omega)
    obtain ⟨a, rfl⟩ := Int.eq_ofNat_of_zero_le ha
    simp only [Int.toNat_natCast, if_true]
    have C0 := hide (i_inclusion wd (by omega) (by omega) zs.length zs A c L H a w (Nat.le_refl _) (by omega) h3 (fun s hs => by have := h4 s hs; omega) hc hc2 HR.out)
    obtain ⟨P, hP⟩ : ∃ P, inclW wd zs a = P := ⟨_, rfl⟩
    rw [hP] at C0 ⊢
    clear h4 hc2 hP
    have e0 : inR (a : Int) 0 ((zs.length : Int) - 1) = true := by simp [inR]; omega
    have e1 : IntKind.i64.wrap ((zs.length : Int) - 1) = (zs.length : Int) - 1 := IntWalk.i64_in _ (by omega)
    have e2 : ¬ (a : Int) < 0 := by omega
    have e3 : ¬ (zs.length : Int) ≤ a := by omega
    go_enter Try.func10, Try.ntmps10
    go_wp2_with (first | (go_at_call 23; refine (i_LeavesOk _ _ _ _ _ _ _ HR.out hn).mono ?_; rintro e w1 ⟨rfl, rfl⟩) | (go_at_call 25; refine (C0.out).mono ?_; rintro e w1 ⟨A1, c1, rfl, hb1, ho1⟩))
    all_goals
      go_ret2
      exact ⟨A1, c1, rfl, hb1, ho1⟩
  · rw [Bool.not_eq_true] at hk
    rw [hk]
    show Calls _ _ _ _ fun e w' => ∃ A' c', e = .returned (.tuple #[.slice A' 0 c', .bool false]) ∧ _ ∧ Own w' w.heap.size w'.heap.size 9 (.slice A' 0 c') []
    cases hk2 : leavesOk width zs
    · clear hk
      go_enter Try.func10, Try.ntmps10
      go_wp2_with (go_at_call 23; refine (i_LeavesOk _ _ _ _ _ _ _ HR.out hn).mono ?_; rintro e w1 ⟨rfl, rfl⟩)
      go_ret2
      exact ⟨none, 0, rfl, Below.refl _ _, Own.nil _ _ _ _⟩
    have hl512 := (leavesOk_spec hk2).2.2.1
    have e1 : IntKind.i64.wrap ((zs.length : Int) - 1) = (zs.length : Int) - 1 := IntWalk.i64_in _ (by omega)
    by_cases ha : a < 0
    · have e0 : inR a 0 ((zs.length : Int) - 1) = false := by simp [inR]; omega
      clear hk
      go_enter Try.func10, Try.ntmps10
      go_wp2_with (first | (go_at_call 23; refine (i_LeavesOk _ _ _ _ _ _ _ HR.out hn).mono ?_; rintro e w1 ⟨rfl, rfl⟩))
      go_ret2
      exact ⟨none, 0, rfl, Below.refl _ _, Own.nil _ _ _ _⟩
    have ha' : 0 ≤ a := by omega
    have hb : (zs.length : Int) ≤ a := by
      simp only [inclOk, hk2, Bool.true_and, Bool.and_eq_false_iff, decide_eq_false_iff_not] at hk
      omega
    have e0 : inR a 0 ((zs.length : Int) - 1) = false := by simp [inR]; omega
    clear hk
    go_enter Try.func10, Try.ntmps10
    go_wp2_with (first | (go_at_call 23; refine (i_LeavesOk _ _ _ _ _ _ _ HR.out hn).mono ?_; rintro e w1 ⟨rfl, rfl⟩))
    go_ret2
    exact ⟨none, 0, rfl, Below.refl _ _, Own.nil _ _ _ _⟩
end Go.Proofs.Ytjjkpieokknhiaa

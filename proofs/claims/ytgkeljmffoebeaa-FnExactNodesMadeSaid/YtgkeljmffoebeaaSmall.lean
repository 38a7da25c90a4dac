/-
  The walks of the smallest functions: ranges of a number, Constant.
-/
import Derived.Test.YtgkeljmffoebeaaPlain
import Derived.Test.YtgkeljmffoebeaaRows
import Derived.WalkKit
import Derived.WalkLawsBesides
import Derived.WalkSpells
namespace Go.Proofs.Ytgkeljmffoebeaa
open Go.RowKit

/-- Is x from a to b? -/
def inR (x a b : Int) : Bool := decide (a ≤ x) && decide (x ≤ b)
theorem inR_true {x a b : Int} (h1 : a ≤ x) (h2 : x ≤ b) : inR x a b = true := by simp [inR, h1, h2]
theorem inR_lo {x a b : Int} (h1 : x < a) : inR x a b = false := by simp [inR]; omega
theorem inR_hi {x a b : Int} (h1 : b < x) : inR x a b = false := by simp [inR]; omega

theorem i_inRange (x a b : Int) (w : World) :
    Calls Try.prog 23 #[.int .i64 x, .int .i64 a, .int .i64 b] w fun e w' => e = .returned (.bool (inR x a b)) ∧ w = w' := by
  by_cases h1 : a ≤ x
  · by_cases h2 : x ≤ b
    · rw [inR_true h1 h2]
      go_enter Try.func23, Try.ntmps23
      go_wp2
      go_ret
      exact ⟨rfl, rfl⟩
    · rw [inR_hi (by omega)]
      go_enter Try.func23, Try.ntmps23
      go_wp2
      go_ret
      exact ⟨rfl, rfl⟩
  · rw [inR_lo (by omega)]
    go_enter Try.func23, Try.ntmps23
    go_wp2
    go_ret
    exact ⟨rfl, rfl⟩
theorem s_l01In (x a b : Int) (w : World) :
    Calls Try.prog 22 #[.int .i64 x, .int .i64 a, .int .i64 b] w fun e w' => e = .returned (.bool (inR x a b)) ∧ w = w' := by
  by_cases h1 : a ≤ x
  · by_cases h2 : x ≤ b
    · rw [inR_true h1 h2]
      go_enter Try.func22, Try.ntmps22
      go_wp2
      go_ret
      exact ⟨rfl, rfl⟩
    · rw [inR_hi (by omega)]
      go_enter Try.func22, Try.ntmps22
      go_wp2
      go_ret
      exact ⟨rfl, rfl⟩
  · rw [inR_lo (by omega)]
    go_enter Try.func22, Try.ntmps22
    go_wp2
    go_ret
    exact ⟨rfl, rfl⟩
theorem i_isSize (x : Int) (w : World) :
    Calls Try.prog 21 #[.int .i64 x] w fun e w' => e = .returned (.bool (inR x 0 512)) ∧ w = w' := by
  go_enter Try.func21, Try.ntmps21
  go_wp2_with (go_at_call 23; refine (i_inRange _ _ _ _).mono ?_; rintro e w' ⟨rfl, rfl⟩)
  go_ret
  exact ⟨rfl, rfl⟩
theorem s_l04Size (x : Int) (w : World) :
    Calls Try.prog 20 #[.int .i64 x] w fun e w' => e = .returned (.bool (inR x 0 512)) ∧ w = w' := by
  go_enter Try.func20, Try.ntmps20
  go_wp2_with (go_at_call 22; refine (s_l01In _ _ _ _).mono ?_; rintro e w' ⟨rfl, rfl⟩)
  go_ret
  exact ⟨rfl, rfl⟩
/-- How often NodeHash is made for n leaves. -/
def nodesMade (n : Int) : Int := if 0 ≤ n ∧ n ≤ 512 then (if n = 0 then 0 else n - 1) else -1
theorem i_NodesMade (n : Int) (w : World) :
    Calls Try.prog 18 #[.int .i64 n] w fun e w' => e = .returned (.int .i64 (nodesMade n)) ∧ w = w' := by
  unfold nodesMade
  by_cases hl : 0 ≤ n ∧ n ≤ 512
  · have hin := inR_true hl.1 hl.2
    rw [if_pos hl]
    obtain ⟨h2, h3⟩ := hl
    by_cases hz : n = 0
    · subst hz
      go_enter Try.func18, Try.ntmps18
      go_wp2_with (go_at_call 21; refine (i_isSize _ _).mono ?_; rintro e w2 ⟨rfl, rfl⟩)
      go_ret
      exact ⟨rfl, rfl⟩
    · rw [if_neg hz]
      have h4 : 0 ≤ n - 1 := by omega
      go_enter Try.func18, Try.ntmps18
      go_wp2_with (go_at_call 21; refine (i_isSize _ _).mono ?_; rintro e w2 ⟨rfl, rfl⟩)
      go_ret
      exact ⟨ret_int (by omega), rfl⟩
  · have hin : inR n 0 512 = false := by unfold inR; simp; omega
    rw [if_neg hl]
    go_enter Try.func18, Try.ntmps18
    go_wp2_with (go_at_call 21; refine (i_isSize _ _).mono ?_; rintro e w2 ⟨rfl, rfl⟩)
    go_ret
    exact ⟨rfl, rfl⟩
theorem s_NodesMade (n : Int) (w : World) :
    Calls Try.prog 17 #[.int .i64 n] w fun e w' => e = .returned (.int .i64 (nodesMade n)) ∧ w = w' := by
  unfold nodesMade
  by_cases hl : 0 ≤ n ∧ n ≤ 512
  · have hin := inR_true hl.1 hl.2
    rw [if_pos hl]
    obtain ⟨h2, h3⟩ := hl
    by_cases hz : n = 0
    · subst hz
      go_enter Try.func17, Try.ntmps17
      go_wp2_with (go_at_call 20; refine (s_l04Size _ _).mono ?_; rintro e w2 ⟨rfl, rfl⟩)
      go_ret
      exact ⟨rfl, rfl⟩
    · rw [if_neg hz]
      have hz' : (n == 0) = false := by simp; omega
      go_enter Try.func17, Try.ntmps17
      go_wp2_with (go_at_call 20; refine (s_l04Size _ _).mono ?_; rintro e w2 ⟨rfl, rfl⟩)
      go_ret
      exact ⟨rfl, rfl⟩
  · have hin : inR n 0 512 = false := by unfold inR; simp; omega
    rw [if_neg hl]
    go_enter Try.func17, Try.ntmps17
    go_wp2_with (go_at_call 20; refine (s_l04Size _ _).mono ?_; rintro e w2 ⟨rfl, rfl⟩)
    go_ret
    exact ⟨rfl, rfl⟩
end Go.Proofs.Ytgkeljmffoebeaa

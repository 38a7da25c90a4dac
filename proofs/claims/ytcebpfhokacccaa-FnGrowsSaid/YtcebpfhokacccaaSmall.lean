/-
  The walks of the smallest functions: ranges of a number, Constant.
-/
import Derived.Test.YtcebpfhokacccaaPlain
import Derived.Test.YtcebpfhokacccaaRows
import Derived.WalkKit
import Derived.WalkLawsBesides
import Derived.WalkSpells
namespace Go.Proofs.Ytcebpfhokacccaa
set_option linter.unusedVariables false
open Go.RowKit

/-- Is x from a to b? -/
def inR (x a b : Int) : Bool := decide (a ≤ x) && decide (x ≤ b)
theorem inR_true {x a b : Int} (h1 : a ≤ x) (h2 : x ≤ b) : inR x a b = true := by simp [inR, h1, h2]
theorem inR_lo {x a b : Int} (h1 : x < a) : inR x a b = false := by simp [inR]; omega
theorem inR_hi {x a b : Int} (h1 : b < x) : inR x a b = false := by simp [inR]; omega

theorem i_inRange (x a b : Int) (w : World) :
    Calls Try.prog 36 #[.int .i64 x, .int .i64 a, .int .i64 b] w fun e w' => e = .returned (.bool (inR x a b)) ∧ w = w' := by
  by_cases h1 : a ≤ x
  · by_cases h2 : x ≤ b
    · rw [inR_true h1 h2]
      go_enter Try.func36, Try.ntmps36
      go_wp2
      go_ret
      exact ⟨rfl, rfl⟩
    · rw [inR_hi (by omega)]
      go_enter Try.func36, Try.ntmps36
      go_wp2
      go_ret
      exact ⟨rfl, rfl⟩
  · rw [inR_lo (by omega)]
    go_enter Try.func36, Try.ntmps36
    go_wp2
    go_ret
    exact ⟨rfl, rfl⟩
theorem s_l01In (x a b : Int) (w : World) :
    Calls Try.prog 50 #[.int .i64 x, .int .i64 a, .int .i64 b] w fun e w' => e = .returned (.bool (inR x a b)) ∧ w = w' := by
  by_cases h1 : a ≤ x
  · by_cases h2 : x ≤ b
    · rw [inR_true h1 h2]
      go_enter Try.func50, Try.ntmps50
      go_wp2
      go_ret
      exact ⟨rfl, rfl⟩
    · rw [inR_hi (by omega)]
      go_enter Try.func50, Try.ntmps50
      go_wp2
      go_ret
      exact ⟨rfl, rfl⟩
  · rw [inR_lo (by omega)]
    go_enter Try.func50, Try.ntmps50
    go_wp2
    go_ret
    exact ⟨rfl, rfl⟩
theorem i_isSize (x : Int) (w : World) :
    Calls Try.prog 31 #[.int .i64 x] w fun e w' => e = .returned (.bool (inR x 0 512)) ∧ w = w' := by
  go_enter Try.func31, Try.ntmps31
  go_wp2_with (go_at_call 36; refine (i_inRange _ _ _ _).mono ?_; rintro e w' ⟨rfl, rfl⟩)
  go_ret
  exact ⟨rfl, rfl⟩
end Go.Proofs.Ytcebpfhokacccaa

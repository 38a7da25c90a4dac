/-
  The walks of FeedOk, and of the laws' helpers on feeds.
-/
import Derived.Test.YtcebpfhokacccaaLibU
import Derived.Test.YtcebpfhokacccaaSmall
import Derived.Outline
import Derived.Deep.RegionWith
namespace Go.Proofs.Ytcebpfhokacccaa
set_option linter.unusedVariables false
open Go.RowKit

/-- FeedOk, of a feed whose state has n words. -/
def feedOk (w t : Int) (n : Nat) (r : ByteArray) (c : Int) : Bool := inR w 1 32 && inR t 0 255 && decide (n = 8) && inR c 0 4000 && ((r.size : Int) == c % 64)

theorem i_isWidth (x : Int) (w : World) :
    Calls Try.prog 30 #[.int .i64 x] w fun e w' => e = .returned (.bool (inR x 1 32)) ∧ w = w' := by
  go_enter Try.func30, Try.ntmps30
  go_wp2_with (go_at_call 36; refine (i_inRange _ _ _ _).mono ?_; rintro e w' ⟨rfl, rfl⟩)
  go_ret
  exact ⟨rfl, rfl⟩
theorem i_isTag (x : Int) (w : World) :
    Calls Try.prog 52 #[.int .i64 x] w fun e w' => e = .returned (.bool (inR x 0 255)) ∧ w = w' := by
  go_enter Try.func52, Try.ntmps52
  go_wp2_with (go_at_call 36; refine (i_inRange _ _ _ _).mono ?_; rintro e w' ⟨rfl, rfl⟩)
  go_ret
  exact ⟨rfl, rfl⟩
theorem s_l02Width (x : Int) (w : World) :
    Calls Try.prog 43 #[.int .i64 x] w fun e w' => e = .returned (.bool (inR x 1 32)) ∧ w = w' := by
  go_enter Try.func43, Try.ntmps43
  go_wp2_with (go_at_call 50; refine (s_l01In _ _ _ _).mono ?_; rintro e w' ⟨rfl, rfl⟩)
  go_ret
  exact ⟨rfl, rfl⟩
end Go.Proofs.Ytcebpfhokacccaa

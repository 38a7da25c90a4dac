/-
  The walks of FeedOk, and of the laws' helpers on feeds.
-/
import Derived.Test.YtmcaglkbohoclaaLibU
import Derived.Test.YtmcaglkbohoclaaSmall
import Derived.Outline
import Derived.Deep.RegionWith
namespace Go.Proofs.Ytmcaglkbohoclaa
set_option linter.unusedVariables false
open Go.RowKit

/-- FeedOk, of a feed whose state has n words. -/
def feedOk (w t : Int) (n : Nat) (r : ByteArray) (c : Int) : Bool := inR w 1 32 && inR t 0 255 && decide (n = 8) && inR c 0 4000 && ((r.size : Int) == c % 64)

theorem i_isWidth (x : Int) (w : World) :
    Calls Try.prog 50 #[.int .i64 x] w fun e w' => e = .returned (.bool (inR x 1 32)) ∧ w = w' := by
  go_enter Try.func50, Try.ntmps50
  go_wp2_with (go_at_call 65; refine (i_inRange _ _ _ _).mono ?_; rintro e w' ⟨rfl, rfl⟩)
  go_ret
  exact ⟨rfl, rfl⟩
theorem i_isTag (x : Int) (w : World) :
    Calls Try.prog 75 #[.int .i64 x] w fun e w' => e = .returned (.bool (inR x 0 255)) ∧ w = w' := by
  go_enter Try.func75, Try.ntmps75
  go_wp2_with (go_at_call 65; refine (i_inRange _ _ _ _).mono ?_; rintro e w' ⟨rfl, rfl⟩)
  go_ret
  exact ⟨rfl, rfl⟩
theorem s_l02Width (x : Int) (w : World) :
    Calls Try.prog 45 #[.int .i64 x] w fun e w' => e = .returned (.bool (inR x 1 32)) ∧ w = w' := by
  go_enter Try.func45, Try.ntmps45
  go_wp2_with (go_at_call 33; refine (s_l01In _ _ _ _).mono ?_; rintro e w' ⟨rfl, rfl⟩)
  go_ret
  exact ⟨rfl, rfl⟩
end Go.Proofs.Ytmcaglkbohoclaa

/-
  The walks of FeedOk, and of the laws' helpers on feeds.
-/
import Derived.Test.YtceeaejhlpdalaaLibU
import Derived.Test.YtceeaejhlpdalaaSmall
import Derived.Outline
import Derived.Deep.RegionWith
namespace Go.Proofs.Ytceeaejhlpdalaa
set_option linter.unusedVariables false
open Go.RowKit

/-- FeedOk, of a feed whose state has n words. -/
def feedOk (w t : Int) (n : Nat) (r : ByteArray) (c : Int) : Bool := inR w 1 32 && inR t 0 255 && decide (n = 8) && inR c 0 4000 && ((r.size : Int) == c % 64)

theorem i_isWidth (x : Int) (w : World) :
    Calls Try.prog 20 #[.int .i64 x] w fun e w' => e = .returned (.bool (inR x 1 32)) ∧ w = w' := by
  go_enter Try.func20, Try.ntmps20
  go_wp2_with (go_at_call 26; refine (i_inRange _ _ _ _).mono ?_; rintro e w' ⟨rfl, rfl⟩)
  go_ret
  exact ⟨rfl, rfl⟩
theorem i_isTag (x : Int) (w : World) :
    Calls Try.prog 21 #[.int .i64 x] w fun e w' => e = .returned (.bool (inR x 0 255)) ∧ w = w' := by
  go_enter Try.func21, Try.ntmps21
  go_wp2_with (go_at_call 26; refine (i_inRange _ _ _ _).mono ?_; rintro e w' ⟨rfl, rfl⟩)
  go_ret
  exact ⟨rfl, rfl⟩
set_option maxHeartbeats 1000000 in
theorem i_FeedOk (a b : Int) (A : Option Addr) (n c : Nat) (r : ByteArray) (d : Int) (w : World) :
    Calls Try.prog 15 #[.agg #[.int .i64 a, .int .i64 b, .slice A n c, .string r, .int .i64 d]] w fun e w' => e = .returned (.bool (feedOk a b n r d)) ∧ w.alloc (.cells #[.int .i64 a, .int .i64 b, .slice A n c, .string r, .int .i64 d] 35) = w' := by
  have h3 : (n = 8 ∧ ((n : Int) == 8) = true ∧ ((n : Int) != 8) = false) ∨ (¬ n = 8 ∧ ((n : Int) == 8) = false ∧ ((n : Int) != 8) = true) := by
    by_cases h : n = 8
    · exact .inl ⟨h, by simp [h], by simp [h]⟩
    · exact .inr ⟨h, by simp; omega, by simp; omega⟩
  have h4 : (inR d 0 4000 = true ∧ 0 ≤ d ∧ d ≤ 4000) ∨ inR d 0 4000 = false := by
    by_cases h : 0 ≤ d ∧ d ≤ 4000
    · exact .inl ⟨inR_true h.1 h.2, h⟩
    · exact .inr (by unfold inR; simp; omega)
  cases h1 : inR a 1 32 <;> cases h2 : inR b 0 255
  all_goals rcases h3 with ⟨g1, g2, g3⟩ | ⟨g1, g2, g3⟩
  all_goals rcases h4 with ⟨k1, k2, k3⟩ | k1
  all_goals
    have G1 := hide g1
    clear g1
    go_enter Try.func15, Try.ntmps15
    go_wp2_with (first | (go_at_call 20; refine (i_isWidth _ _).mono ?_; rintro e w1 ⟨rfl, rfl⟩) | (go_at_call 21; refine (i_isTag _ _).mono ?_; rintro e w1 ⟨rfl, rfl⟩) | (go_at_call 26; refine (i_inRange _ _ _ _).mono ?_; rintro e w1 ⟨rfl, rfl⟩))
    go_ret
    exact ⟨ret_bool (by simp [feedOk, h1, h2, G1.out, k1]), rfl⟩
end Go.Proofs.Ytceeaejhlpdalaa

/-
  The walks of FeedOk, and of the laws' helpers on feeds.
-/
import Derived.Test.YticpedlcfakaeaaLibU
import Derived.Test.YticpedlcfakaeaaSmall
import Derived.Outline
import Derived.Deep.RegionWith
namespace Go.Proofs.Yticpedlcfakaeaa
set_option linter.unusedVariables false
open Go.RowKit

/-- FeedOk, of a feed whose state has n words. -/
def feedOk (w t : Int) (n : Nat) (r : ByteArray) (c : Int) : Bool := inR w 1 32 && inR t 0 255 && decide (n = 8) && inR c 0 4000 && ((r.size : Int) == c % 64)

theorem i_isWidth (x : Int) (w : World) :
    Calls Try.prog 86 #[.int .i64 x] w fun e w' => e = .returned (.bool (inR x 1 32)) ∧ w = w' := by
  go_enter Try.func86, Try.ntmps86
  go_wp2_with (go_at_call 95; refine (i_inRange _ _ _ _).mono ?_; rintro e w' ⟨rfl, rfl⟩)
  go_ret
  exact ⟨rfl, rfl⟩
theorem i_isTag (x : Int) (w : World) :
    Calls Try.prog 107 #[.int .i64 x] w fun e w' => e = .returned (.bool (inR x 0 255)) ∧ w = w' := by
  go_enter Try.func107, Try.ntmps107
  go_wp2_with (go_at_call 95; refine (i_inRange _ _ _ _).mono ?_; rintro e w' ⟨rfl, rfl⟩)
  go_ret
  exact ⟨rfl, rfl⟩
theorem s_l02Width (x : Int) (w : World) :
    Calls Try.prog 84 #[.int .i64 x] w fun e w' => e = .returned (.bool (inR x 1 32)) ∧ w = w' := by
  go_enter Try.func84, Try.ntmps84
  go_wp2_with (go_at_call 66; refine (s_l01In _ _ _ _).mono ?_; rintro e w' ⟨rfl, rfl⟩)
  go_ret
  exact ⟨rfl, rfl⟩
set_option maxHeartbeats 400000 in
theorem l_eqFeed (a b : Int) (zs : List Int) (A A' : Option Addr) (c c' L H L' H' : Nat) (r : ByteArray) (d : Int) (w : World) (h : Rd w L H A (ints .u32 zs)) (h' : Rd w L' H' A' (ints .u32 zs)) (hn : zs.length ≤ 9223372036854775807) :
    Calls Try.prog 44 #[.agg #[.int .i64 a, .int .i64 b, .slice A zs.length c, .string r, .int .i64 d], .agg #[.int .i64 a, .int .i64 b, .slice A' zs.length c', .string r, .int .i64 d]] w fun e w' => e = .returned (.bool true) ∧ ∃ o1 o2 n, ((w.alloc o1).alloc o2).drewN n = w' := by
  have H1 := hide h
  have H2 := hide h'
  clear h h'
  go_enter Try.func44, Try.ntmps44
  go_wp2_with (go_at_call 17; refine (l_eqUint32S zs A A' c c' L H L' H' _ (by repeat (first | exact H1.out | apply Rd.alloc)) (by repeat (first | exact H2.out | apply Rd.alloc)) hn).mono ?_; rintro e w1 ⟨rfl, n1, rfl⟩)
  go_ret
  exact ⟨rfl, _, _, _, rfl⟩
end Go.Proofs.Yticpedlcfakaeaa

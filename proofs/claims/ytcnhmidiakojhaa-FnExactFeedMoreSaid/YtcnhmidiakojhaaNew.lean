/-
  The walks of FeedNew, and of the laws' helpers that mark feeds.
-/
import Derived.Test.YtcnhmidiakojhaaFeed
import Derived.Test.YtcnhmidiakojhaaStart
namespace Go.Proofs.Ytcnhmidiakojhaa
set_option linter.unusedVariables false
open Go.RowKit

def newOk (a t : Int) : Bool := inR t 0 255 && inR a 1 32
def newSt (a t : Int) : List Int := if newOk a t then startI t else []
def newN (a t x : Int) : Int := if newOk a t then x else 0
theorem newSt_len (a t : Int) : (newSt a t).length ≤ 8 := by
  unfold newSt
  split
  · exact startI_len t
  · simp
set_option maxHeartbeats 400000 in
theorem l_markFeed (k a b : Int) (zs : List Int) (A : Option Addr) (c B C : Nat) (r : ByteArray) (d : Int) (w : World) (h : Own w B C 60 (.slice A zs.length c) (ints .u32 zs)) (hC : C ≤ w.heap.size) (hk : 0 ≤ k) (hn : k + zs.length ≤ 4294967295) :
    Calls Try.prog 15 #[.agg #[.int .i64 a, .int .i64 b, .slice A zs.length c, .string r, .int .i64 d], .int .i64 k] w fun e w' => e = .returned (.int .i64 (k + zs.length)) ∧ Chg B C w w' ∧ Own w' B C 60 (.slice A zs.length c) (ints .u32 (marksU k zs.length)) ∧ w'.heap.size = w.heap.size + 1 := by
  have H1 := hide h
  clear h
  go_enter Try.func15, Try.ntmps15
  go_wp2_with (go_at_call 41; refine (l_markUint32S k zs B C _ _ (H1.out.alloc _) hk hn).mono ?_; rintro e w1 ⟨rfl, hc1, ho1, hs1⟩)
  go_ret
  exact ⟨rfl, ((Chg.refl _ _ _).alloc _).trans hc1, ho1, by rw [hs1]; simp⟩
set_option maxHeartbeats 400000 in
theorem l_heldFeed (k a b : Int) (n : Nat) (A : Option Addr) (c L H : Nat) (r : ByteArray) (d : Int) (w : World) (h : Rd w L H A (ints .u32 (marksU k n))) (hk : 0 ≤ k) (hn : k + n ≤ 4294967295) :
    Calls Try.prog 16 #[.agg #[.int .i64 a, .int .i64 b, .slice A n c, .string r, .int .i64 d], .int .i64 k] w fun e w' => e = .returned (.int .i64 (k + n)) ∧ ∃ o n, (w.alloc o).drewN n = w' := by
  have H1 := hide h
  clear h
  go_enter Try.func16, Try.ntmps16
  go_wp2_with (go_at_call 42; refine (l_heldUint32S k n A c L H _ (H1.out.alloc _) hk hn).mono ?_; rintro e w1 ⟨rfl, n1, rfl⟩)
  go_ret
  exact ⟨rfl, _, _, rfl⟩
end Go.Proofs.Ytcnhmidiakojhaa

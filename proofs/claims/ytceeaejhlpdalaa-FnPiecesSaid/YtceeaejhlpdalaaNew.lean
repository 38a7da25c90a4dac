/-
  The walks of FeedNew, and of the laws' helpers that mark feeds.
-/
import Derived.Test.YtceeaejhlpdalaaFeed
import Derived.Test.YtceeaejhlpdalaaStart
namespace Go.Proofs.Ytceeaejhlpdalaa
set_option linter.unusedVariables false
open Go.RowKit

def newOk (a t : Int) : Bool := inR t 0 255 && inR a 1 32
def newSt (a t : Int) : List Int := if newOk a t then startI t else []
def newN (a t x : Int) : Int := if newOk a t then x else 0
theorem newSt_len (a t : Int) : (newSt a t).length ≤ 8 := by
  unfold newSt
  split
  · exact startI_len t
  · simp
set_option maxHeartbeats 1000000 in
theorem i_FeedNew (a t : Int) (w : World) :
    Calls Try.prog 12 #[.int .i64 a, .int .i64 t] w fun e w' => ∃ A c, e = .returned (.tuple #[.agg #[.int .i64 (newN a t a), .int .i64 (newN a t t), .slice A (newSt a t).length c, .string ⟨#[]⟩, .int .i64 0], .bool (newOk a t)]) ∧ Below w.heap.size w w' ∧ Own w' w.heap.size w'.heap.size 47 (.slice A (newSt a t).length c) (ints .u32 (newSt a t)) := by
  cases h1 : inR t 0 255 <;> cases h2 : inR a 1 32
  case true.true =>
    have e0 : newOk a t = true := by simp [newOk, h1, h2]
    have e1 : newSt a t = startI t := by simp [newSt, e0]
    have e2 : newN a t a = a := by simp [newN, e0]
    have e3 : newN a t t = t := by simp [newN, e0]
    rw [e0, e1, e2, e3]
    clear e0 e1 e2 e3
    go_enter Try.func12, Try.ntmps12
    go_wp2_with (first | (go_at_call 29; refine (i_StartOf _ _).mono ?_; rintro e w1 ⟨A1, c1, rfl, hb1, ho1⟩; obtain ⟨hc, hf⟩ := bcell hb1; have hz : w.heap.size < w1.heap.size := by (have := hb1.size; simp at this; omega)) | (go_at_call 20; refine (i_isWidth _ _).mono ?_; rintro e w2 ⟨rfl, rfl⟩))
    simp only [World.size_alloc] at ho1
    refine bodyPost_ret (v := .tuple #[.agg #[.int .i64 a, .int .i64 t, .slice A1 (startI t).length c1, .string ⟨#[]⟩, .int .i64 0], .bool true]) (by simp [results, Try.results12, go_sem, hc]) rfl ⟨A1, c1, rfl, ?_, ?_⟩
    · repeat (first | with_reducible refine Below.setCell ?_ (by (try simp); (try omega)) _ | with_reducible refine bel_new ?_ hb1 (by (try simp); (try omega)) | with_reducible refine Below.alloc ?_ (by (try simp); (try omega)) _ | with_reducible exact Below.refl _ _)
    · refine Own.top (C := w1.heap.size) (Own.wide (B := w.heap.size + 1) (C := w1.heap.size) ?_ (by omega) (Nat.le_refl _))
      repeat (first | with_reducible exact ho1 | with_reducible refine Own.setCell ?_ (.inl (by simp)) _)
  all_goals
    have e0 : newOk a t = false := by simp [newOk, h1, h2]
    have e1 : newSt a t = [] := by simp [newSt, e0]
    have e2 : newN a t a = 0 := by simp [newN, e0]
    have e3 : newN a t t = 0 := by simp [newN, e0]
    rw [e0, e1, e2, e3]
    clear e0 e1 e2 e3
    go_enter Try.func12, Try.ntmps12
    go_wp2_with (first | (go_at_call 29; refine (i_StartOf _ _).mono ?_; rintro e w1 ⟨A1, c1, rfl, hb1, ho1⟩; obtain ⟨hc, hf⟩ := bcell hb1; have hz : w.heap.size < w1.heap.size := by (have := hb1.size; simp at this; omega)) | (go_at_call 20; refine (i_isWidth _ _).mono ?_; rintro e w2 ⟨rfl, rfl⟩))
    refine bodyPost_ret (v := .tuple #[.agg #[.int .i64 0, .int .i64 0, .slice none 0 0, .string ⟨#[]⟩, .int .i64 0], .bool false]) (by simp [results, Try.results12, go_sem, hc]) rfl ⟨none, 0, rfl, ?_, Own.nil _ _ _ _⟩
    repeat (first | with_reducible refine Below.setCell ?_ (by (try simp); (try omega)) _ | with_reducible refine bel_new ?_ hb1 (by (try simp); (try omega)) | with_reducible refine Below.alloc ?_ (by (try simp); (try omega)) _ | with_reducible exact Below.refl _ _)
end Go.Proofs.Ytceeaejhlpdalaa

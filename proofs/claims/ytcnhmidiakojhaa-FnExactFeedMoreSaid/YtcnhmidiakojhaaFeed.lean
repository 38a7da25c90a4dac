/-
  The walks of FeedOk, and of the laws' helpers on feeds.
-/
import Derived.Test.YtcnhmidiakojhaaLibU
import Derived.Test.YtcnhmidiakojhaaSmall
import Derived.Outline
import Derived.Deep.RegionWith
namespace Go.Proofs.Ytcnhmidiakojhaa
set_option linter.unusedVariables false
open Go.RowKit

/-- FeedOk, of a feed whose state has n words. -/
def feedOk (w t : Int) (n : Nat) (r : ByteArray) (c : Int) : Bool := inR w 1 32 && inR t 0 255 && decide (n = 8) && inR c 0 4000 && ((r.size : Int) == c % 64)

theorem i_isWidth (x : Int) (w : World) :
    Calls Try.prog 47 #[.int .i64 x] w fun e w' => e = .returned (.bool (inR x 1 32)) ∧ w = w' := by
  go_enter Try.func47, Try.ntmps47
  go_wp2_with (go_at_call 60; refine (i_inRange _ _ _ _).mono ?_; rintro e w' ⟨rfl, rfl⟩)
  go_ret
  exact ⟨rfl, rfl⟩
theorem i_isTag (x : Int) (w : World) :
    Calls Try.prog 48 #[.int .i64 x] w fun e w' => e = .returned (.bool (inR x 0 255)) ∧ w = w' := by
  go_enter Try.func48, Try.ntmps48
  go_wp2_with (go_at_call 60; refine (i_inRange _ _ _ _).mono ?_; rintro e w' ⟨rfl, rfl⟩)
  go_ret
  exact ⟨rfl, rfl⟩
theorem s_l02Width (x : Int) (w : World) :
    Calls Try.prog 45 #[.int .i64 x] w fun e w' => e = .returned (.bool (inR x 1 32)) ∧ w = w' := by
  go_enter Try.func45, Try.ntmps45
  go_wp2_with (go_at_call 57; refine (s_l01In _ _ _ _).mono ?_; rintro e w' ⟨rfl, rfl⟩)
  go_ret
  exact ⟨rfl, rfl⟩
theorem l_szUint32S_in (A : Option Addr) (n c : Nat) (l : Int) (h : (n : Int) ≤ l) (h2 : l ≤ 1048576) (w : World) :
    Calls Try.prog 33 #[.slice A n c, .int .i64 l] w fun e w' => e = .returned (.int .i64 (l - n)) ∧ w = w' := by
  have g : 0 ≤ l - n := by omega
  go_enter Try.func33, Try.ntmps33
  go_wp2
  go_ret
  exact ⟨rfl, rfl⟩
theorem l_szUint32S_out (A : Option Addr) (n c : Nat) (l : Int) (h : l < (n : Int)) (h0 : 0 ≤ l) (h2 : l ≤ 1048576) (hn : n ≤ 9223372036854775807) (w : World) :
    Calls Try.prog 33 #[.slice A n c, .int .i64 l] w fun e w' => e = .returned (.int .i64 (-1)) ∧ w = w' := by
  have g : l - n < 0 := by omega
  go_enter Try.func33, Try.ntmps33
  go_wp2
  go_ret
  exact ⟨rfl, rfl⟩
theorem l_szFeed_in (a b : Int) (A : Option Addr) (n c : Nat) (r : ByteArray) (d l : Int) (hl : (n : Int) + r.size ≤ l) (h2 : l ≤ 1048576) (w : World) :
    Calls Try.prog 10 #[.agg #[.int .i64 a, .int .i64 b, .slice A n c, .string r, .int .i64 d], .int .i64 l] w fun e w' => e = .returned (.int .i64 (l - n - r.size)) ∧ w.alloc (.cells #[.int .i64 a, .int .i64 b, .slice A n c, .string r, .int .i64 d] 24) = w' := by
  have g1 : 0 ≤ l - n := by omega
  have g2 : 0 ≤ l - n - r.size := by omega
  go_enter Try.func10, Try.ntmps10
  go_wp2_with (go_at_call 33; refine (l_szUint32S_in _ _ _ _ (by omega) (by omega) _).mono ?_; rintro e w' ⟨rfl, rfl⟩)
  go_ret
  exact ⟨rfl, rfl⟩
theorem l_szFeed_out (a b : Int) (A : Option Addr) (n c : Nat) (r : ByteArray) (d l : Int) (hl : l < (n : Int) + r.size) (h0 : 0 ≤ l) (h2 : l ≤ 1048576) (hn : n ≤ 9223372036854775807) (hr : r.size ≤ 9223372036854775807) (w : World) :
    Calls Try.prog 10 #[.agg #[.int .i64 a, .int .i64 b, .slice A n c, .string r, .int .i64 d], .int .i64 l] w fun e w' => e = .returned (.int .i64 (-1)) ∧ w.alloc (.cells #[.int .i64 a, .int .i64 b, .slice A n c, .string r, .int .i64 d] 24) = w' := by
  by_cases g1 : l < (n : Int)
  · go_enter Try.func10, Try.ntmps10
    go_wp2_with (go_at_call 33; refine (l_szUint32S_out _ _ _ _ g1 h0 (by omega) hn _).mono ?_; rintro e w' ⟨rfl, rfl⟩)
    go_ret
    exact ⟨rfl, rfl⟩
  · have g2 : l - n - r.size < 0 := by omega
    have g3 : 0 ≤ l - n := by omega
    go_enter Try.func10, Try.ntmps10
    go_wp2_with (go_at_call 33; refine (l_szUint32S_in _ _ _ _ (by omega) (by omega) _).mono ?_; rintro e w' ⟨rfl, rfl⟩)
    go_ret
    exact ⟨rfl, rfl⟩
set_option maxHeartbeats 400000 in
theorem l_toFeed (a b : Int) (zs : List Int) (A : Option Addr) (c L H : Nat) (r : ByteArray) (d : Int) (w : World) (h : Rd w L H A (ints .u32 zs)) (hn : zs.length ≤ 1048576) :
    Calls Try.prog 12 #[.agg #[.int .i64 a, .int .i64 b, .slice A zs.length c, .string r, .int .i64 d]] w fun e w' => ∃ A' c', e = .returned (.agg #[.int .i64 a, .int .i64 b, .slice A' zs.length c', .string r, .int .i64 d]) ∧ Below w.heap.size w w' ∧ Own w' w.heap.size w'.heap.size 60 (.slice A' zs.length c') (ints .u32 zs) := by
  have H1 := hide h
  clear h
  go_enter Try.func12, Try.ntmps12
  go_wp2_with (go_at_call 36; refine (l_toUint32S zs A c L H _ (by repeat (first | exact H1.out | apply Rd.alloc)) hn).mono ?_; rintro e w1 ⟨A1, c1, rfl, hb1, ho1⟩; obtain ⟨hc, hf⟩ := bcell hb1; have hz : w.heap.size + 2 < w1.heap.size := by (have := hb1.size; simp at this; omega))
  simp only [World.size_alloc] at ho1
  refine bodyPost_ret (v := .agg #[.int .i64 a, .int .i64 b, .slice A1 zs.length c1, .string r, .int .i64 d]) (by simp [results, Try.results12, go_sem, hc]) rfl ⟨A1, c1, rfl, ?_, ?_⟩
  · repeat (first | with_reducible refine Below.setCell ?_ (by (try simp); (try omega)) _ | with_reducible refine bel_new ?_ hb1 (by (try simp); (try omega)) | with_reducible refine Below.alloc ?_ (by (try simp); (try omega)) _ | with_reducible exact Below.refl _ _)
  · refine Own.top (C := w1.heap.size) (Own.wide (B := w.heap.size + 1 + 1 + 1) (C := w1.heap.size) ?_ (by omega) (Nat.le_refl _))
    repeat (first | with_reducible exact ho1 | with_reducible refine Own.setCell ?_ (.inl (by simp)) _)
set_option maxHeartbeats 1000000 in
theorem i_FeedOk (a b : Int) (A : Option Addr) (n c : Nat) (r : ByteArray) (d : Int) (w : World) :
    Calls Try.prog 37 #[.agg #[.int .i64 a, .int .i64 b, .slice A n c, .string r, .int .i64 d]] w fun e w' => e = .returned (.bool (feedOk a b n r d)) ∧ w.alloc (.cells #[.int .i64 a, .int .i64 b, .slice A n c, .string r, .int .i64 d] 26) = w' := by
  have h3 : (n = 8 ∧ ((n : Int) == 8) = true ∧ ((n : Int) != 8) = false) ∨ (¬ n = 8 ∧ ((n : Int) == 8) = false ∧ ((n : Int) != 8) = true) := by
    by_cases h : n = 8
    · exact .inl ⟨h, by simp [h], by simp [h]⟩
    · exact .inr ⟨h, by simp; omega, by simp; omega⟩
  have h4 : (inR d 0 4000 = true ∧ 0 ≤ d ∧ d ≤ 4000) ∨ inR d 0 4000 = false := by
    by_cases h : 0 ≤ d ∧ d ≤ 4000
    · exact .inl ⟨inR_true h.1 h.2, h⟩
    · exact .inr (by unfold inR; simp; omega)
  cases h1 : inR a 1 32 <;> cases h2 : inR b 0 255
  all_goals rcases h3 with ⟨g1, g2, g3⟩ | ⟨g1, g2, g3⟩
  all_goals rcases h4 with ⟨k1, k2, k3⟩ | k1
  all_goals
    have G1 := hide g1
    clear g1
    go_enter Try.func37, Try.ntmps37
    go_wp2_with (first | (go_at_call 47; refine (i_isWidth _ _).mono ?_; rintro e w1 ⟨rfl, rfl⟩) | (go_at_call 48; refine (i_isTag _ _).mono ?_; rintro e w1 ⟨rfl, rfl⟩) | (go_at_call 60; refine (i_inRange _ _ _ _).mono ?_; rintro e w1 ⟨rfl, rfl⟩))
    go_ret
    exact ⟨ret_bool (by simp [feedOk, h1, h2, G1.out, k1]), rfl⟩
set_option maxHeartbeats 1000000 in
theorem s_FeedOk (a b : Int) (A : Option Addr) (n c : Nat) (r : ByteArray) (d : Int) (w : World) :
    Calls Try.prog 34 #[.agg #[.int .i64 a, .int .i64 b, .slice A n c, .string r, .int .i64 d]] w fun e w' => e = .returned (.bool (feedOk a b n r d)) ∧ w.alloc (.cells #[.int .i64 a, .int .i64 b, .slice A n c, .string r, .int .i64 d] 26) = w' := by
  have h3 : (n = 8 ∧ ((n : Int) == 8) = true ∧ ((n : Int) != 8) = false) ∨ (¬ n = 8 ∧ ((n : Int) == 8) = false ∧ ((n : Int) != 8) = true) := by
    by_cases h : n = 8
    · exact .inl ⟨h, by simp [h], by simp [h]⟩
    · exact .inr ⟨h, by simp; omega, by simp; omega⟩
  have h4 : (inR d 0 4000 = true ∧ 0 ≤ d ∧ d ≤ 4000) ∨ inR d 0 4000 = false := by
    by_cases h : 0 ≤ d ∧ d ≤ 4000
    · exact .inl ⟨inR_true h.1 h.2, h⟩
    · exact .inr (by unfold inR; simp; omega)
  cases h1 : inR a 1 32 <;> cases h2 : inR b 0 255
  all_goals rcases h3 with ⟨g1, g2, g3⟩ | ⟨g1, g2, g3⟩
  all_goals rcases h4 with ⟨k1, k2, k3⟩ | k1
  all_goals
    have G1 := hide g1
    clear g1
    go_enter Try.func34, Try.ntmps34
    go_wp2_with (first | (go_at_call 45; refine (s_l02Width _ _).mono ?_; rintro e w1 ⟨rfl, rfl⟩) | (go_at_call 57; refine (s_l01In _ _ _ _).mono ?_; rintro e w1 ⟨rfl, rfl⟩))
    go_ret
    exact ⟨ret_bool (by simp [feedOk, h1, h2, G1.out, k1]), rfl⟩
set_option maxHeartbeats 400000 in
theorem l_eqFeed (a b : Int) (zs : List Int) (A A' : Option Addr) (c c' L H L' H' : Nat) (r : ByteArray) (d : Int) (w : World) (h : Rd w L H A (ints .u32 zs)) (h' : Rd w L' H' A' (ints .u32 zs)) (hn : zs.length ≤ 9223372036854775807) :
    Calls Try.prog 14 #[.agg #[.int .i64 a, .int .i64 b, .slice A zs.length c, .string r, .int .i64 d], .agg #[.int .i64 a, .int .i64 b, .slice A' zs.length c', .string r, .int .i64 d]] w fun e w' => e = .returned (.bool true) ∧ ∃ o1 o2 n, ((w.alloc o1).alloc o2).drewN n = w' := by
  have H1 := hide h
  have H2 := hide h'
  clear h h'
  go_enter Try.func14, Try.ntmps14
  go_wp2_with (go_at_call 40; refine (l_eqUint32S zs A A' c c' L H L' H' _ (by repeat (first | exact H1.out | apply Rd.alloc)) (by repeat (first | exact H2.out | apply Rd.alloc)) hn).mono ?_; rintro e w1 ⟨rfl, n1, rfl⟩)
  go_ret
  exact ⟨rfl, _, _, _, rfl⟩
end Go.Proofs.Ytcnhmidiakojhaa

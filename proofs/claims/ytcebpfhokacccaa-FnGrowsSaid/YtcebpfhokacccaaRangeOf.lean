/-
  The walks of RangeOf where it takes, and of the laws' comparisons of ranges.
-/
import Derived.Test.YtcebpfhokacccaaGrowOf
namespace Go.Proofs.Ytcebpfhokacccaa
set_option linter.unusedVariables false
open Go.RowKit

theorem i_GrowAll0 (wd : Nat) (h1 : 1 ≤ wd) (h32 : wd ≤ 32) (zs : List ByteArray) (A : Option Addr) (c L H : Nat) (w : World) (hn : zs.length ≤ 512) (hz : ∀ s ∈ zs, s.size = wd) (hR : Rd w L H A (strs zs)) :
    Calls Try.prog 9 #[.int .i64 (wd : Int), .agg #[.int .i64 0, .slice none 0 0], .slice A zs.length c] w fun e w' => ∃ T k, e = .returned (.tuple #[.agg #[.int .i64 (zs.length : Int), .slice T (grownW wd 0 [] zs).length k], .int .i64 (madeP 0 zs : Int), .bool true]) ∧ Below w.heap.size w w' ∧ Own w' w.heap.size w'.heap.size 9 (.slice T (grownW wd 0 [] zs).length k) (strs (grownW wd 0 [] zs)) := by
  have := i_GrowAll wd 0 h1 h32 [] none 0 0 0 zs A c L H w (by omega) hz hR rfl (fun s hs => by simp at hs) (Rd.nil _ _ _ _)
  rw [Nat.zero_add] at this
  exact this
set_option maxHeartbeats 1000000 in
theorem i_RangeOf (wd : Nat) (h1 : 1 ≤ wd) (h32 : wd ≤ 32) (zs : List ByteArray) (A : Option Addr) (c L H : Nat) (w : World) (hn : zs.length ≤ 512) (hz : ∀ s ∈ zs, s.size = wd) (hR : Rd w L H A (strs zs)) :
    Calls Try.prog 13 #[.int .i64 (wd : Int), .slice A zs.length c] w fun e w' => ∃ T k, e = .returned (.tuple #[.agg #[.int .i64 (zs.length : Int), .slice T (grownW wd 0 [] zs).length k], .bool true]) ∧ Below w.heap.size w w' ∧ Own w' w.heap.size w'.heap.size 9 (.slice T (grownW wd 0 [] zs).length k) (strs (grownW wd 0 [] zs)) := by
  have CG := hide (i_GrowAll0 wd h1 h32 zs A c L H (w.alloc (.cells #[.int .i64 0, .slice none 0 0] 31)) hn hz (hR.alloc _))
  generalize grownW wd 0 [] zs = G at *
  generalize madeP 0 zs = md at *
  clear hR hz hn
  go_enter Try.func13, Try.ntmps13
  go_wp2_with fail
  refine (CG.out).mono ?_
  rintro e w1 ⟨T, k, rfl, hb1, ho1⟩
  have AZ := hide ((Arr.new w [.int .i64 0, .slice none 0 0] 31).below hb1)
  have B1 := hide (((Below.refl w.heap.size w).alloc (Nat.le_refl _) (.cells #[.int .i64 0, .slice none 0 0] 31)).trans (hb1.mono (by simp)))
  have O1 := hide ho1
  have L1 := AZ.out.lt
  clear hb1 ho1
  have z0 : w1.cell? ⟨w.heap.size, 0, none⟩ = some (.int .i64 0) := AZ.out.cell (k := 0) (by simp)
  have z1 : w1.cell? ⟨w.heap.size, 1, none⟩ = some (.slice none 0 0) := AZ.out.cell (k := 1) (by simp)
  have y0 := AZ.out.free 0
  have y1 := AZ.out.free 1
  go_wp2
  obtain ⟨Z, hZ⟩ : ∃ Z, ((w1.setCell ⟨w.heap.size, 0, none⟩ (.int .i64 (zs.length : Int))).setCell ⟨w.heap.size, 1, none⟩ (.slice T G.length k)).alloc (.cells #[.int .i64 (zs.length : Int), .slice T G.length k] 31) = Z := ⟨_, rfl⟩
  have A2 : Arr Z w.heap.size 31 [.int .i64 (zs.length : Int), .slice T G.length k] := hZ ▸ ((AZ.out.set_ 0 (.int .i64 (zs.length : Int))).set_ 1 (.slice T G.length k)).alloc _
  have B2 : Below w.heap.size w Z := hZ ▸ ((B1.out.setCell (Nat.le_refl _) _).setCell (Nat.le_refl _) _).alloc (by simp; omega) _
  have O2 : Own Z (w.heap.size + 1) Z.heap.size 9 (.slice T G.length k) (strs G) := hZ ▸ ((((O1.out.wide (B' := w.heap.size + 1) (by simp) (Nat.le_refl _)).setCell (.inl (by simp)) _).setCell (.inl (by simp)) _).alloc _).top
  rw [hZ]
  have u0 := A2.cell (k := 0) (by simp)
  have u1 := A2.cell (k := 1) (by simp)
  simp only [List.getElem_cons_zero, List.getElem_cons_succ] at u0 u1
  refine bodyPost_ret (v := .tuple #[.agg #[.int .i64 (zs.length : Int), .slice T G.length k], .bool true]) (by simp [results, Try.results13, go_sem, u0, u1]) rfl ⟨T, k, rfl, B2, O2.wide (by omega) (Nat.le_refl _)⟩
set_option maxHeartbeats 400000 in
theorem l_sameTexts (zs : List ByteArray) (A A' : Option Addr) (c c' L H L' H' : Nat) (w : World) (h : Rd w L H A (strs zs)) (h' : Rd w L' H' A' (strs zs)) (hn : zs.length ≤ 9223372036854775807) :
    Calls Try.prog 29 #[.slice A zs.length c, .slice A' zs.length c'] w fun e w' => e = .returned (.bool true) ∧ ∃ n, w.drewN n = w' := by
  have H1 := hide h
  have H2 := hide h'
  clear h h'
  go_enter Try.func29, Try.ntmps29
  go_wp2
  go_loopw [5] (fun i wr => ∃ j : Nat, j ≤ zs.length ∧ i = .int .i64 j ∧ ∃ n, w.drewN n = wr) (fun i _ => zs.length - (intOf i).toNat)
  case atStart => exact ⟨0, Nat.zero_le _, rfl, 0, rfl⟩
  case round =>
    obtain ⟨j, hj, rfl, n, rfl⟩ := hrel
    by_cases hlt : j < zs.length
    · have hlt' : (j : Int) < (zs.length : Int) := by omega
      have hl2 : j < (strs zs).length := by rw [length_strs]; exact hlt
      obtain ⟨ad, rfl, _, _, hc⟩ := H1.out.at_ hl2
      obtain ⟨ad', rfl, _, _, hc'⟩ := H2.out.at_ hl2
      rw [strs_get] at hc hc'
      go_wp2
      go_quiet (fail)
      go_wp2
      go_roundw
      case rel => exact ⟨j + 1, by omega, by go_num, _, rfl⟩
      case measure => simp [intOf]; omega
    · go_wp2
      go_ret
      exact ⟨rfl, _, rfl⟩
set_option maxHeartbeats 400000 in
theorem l_sameRange (n : Int) (zs : List ByteArray) (A A' : Option Addr) (c c' L H L' H' : Nat) (w : World) (h : Rd w L H A (strs zs)) (h' : Rd w L' H' A' (strs zs)) (hn : zs.length ≤ 9223372036854775807) :
    Calls Try.prog 11 #[.agg #[.int .i64 n, .slice A zs.length c], .agg #[.int .i64 n, .slice A' zs.length c']] w fun e w' => e = .returned (.bool true) ∧ Below w.heap.size w w' := by
  have H1 := hide h
  have H2 := hide h'
  clear h h'
  go_enter Try.func11, Try.ntmps11
  go_wp2_with (go_at_call 29; refine (l_sameTexts zs A A' c c' L H L' H' _ ((H1.out.alloc _).alloc _) ((H2.out.alloc _).alloc _) hn).mono ?_; rintro e w1 ⟨rfl, n1, rfl⟩)
  go_ret
  exact ⟨rfl, bel_drewN (((Below.refl _ _).alloc (Nat.le_refl _) _).alloc (by simp) _) _⟩
end Go.Proofs.Ytcebpfhokacccaa

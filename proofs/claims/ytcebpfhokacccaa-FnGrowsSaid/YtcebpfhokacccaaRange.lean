/-
  The walks of RangeOk, and of the laws' helpers on ranges.
-/
import Derived.Test.YtcebpfhokacccaaHash
import Derived.Test.YtcebpfhokacccaaPeaks
import Derived.Test.YtcebpfhokacccaaText
import Derived.Test.YtcebpfhokacccaaMixIn
import Derived.Deep.RegionHeld3
namespace Go.Proofs.Ytcebpfhokacccaa
set_option linter.unusedVariables false
open Go.RowKit

/-- RangeOk. -/
def rangeOk (width n : Int) (zs : List ByteArray) : Bool := inR width 1 32 && inR n 0 512 && ((zs.length : Int) == ((peaksI n).length : Int)) && hashesOk width zs
theorem keep2 {W w w1 : World} {N : Nat} {c0 c1 : Value} (h : w.cell? ⟨N, 0, none⟩ = some c0 ∧ w.cell? ⟨N, 1, none⟩ = some c1 ∧ Below N W w) (hb : Below w.heap.size w w1) :
    w1.cell? ⟨N, 0, none⟩ = some c0 ∧ w1.cell? ⟨N, 1, none⟩ = some c1 ∧ Below N W w1 := by
  have hl := cell_lt h.1
  have k := (bcell hb).1
  exact ⟨by rw [k _ _ hl]; exact h.1, by rw [k _ _ hl]; exact h.2.1, bel_new h.2.2 hb (by simp at hl; omega)⟩
set_option maxRecDepth 100000 in
set_option maxHeartbeats 2000000 in
theorem i_RangeOk (width n : Int) (zs : List ByteArray) (A : Option Addr) (c L H : Nat) (w : World) (h : Rd w L H A (strs zs)) (hn : zs.length ≤ 9223372036854775807) :
    Calls Try.prog 12 #[.int .i64 width, .agg #[.int .i64 n, .slice A zs.length c]] w fun e w' => e = .returned (.bool (rangeOk width n zs)) ∧ Below w.heap.size w w' := by
  have H1 := hide h
  clear h
  cases h1 : inR width 1 32
  · go_enter Try.func12, Try.ntmps12
    go_wp2_with (first | (go_at_call 30; refine (i_isWidth _ _).mono ?_; rintro e w1 ⟨rfl, rfl⟩) | (go_at_call 31; refine (i_isSize _ _).mono ?_; rintro e w1 ⟨rfl, rfl⟩))
    go_ret
    exact ⟨ret_bool (by simp [rangeOk, h1]), (Below.refl _ _).alloc (Nat.le_refl _) _⟩
  · cases h2 : inR n 0 512
    · go_enter Try.func12, Try.ntmps12
      go_wp2_with (first | (go_at_call 30; refine (i_isWidth _ _).mono ?_; rintro e w1 ⟨rfl, rfl⟩) | (go_at_call 31; refine (i_isSize _ _).mono ?_; rintro e w1 ⟨rfl, rfl⟩))
      go_ret
      exact ⟨ret_bool (by simp [rangeOk, h1, h2]), (Below.refl _ _).alloc (Nat.le_refl _) _⟩
    · have CP := hide (i_PeaksOf n)
      cases h3 : ((zs.length : Int) == ((peaksI n).length : Int))
      · have E := hide (show rangeOk width n zs = false by simp [rangeOk, h1, h2, h3])
        rw [E.out]
        go_enter Try.func12, Try.ntmps12
        go_wp2_with (first | (go_at_call 30; refine (i_isWidth _ _).mono ?_; rintro e w1 ⟨rfl, rfl⟩) | (go_at_call 31; refine (i_isSize _ _).mono ?_; rintro e w1 ⟨rfl, rfl⟩))
        obtain ⟨W, hW⟩ : ∃ W, w.alloc (.cells #[.int .i64 n, .slice A zs.length c] 31) = W := ⟨_, rfl⟩
        have f0 : W.cell? ⟨w.heap.size, 0, none⟩ = some (.int .i64 n) := by rw [← hW]; simp
        have f1 : W.cell? ⟨w.heap.size, 1, none⟩ = some (.slice A zs.length c) := by rw [← hW]; simp
        have lW : w.heap.size < W.heap.size := by rw [← hW]; simp
        have BW := hide (show Below w.heap.size w W from hW ▸ (Below.refl _ _).alloc (Nat.le_refl _) _)
        have RW := hide (show Rd W L H A (strs zs) from hW ▸ H1.out.alloc _)
        rw [hW]
        clear hW
        refine wp_region_held_drew (S := fun w' => Below W.heap.size W w') (by kernel_rfl) (below_drew (Below.refl _ _)) (fun hHeld => ?_)
        refine take_first 0 14 (.pointer (some ⟨w.heap.size, 1, none⟩)) rfl (by kernel_rfl) (by kernel_rfl) (by kernel_rfl) (fun _ _ _ h => h) rfl (.inl ⟨by rfl, fun w' hw' => by go_simp⟩) hHeld ?_
        simp only [Act.put, List.setIfInBounds_toArray, List.set_cons_zero, List.set_cons_succ]
        refine take_first 1 15 (.slice A zs.length c) rfl (by kernel_rfl) (by kernel_rfl) (by kernel_rfl) (fun _ _ _ h => h) rfl (.inl ⟨by rfl, fun w' hw' => by have cc := (Below.cell hw' lW).trans f1; go_simp⟩) hHeld ?_
        simp only [Act.put, List.setIfInBounds_toArray, List.set_cons_zero, List.set_cons_succ]
        refine take_first 2 16 (.int .i64 (zs.length : Int)) rfl (by kernel_rfl) (by kernel_rfl) (by kernel_rfl) (fun _ _ _ h => h) rfl (.inl ⟨by rfl, fun w' hw' => by go_simp⟩) hHeld ?_
        simp only [Act.put, List.setIfInBounds_toArray, List.set_cons_zero, List.set_cons_succ]
        refine take_first 3 17 (.pointer (some ⟨w.heap.size, 0, none⟩)) rfl (by kernel_rfl) (by kernel_rfl) (by kernel_rfl) (fun _ _ _ h => h) rfl (.inl ⟨by rfl, fun w' hw' => by go_simp⟩) hHeld ?_
        simp only [Act.put, List.setIfInBounds_toArray, List.set_cons_zero, List.set_cons_succ]
        refine take_first 4 18 (.int .i64 n) rfl (by kernel_rfl) (by kernel_rfl) (by kernel_rfl) (fun _ _ _ h => h) rfl (.inl ⟨by rfl, fun w' hw' => by have cc := (Below.cell hw' lW).trans f0; go_simp⟩) hHeld ?_
        simp only [Act.put, List.setIfInBounds_toArray, List.set_cons_zero, List.set_cons_succ]
        refine wpAnyH_ready (rs := [5]) (by kernel_rfl) (by simp) (AllReadyH.cons rfl (fun K hK => ?_) AllReadyH.nil)
        go_simp
        refine (CP.out _).mono ?_
        rintro e w1 ⟨A1, c1, rfl, hb1, -⟩
        dsimp only
        have S1 := hide (bel_new hHeld hb1 hHeld.size)
        clear hb1 hHeld
        refine hK.out _ _ (S1.out) (fun hHeld => ?_)
        clear hK K
        refine take_first 6 20 (.int .i64 ((peaksI n).length : Int)) rfl (by kernel_rfl) (by kernel_rfl) (by kernel_rfl) (fun _ _ _ h => h) rfl (.inl ⟨by rfl, fun w' hw' => by go_simp⟩) hHeld ?_
        simp only [Act.put, List.setIfInBounds_toArray, List.set_cons_zero, List.set_cons_succ]
        refine take_first 7 21 (.bool false) rfl (by kernel_rfl) (by kernel_rfl) (by kernel_rfl) (fun _ _ _ h => h) rfl (.inl ⟨by rfl, fun w' hw' => by go_simp⟩) hHeld ?_
        simp only [Act.put, List.setIfInBounds_toArray, List.set_cons_zero, List.set_cons_succ]
        refine take_first 8 22 (.bool false) rfl (by kernel_rfl) (by kernel_rfl) (by kernel_rfl) (fun _ _ _ h => h) rfl (yieldsIf_move rfl _ rfl rfl) hHeld ?_
        simp only [Act.put, List.setIfInBounds_toArray, List.set_cons_zero, List.set_cons_succ]
        refine take_first 9 23 (undef) rfl (by kernel_rfl) (by kernel_rfl) (by kernel_rfl) (fun _ _ _ h => h) rfl (.inr ⟨by rfl, rfl⟩) hHeld ?_
        simp only [Act.put, List.setIfInBounds_toArray, List.set_cons_zero, List.set_cons_succ]
        refine take_first 10 24 (undef) rfl (by kernel_rfl) (by kernel_rfl) (by kernel_rfl) (fun _ _ _ h => h) rfl (.inr ⟨by rfl, rfl⟩) hHeld ?_
        simp only [Act.put, List.setIfInBounds_toArray, List.set_cons_zero, List.set_cons_succ]
        refine take_first 11 25 (undef) rfl (by kernel_rfl) (by kernel_rfl) (by kernel_rfl) (fun _ _ _ h => h) rfl (.inr ⟨by rfl, rfl⟩) hHeld ?_
        simp only [Act.put, List.setIfInBounds_toArray, List.set_cons_zero, List.set_cons_succ]
        refine take_first 12 26 (undef) rfl (by kernel_rfl) (by kernel_rfl) (by kernel_rfl) (fun _ _ _ h => h) rfl (.inr ⟨by rfl, rfl⟩) hHeld ?_
        simp only [Act.put, List.setIfInBounds_toArray, List.set_cons_zero, List.set_cons_succ]
        refine take_first 13 27 (.bool false) rfl (by kernel_rfl) (by kernel_rfl) (by kernel_rfl) (fun _ _ _ h => h) rfl (.inl ⟨by rfl, fun w' hw' => by go_simp⟩) hHeld ?_
        simp only [Act.put, List.setIfInBounds_toArray, List.set_cons_zero, List.set_cons_succ]
        refine take_first 14 4 (.bool false) rfl (by kernel_rfl) (by kernel_rfl) (by kernel_rfl) (fun _ _ _ h => h) rfl (.inl ⟨by rfl, fun w' hw' => by go_simp⟩) hHeld ?_
        simp only [Act.put, List.setIfInBounds_toArray, List.set_cons_zero, List.set_cons_succ]
        refine wpAnyH_done (by kernel_rfl) ?_ _
        go_wp2
        go_ret
        exact ⟨rfl, BW.out.trans (S1.out.mono (Nat.le_of_lt lW))⟩
      · have E := hide (show rangeOk width n zs = hashesOk width zs by simp [rangeOk, h1, h2, h3])
        rw [E.out]
        go_enter Try.func12, Try.ntmps12
        go_wp2_with (first | (go_at_call 30; refine (i_isWidth _ _).mono ?_; rintro e w1 ⟨rfl, rfl⟩) | (go_at_call 31; refine (i_isSize _ _).mono ?_; rintro e w1 ⟨rfl, rfl⟩))
        obtain ⟨W, hW⟩ : ∃ W, w.alloc (.cells #[.int .i64 n, .slice A zs.length c] 31) = W := ⟨_, rfl⟩
        have f0 : W.cell? ⟨w.heap.size, 0, none⟩ = some (.int .i64 n) := by rw [← hW]; simp
        have f1 : W.cell? ⟨w.heap.size, 1, none⟩ = some (.slice A zs.length c) := by rw [← hW]; simp
        have lW : w.heap.size < W.heap.size := by rw [← hW]; simp
        have BW := hide (show Below w.heap.size w W from hW ▸ (Below.refl _ _).alloc (Nat.le_refl _) _)
        have RW := hide (show Rd W L H A (strs zs) from hW ▸ H1.out.alloc _)
        rw [hW]
        clear hW
        refine wp_region_held_drew (S := fun w' => Below W.heap.size W w') (by kernel_rfl) (below_drew (Below.refl _ _)) (fun hHeld => ?_)
        refine take_first 0 14 (.pointer (some ⟨w.heap.size, 1, none⟩)) rfl (by kernel_rfl) (by kernel_rfl) (by kernel_rfl) (fun _ _ _ h => h) rfl (.inl ⟨by rfl, fun w' hw' => by go_simp⟩) hHeld ?_
        simp only [Act.put, List.setIfInBounds_toArray, List.set_cons_zero, List.set_cons_succ]
        refine take_first 1 15 (.slice A zs.length c) rfl (by kernel_rfl) (by kernel_rfl) (by kernel_rfl) (fun _ _ _ h => h) rfl (.inl ⟨by rfl, fun w' hw' => by have cc := (Below.cell hw' lW).trans f1; go_simp⟩) hHeld ?_
        simp only [Act.put, List.setIfInBounds_toArray, List.set_cons_zero, List.set_cons_succ]
        refine take_first 2 16 (.int .i64 (zs.length : Int)) rfl (by kernel_rfl) (by kernel_rfl) (by kernel_rfl) (fun _ _ _ h => h) rfl (.inl ⟨by rfl, fun w' hw' => by go_simp⟩) hHeld ?_
        simp only [Act.put, List.setIfInBounds_toArray, List.set_cons_zero, List.set_cons_succ]
        refine take_first 3 17 (.pointer (some ⟨w.heap.size, 0, none⟩)) rfl (by kernel_rfl) (by kernel_rfl) (by kernel_rfl) (fun _ _ _ h => h) rfl (.inl ⟨by rfl, fun w' hw' => by go_simp⟩) hHeld ?_
        simp only [Act.put, List.setIfInBounds_toArray, List.set_cons_zero, List.set_cons_succ]
        refine take_first 4 18 (.int .i64 n) rfl (by kernel_rfl) (by kernel_rfl) (by kernel_rfl) (fun _ _ _ h => h) rfl (.inl ⟨by rfl, fun w' hw' => by have cc := (Below.cell hw' lW).trans f0; go_simp⟩) hHeld ?_
        simp only [Act.put, List.setIfInBounds_toArray, List.set_cons_zero, List.set_cons_succ]
        refine wpAnyH_ready (rs := [5]) (by kernel_rfl) (by simp) (AllReadyH.cons rfl (fun K hK => ?_) AllReadyH.nil)
        go_simp
        refine (CP.out _).mono ?_
        rintro e w1 ⟨A1, c1, rfl, hb1, -⟩
        dsimp only
        have S1 := hide (bel_new hHeld hb1 hHeld.size)
        clear hb1 hHeld
        refine hK.out _ _ (S1.out) (fun hHeld => ?_)
        clear hK K
        refine take_first 6 20 (.int .i64 ((peaksI n).length : Int)) rfl (by kernel_rfl) (by kernel_rfl) (by kernel_rfl) (fun _ _ _ h => h) rfl (.inl ⟨by rfl, fun w' hw' => by go_simp⟩) hHeld ?_
        simp only [Act.put, List.setIfInBounds_toArray, List.set_cons_zero, List.set_cons_succ]
        refine take_first 7 21 (.bool true) rfl (by kernel_rfl) (by kernel_rfl) (by kernel_rfl) (fun _ _ _ h => h) rfl (.inl ⟨by rfl, fun w' hw' => by go_simp⟩) hHeld ?_
        simp only [Act.put, List.setIfInBounds_toArray, List.set_cons_zero, List.set_cons_succ]
        refine take_first 8 22 (.bool true) rfl (by kernel_rfl) (by kernel_rfl) (by kernel_rfl) (fun _ _ _ h => h) rfl (yieldsIf_move rfl _ rfl rfl) hHeld ?_
        simp only [Act.put, List.setIfInBounds_toArray, List.set_cons_zero, List.set_cons_succ]
        refine take_first 9 23 (.int .i64 width) rfl (by kernel_rfl) (by kernel_rfl) (by kernel_rfl) (fun _ _ _ h => h) rfl (.inl ⟨by rfl, fun w' hw' => by go_simp⟩) hHeld ?_
        simp only [Act.put, List.setIfInBounds_toArray, List.set_cons_zero, List.set_cons_succ]
        refine take_first 10 24 (.pointer (some ⟨w.heap.size, 1, none⟩)) rfl (by kernel_rfl) (by kernel_rfl) (by kernel_rfl) (fun _ _ _ h => h) rfl (.inl ⟨by rfl, fun w' hw' => by go_simp⟩) hHeld ?_
        simp only [Act.put, List.setIfInBounds_toArray, List.set_cons_zero, List.set_cons_succ]
        refine take_first 11 25 (.slice A zs.length c) rfl (by kernel_rfl) (by kernel_rfl) (by kernel_rfl) (fun _ _ _ h => h) rfl (.inl ⟨by rfl, fun w' hw' => by have cc := (Below.cell hw' lW).trans f1; go_simp⟩) hHeld ?_
        simp only [Act.put, List.setIfInBounds_toArray, List.set_cons_zero, List.set_cons_succ]
        refine wpAnyH_ready (rs := [12]) (by kernel_rfl) (by simp) (AllReadyH.cons rfl (fun K hK => ?_) AllReadyH.nil)
        go_simp
        refine (i_areHashes width zs A c L H _ (RW.out.below S1.out) hn).mono ?_
        rintro e w2 ⟨rfl, rfl⟩
        dsimp only
        clear hHeld
        refine hK.out _ _ (S1.out) (fun hHeld => ?_)
        clear hK K
        refine take_first 13 27 (.bool (hashesOk width zs)) rfl (by kernel_rfl) (by kernel_rfl) (by kernel_rfl) (fun _ _ _ h => h) rfl (.inl ⟨by rfl, fun w' hw' => by go_simp⟩) hHeld ?_
        simp only [Act.put, List.setIfInBounds_toArray, List.set_cons_zero, List.set_cons_succ]
        refine take_first 14 4 (.bool (hashesOk width zs)) rfl (by kernel_rfl) (by kernel_rfl) (by kernel_rfl) (fun _ _ _ h => h) rfl (.inl ⟨by rfl, fun w' hw' => by go_simp⟩) hHeld ?_
        simp only [Act.put, List.setIfInBounds_toArray, List.set_cons_zero, List.set_cons_succ]
        refine wpAnyH_done (by kernel_rfl) ?_ _
        go_wp2
        go_ret
        exact ⟨rfl, BW.out.trans (S1.out.mono (Nat.le_of_lt lW))⟩
end Go.Proofs.Ytcebpfhokacccaa

/-
  The walks of RangeOk, and of the laws' helpers on ranges.
-/
import Derived.Test.YticpedlcfakaeaaHash
import Derived.Test.YticpedlcfakaeaaPeaks
import Derived.Test.YticpedlcfakaeaaText
import Derived.Test.YticpedlcfakaeaaMixIn
import Derived.Deep.RegionHeld3
namespace Go.Proofs.Yticpedlcfakaeaa
set_option linter.unusedVariables false
open Go.RowKit

/-- RangeOk. -/
def rangeOk (width n : Int) (zs : List ByteArray) : Bool := inR width 1 32 && inR n 0 512 && ((zs.length : Int) == ((peaksI n).length : Int)) && hashesOk width zs
theorem keep2 {W w w1 : World} {N : Nat} {c0 c1 : Value} (h : w.cell? ⟨N, 0, none⟩ = some c0 ∧ w.cell? ⟨N, 1, none⟩ = some c1 ∧ Below N W w) (hb : Below w.heap.size w w1) :
    w1.cell? ⟨N, 0, none⟩ = some c0 ∧ w1.cell? ⟨N, 1, none⟩ = some c1 ∧ Below N W w1 := by
  have hl := cell_lt h.1
  have k := (bcell hb).1
  exact ⟨by rw [k _ _ hl]; exact h.1, by rw [k _ _ hl]; exact h.2.1, bel_new h.2.2 hb (by simp at hl; omega)⟩
set_option maxRecDepth 100000 in
set_option maxHeartbeats 2000000 in
theorem i_RangeOk (width n : Int) (zs : List ByteArray) (A : Option Addr) (c L H : Nat) (w : World) (h : Rd w L H A (strs zs)) (hn : zs.length ≤ 9223372036854775807) :
    Calls Try.prog 50 #[.int .i64 width, .agg #[.int .i64 n, .slice A zs.length c]] w fun e w' => e = .returned (.bool (rangeOk width n zs)) ∧ Below w.heap.size w w' := by
  have H1 := hide h
  clear h
  cases h1 : inR width 1 32
  · go_enter Try.func50, Try.ntmps50
    go_wp2_with (first | (go_at_call 86; refine (i_isWidth _ _).mono ?_; rintro e w1 ⟨rfl, rfl⟩) | (go_at_call 91; refine (i_isSize _ _).mono ?_; rintro e w1 ⟨rfl, rfl⟩))
    go_ret
    exact ⟨ret_bool (by simp [rangeOk, h1]), (Below.refl _ _).alloc (Nat.le_refl _) _⟩
  · cases h2 : inR n 0 512
    · go_enter Try.func50, Try.ntmps50
      go_wp2_with (first | (go_at_call 86; refine (i_isWidth _ _).mono ?_; rintro e w1 ⟨rfl, rfl⟩) | (go_at_call 91; refine (i_isSize _ _).mono ?_; rintro e w1 ⟨rfl, rfl⟩))
      go_ret
      exact ⟨ret_bool (by simp [rangeOk, h1, h2]), (Below.refl _ _).alloc (Nat.le_refl _) _⟩
    · have CP := hide (i_PeaksOf n)
      cases h3 : ((zs.length : Int) == ((peaksI n).length : Int))
      · have E := hide (show rangeOk width n zs = false by simp [rangeOk, h1, h2, h3])
        rw [E.out]
        go_enter Try.func50, Try.ntmps50
        go_wp2_with (first | (go_at_call 86; refine (i_isWidth _ _).mono ?_; rintro e w1 ⟨rfl, rfl⟩) | (go_at_call 91; refine (i_isSize _ _).mono ?_; rintro e w1 ⟨rfl, rfl⟩))
        obtain ⟨W, hW⟩ : ∃ W, w.alloc (.cells #[.int .i64 n, .slice A zs.length c] 68) = W := ⟨_, rfl⟩
        have f0 : W.cell? ⟨w.heap.size, 0, none⟩ = some (.int .i64 n) := by rw [← hW]; simp
        have f1 : W.cell? ⟨w.heap.size, 1, none⟩ = some (.slice A zs.length c) := by rw [← hW]; simp
        have lW : w.heap.size < W.heap.size := by rw [← hW]; simp
        have BW := hide (show Below w.heap.size w W from hW ▸ (Below.refl _ _).alloc (Nat.le_refl _) _)
        have RW := hide (show Rd W L H A (strs zs) from hW ▸ H1.out.alloc _)
        rw [hW]
        clear hW
        refine wp_region_held_drew (S := fun w' => Below W.heap.size W w') (by kernel_rfl) (below_drew (Below.refl _ _)) (fun hHeld => ?_)
        refine take_first 0 14 (.pointer (some ⟨w.heap.size, 1, none⟩)) rfl (by kernel_rfl) (by kernel_rfl) (by kernel_rfl) (fun _ _ _ h => h) rfl (.inl ⟨by rfl, fun w' hw' => by go_simp⟩) hHeld ?_
        simp only [Act.put, List.setIfInBounds_toArray, List.set_cons_zero, List.set_cons_succ]
        refine take_first 1 15 (.slice A zs.length c) rfl (by kernel_rfl) (by kernel_rfl) (by kernel_rfl) (fun _ _ _ h => h) rfl (.inl ⟨by rfl, fun w' hw' => by have cc := (Below.cell hw' lW).trans f1; go_simp⟩) hHeld ?_
        simp only [Act.put, List.setIfInBounds_toArray, List.set_cons_zero, List.set_cons_succ]
        refine take_first 2 16 (.int .i64 (zs.length : Int)) rfl (by kernel_rfl) (by kernel_rfl) (by kernel_rfl) (fun _ _ _ h => h) rfl (.inl ⟨by rfl, fun w' hw' => by go_simp⟩) hHeld ?_
        simp only [Act.put, List.setIfInBounds_toArray, List.set_cons_zero, List.set_cons_succ]
        refine take_first 3 17 (.pointer (some ⟨w.heap.size, 0, none⟩)) rfl (by kernel_rfl) (by kernel_rfl) (by kernel_rfl) (fun _ _ _ h => h) rfl (.inl ⟨by rfl, fun w' hw' => by go_simp⟩) hHeld ?_
        simp only [Act.put, List.setIfInBounds_toArray, List.set_cons_zero, List.set_cons_succ]
        refine take_first 4 18 (.int .i64 n) rfl (by kernel_rfl) (by kernel_rfl) (by kernel_rfl) (fun _ _ _ h => h) rfl (.inl ⟨by rfl, fun w' hw' => by have cc := (Below.cell hw' lW).trans f0; go_simp⟩) hHeld ?_
        simp only [Act.put, List.setIfInBounds_toArray, List.set_cons_zero, List.set_cons_succ]
        refine wpAnyH_ready (rs := [5]) (by kernel_rfl) (by simp) (AllReadyH.cons rfl (fun K hK => ?_) AllReadyH.nil)
        go_simp
        refine (CP.out _).mono ?_
        rintro e w1 ⟨A1, c1, rfl, hb1, -⟩
        dsimp only
        have S1 := hide (bel_new hHeld hb1 hHeld.size)
        clear hb1 hHeld
        refine hK.out _ _ (S1.out) (fun hHeld => ?_)
        clear hK K
        refine take_first 6 20 (.int .i64 ((peaksI n).length : Int)) rfl (by kernel_rfl) (by kernel_rfl) (by kernel_rfl) (fun _ _ _ h => h) rfl (.inl ⟨by rfl, fun w' hw' => by go_simp⟩) hHeld ?_
        simp only [Act.put, List.setIfInBounds_toArray, List.set_cons_zero, List.set_cons_succ]
        refine take_first 7 21 (.bool false) rfl (by kernel_rfl) (by kernel_rfl) (by kernel_rfl) (fun _ _ _ h => h) rfl (.inl ⟨by rfl, fun w' hw' => by go_simp⟩) hHeld ?_
        simp only [Act.put, List.setIfInBounds_toArray, List.set_cons_zero, List.set_cons_succ]
        refine take_first 8 22 (.bool false) rfl (by kernel_rfl) (by kernel_rfl) (by kernel_rfl) (fun _ _ _ h => h) rfl (yieldsIf_move rfl _ rfl rfl) hHeld ?_
        simp only [Act.put, List.setIfInBounds_toArray, List.set_cons_zero, List.set_cons_succ]
        refine take_first 9 23 (undef) rfl (by kernel_rfl) (by kernel_rfl) (by kernel_rfl) (fun _ _ _ h => h) rfl (.inr ⟨by rfl, rfl⟩) hHeld ?_
        simp only [Act.put, List.setIfInBounds_toArray, List.set_cons_zero, List.set_cons_succ]
        refine take_first 10 24 (undef) rfl (by kernel_rfl) (by kernel_rfl) (by kernel_rfl) (fun _ _ _ h => h) rfl (.inr ⟨by rfl, rfl⟩) hHeld ?_
        simp only [Act.put, List.setIfInBounds_toArray, List.set_cons_zero, List.set_cons_succ]
        refine take_first 11 25 (undef) rfl (by kernel_rfl) (by kernel_rfl) (by kernel_rfl) (fun _ _ _ h => h) rfl (.inr ⟨by rfl, rfl⟩) hHeld ?_
        simp only [Act.put, List.setIfInBounds_toArray, List.set_cons_zero, List.set_cons_succ]
        refine take_first 12 26 (undef) rfl (by kernel_rfl) (by kernel_rfl) (by kernel_rfl) (fun _ _ _ h => h) rfl (.inr ⟨by rfl, rfl⟩) hHeld ?_
        simp only [Act.put, List.setIfInBounds_toArray, List.set_cons_zero, List.set_cons_succ]
        refine take_first 13 27 (.bool false) rfl (by kernel_rfl) (by kernel_rfl) (by kernel_rfl) (fun _ _ _ h => h) rfl (.inl ⟨by rfl, fun w' hw' => by go_simp⟩) hHeld ?_
        simp only [Act.put, List.setIfInBounds_toArray, List.set_cons_zero, List.set_cons_succ]
        refine take_first 14 4 (.bool false) rfl (by kernel_rfl) (by kernel_rfl) (by kernel_rfl) (fun _ _ _ h => h) rfl (.inl ⟨by rfl, fun w' hw' => by go_simp⟩) hHeld ?_
        simp only [Act.put, List.setIfInBounds_toArray, List.set_cons_zero, List.set_cons_succ]
        refine wpAnyH_done (by kernel_rfl) ?_ _
        go_wp2
        go_ret
        exact ⟨rfl, BW.out.trans (S1.out.mono (Nat.le_of_lt lW))⟩
      · have E := hide (show rangeOk width n zs = hashesOk width zs by simp [rangeOk, h1, h2, h3])
        rw [E.out]
        go_enter Try.func50, Try.ntmps50
        go_wp2_with (first | (go_at_call 86; refine (i_isWidth _ _).mono ?_; rintro e w1 ⟨rfl, rfl⟩) | (go_at_call 91; refine (i_isSize _ _).mono ?_; rintro e w1 ⟨rfl, rfl⟩))
        obtain ⟨W, hW⟩ : ∃ W, w.alloc (.cells #[.int .i64 n, .slice A zs.length c] 68) = W := ⟨_, rfl⟩
        have f0 : W.cell? ⟨w.heap.size, 0, none⟩ = some (.int .i64 n) := by rw [← hW]; simp
        have f1 : W.cell? ⟨w.heap.size, 1, none⟩ = some (.slice A zs.length c) := by rw [← hW]; simp
        have lW : w.heap.size < W.heap.size := by rw [← hW]; simp
        have BW := hide (show Below w.heap.size w W from hW ▸ (Below.refl _ _).alloc (Nat.le_refl _) _)
        have RW := hide (show Rd W L H A (strs zs) from hW ▸ H1.out.alloc _)
        rw [hW]
        clear hW
        refine wp_region_held_drew (S := fun w' => Below W.heap.size W w') (by kernel_rfl) (below_drew (Below.refl _ _)) (fun hHeld => ?_)
        refine take_first 0 14 (.pointer (some ⟨w.heap.size, 1, none⟩)) rfl (by kernel_rfl) (by kernel_rfl) (by kernel_rfl) (fun _ _ _ h => h) rfl (.inl ⟨by rfl, fun w' hw' => by go_simp⟩) hHeld ?_
        simp only [Act.put, List.setIfInBounds_toArray, List.set_cons_zero, List.set_cons_succ]
        refine take_first 1 15 (.slice A zs.length c) rfl (by kernel_rfl) (by kernel_rfl) (by kernel_rfl) (fun _ _ _ h => h) rfl (.inl ⟨by rfl, fun w' hw' => by have cc := (Below.cell hw' lW).trans f1; go_simp⟩) hHeld ?_
        simp only [Act.put, List.setIfInBounds_toArray, List.set_cons_zero, List.set_cons_succ]
        refine take_first 2 16 (.int .i64 (zs.length : Int)) rfl (by kernel_rfl) (by kernel_rfl) (by kernel_rfl) (fun _ _ _ h => h) rfl (.inl ⟨by rfl, fun w' hw' => by go_simp⟩) hHeld ?_
        simp only [Act.put, List.setIfInBounds_toArray, List.set_cons_zero, List.set_cons_succ]
        refine take_first 3 17 (.pointer (some ⟨w.heap.size, 0, none⟩)) rfl (by kernel_rfl) (by kernel_rfl) (by kernel_rfl) (fun _ _ _ h => h) rfl (.inl ⟨by rfl, fun w' hw' => by go_simp⟩) hHeld ?_
        simp only [Act.put, List.setIfInBounds_toArray, List.set_cons_zero, List.set_cons_succ]
        refine take_first 4 18 (.int .i64 n) rfl (by kernel_rfl) (by kernel_rfl) (by kernel_rfl) (fun _ _ _ h => h) rfl (.inl ⟨by rfl, fun w' hw' => by have cc := (Below.cell hw' lW).trans f0; go_simp⟩) hHeld ?_
        simp only [Act.put, List.setIfInBounds_toArray, List.set_cons_zero, List.set_cons_succ]
        refine wpAnyH_ready (rs := [5]) (by kernel_rfl) (by simp) (AllReadyH.cons rfl (fun K hK => ?_) AllReadyH.nil)
        go_simp
        refine (CP.out _).mono ?_
        rintro e w1 ⟨A1, c1, rfl, hb1, -⟩
        dsimp only
        have S1 := hide (bel_new hHeld hb1 hHeld.size)
        clear hb1 hHeld
        refine hK.out _ _ (S1.out) (fun hHeld => ?_)
        clear hK K
        refine take_first 6 20 (.int .i64 ((peaksI n).length : Int)) rfl (by kernel_rfl) (by kernel_rfl) (by kernel_rfl) (fun _ _ _ h => h) rfl (.inl ⟨by rfl, fun w' hw' => by go_simp⟩) hHeld ?_
        simp only [Act.put, List.setIfInBounds_toArray, List.set_cons_zero, List.set_cons_succ]
        refine take_first 7 21 (.bool true) rfl (by kernel_rfl) (by kernel_rfl) (by kernel_rfl) (fun _ _ _ h => h) rfl (.inl ⟨by rfl, fun w' hw' => by go_simp⟩) hHeld ?_
        simp only [Act.put, List.setIfInBounds_toArray, List.set_cons_zero, List.set_cons_succ]
        refine take_first 8 22 (.bool true) rfl (by kernel_rfl) (by kernel_rfl) (by kernel_rfl) (fun _ _ _ h => h) rfl (yieldsIf_move rfl _ rfl rfl) hHeld ?_
        simp only [Act.put, List.setIfInBounds_toArray, List.set_cons_zero, List.set_cons_succ]
        refine take_first 9 23 (.int .i64 width) rfl (by kernel_rfl) (by kernel_rfl) (by kernel_rfl) (fun _ _ _ h => h) rfl (.inl ⟨by rfl, fun w' hw' => by go_simp⟩) hHeld ?_
        simp only [Act.put, List.setIfInBounds_toArray, List.set_cons_zero, List.set_cons_succ]
        refine take_first 10 24 (.pointer (some ⟨w.heap.size, 1, none⟩)) rfl (by kernel_rfl) (by kernel_rfl) (by kernel_rfl) (fun _ _ _ h => h) rfl (.inl ⟨by rfl, fun w' hw' => by go_simp⟩) hHeld ?_
        simp only [Act.put, List.setIfInBounds_toArray, List.set_cons_zero, List.set_cons_succ]
        refine take_first 11 25 (.slice A zs.length c) rfl (by kernel_rfl) (by kernel_rfl) (by kernel_rfl) (fun _ _ _ h => h) rfl (.inl ⟨by rfl, fun w' hw' => by have cc := (Below.cell hw' lW).trans f1; go_simp⟩) hHeld ?_
        simp only [Act.put, List.setIfInBounds_toArray, List.set_cons_zero, List.set_cons_succ]
        refine wpAnyH_ready (rs := [12]) (by kernel_rfl) (by simp) (AllReadyH.cons rfl (fun K hK => ?_) AllReadyH.nil)
        go_simp
        refine (i_areHashes width zs A c L H _ (RW.out.below S1.out) hn).mono ?_
        rintro e w2 ⟨rfl, rfl⟩
        dsimp only
        clear hHeld
        refine hK.out _ _ (S1.out) (fun hHeld => ?_)
        clear hK K
        refine take_first 13 27 (.bool (hashesOk width zs)) rfl (by kernel_rfl) (by kernel_rfl) (by kernel_rfl) (fun _ _ _ h => h) rfl (.inl ⟨by rfl, fun w' hw' => by go_simp⟩) hHeld ?_
        simp only [Act.put, List.setIfInBounds_toArray, List.set_cons_zero, List.set_cons_succ]
        refine take_first 14 4 (.bool (hashesOk width zs)) rfl (by kernel_rfl) (by kernel_rfl) (by kernel_rfl) (fun _ _ _ h => h) rfl (.inl ⟨by rfl, fun w' hw' => by go_simp⟩) hHeld ?_
        simp only [Act.put, List.setIfInBounds_toArray, List.set_cons_zero, List.set_cons_succ]
        refine wpAnyH_done (by kernel_rfl) ?_ _
        go_wp2
        go_ret
        exact ⟨rfl, BW.out.trans (S1.out.mono (Nat.le_of_lt lW))⟩
set_option maxRecDepth 100000 in
set_option maxHeartbeats 2000000 in
theorem s_RangeOk (width n : Int) (zs : List ByteArray) (A : Option Addr) (c L H : Nat) (w : World) (h : Rd w L H A (strs zs)) (hn : zs.length ≤ 9223372036854775807) :
    Calls Try.prog 48 #[.int .i64 width, .agg #[.int .i64 n, .slice A zs.length c]] w fun e w' => e = .returned (.bool (rangeOk width n zs)) ∧ Below w.heap.size w w' := by
  have H1 := hide h
  clear h
  have CS := s_l04Size n
  have CP := hide (s_PeaksOf n)
  cases h2 : inR n 0 512
  · have E := hide (show rangeOk width n zs = false by simp [rangeOk, h2])
    rw [h2] at CS
    replace CS := hide CS
    rw [E.out]
    go_enter Try.func48, Try.ntmps48
    go_wp2
    obtain ⟨W, hW⟩ : ∃ W, w.alloc (.cells #[.int .i64 n, .slice A zs.length c] 68) = W := ⟨_, rfl⟩
    have f0 : W.cell? ⟨w.heap.size, 0, none⟩ = some (.int .i64 n) := by rw [← hW]; simp
    have f1 : W.cell? ⟨w.heap.size, 1, none⟩ = some (.slice A zs.length c) := by rw [← hW]; simp
    have lW : w.heap.size < W.heap.size := by rw [← hW]; simp
    have BW := hide (show Below w.heap.size w W from hW ▸ (Below.refl _ _).alloc (Nat.le_refl _) _)
    have RW := hide (show Rd W L H A (strs zs) from hW ▸ H1.out.alloc _)
    rw [hW]
    clear hW
    refine wp_region_held_drew (S := fun w' => Below W.heap.size W w') (by kernel_rfl) (below_drew (Below.refl _ _)) (fun hHeld => ?_)
    refine take_first 0 5 (.pointer (some ⟨w.heap.size, 0, none⟩)) rfl (by kernel_rfl) (by kernel_rfl) (by kernel_rfl) (fun _ _ _ h => h) rfl (.inl ⟨by rfl, fun w' hw' => by go_simp⟩) hHeld ?_
    simp only [Act.put, List.setIfInBounds_toArray, List.set_cons_zero, List.set_cons_succ]
    refine take_first 1 6 (.int .i64 n) rfl (by kernel_rfl) (by kernel_rfl) (by kernel_rfl) (fun _ _ _ h => h) rfl (.inl ⟨by rfl, fun w' hw' => by have cc := (Below.cell hw' lW).trans f0; go_simp⟩) hHeld ?_
    simp only [Act.put, List.setIfInBounds_toArray, List.set_cons_zero, List.set_cons_succ]
    refine wpAnyH_ready (rs := [2]) (by kernel_rfl) (by simp) (AllReadyH.cons rfl (fun K hK => ?_) AllReadyH.nil)
    go_simp
    refine (CS.out _).mono ?_
    rintro e w0 ⟨rfl, rfl⟩
    dsimp only
    have S0 := hide hHeld
    clear hHeld
    refine hK.out _ _ (S0.out) (fun hHeld => ?_)
    clear hK K
    refine take_first 3 8 (.bool false) rfl (by kernel_rfl) (by kernel_rfl) (by kernel_rfl) (fun _ _ _ h => h) rfl (yieldsIf_move rfl _ rfl rfl) hHeld ?_
    simp only [Act.put, List.setIfInBounds_toArray, List.set_cons_zero, List.set_cons_succ]
    refine take_first 4 9 (undef) rfl (by kernel_rfl) (by kernel_rfl) (by kernel_rfl) (fun _ _ _ h => h) rfl (.inr ⟨by rfl, rfl⟩) hHeld ?_
    simp only [Act.put, List.setIfInBounds_toArray, List.set_cons_zero, List.set_cons_succ]
    refine take_first 5 10 (undef) rfl (by kernel_rfl) (by kernel_rfl) (by kernel_rfl) (fun _ _ _ h => h) rfl (.inr ⟨by rfl, rfl⟩) hHeld ?_
    simp only [Act.put, List.setIfInBounds_toArray, List.set_cons_zero, List.set_cons_succ]
    refine take_first 6 11 (undef) rfl (by kernel_rfl) (by kernel_rfl) (by kernel_rfl) (fun _ _ _ h => h) rfl (.inr ⟨by rfl, rfl⟩) hHeld ?_
    simp only [Act.put, List.setIfInBounds_toArray, List.set_cons_zero, List.set_cons_succ]
    refine take_first 7 12 (undef) rfl (by kernel_rfl) (by kernel_rfl) (by kernel_rfl) (fun _ _ _ h => h) rfl (.inr ⟨by rfl, rfl⟩) hHeld ?_
    simp only [Act.put, List.setIfInBounds_toArray, List.set_cons_zero, List.set_cons_succ]
    refine take_first 8 13 (undef) rfl (by kernel_rfl) (by kernel_rfl) (by kernel_rfl) (fun _ _ _ h => h) rfl (.inr ⟨by rfl, rfl⟩) hHeld ?_
    simp only [Act.put, List.setIfInBounds_toArray, List.set_cons_zero, List.set_cons_succ]
    refine take_first 9 14 (undef) rfl (by kernel_rfl) (by kernel_rfl) (by kernel_rfl) (fun _ _ _ h => h) rfl (.inr ⟨by rfl, rfl⟩) hHeld ?_
    simp only [Act.put, List.setIfInBounds_toArray, List.set_cons_zero, List.set_cons_succ]
    refine take_first 10 15 (undef) rfl (by kernel_rfl) (by kernel_rfl) (by kernel_rfl) (fun _ _ _ h => h) rfl (.inr ⟨by rfl, rfl⟩) hHeld ?_
    simp only [Act.put, List.setIfInBounds_toArray, List.set_cons_zero, List.set_cons_succ]
    refine take_first 11 16 (undef) rfl (by kernel_rfl) (by kernel_rfl) (by kernel_rfl) (fun _ _ _ h => h) rfl (.inr ⟨by rfl, rfl⟩) hHeld ?_
    simp only [Act.put, List.setIfInBounds_toArray, List.set_cons_zero, List.set_cons_succ]
    refine take_first 12 17 (.bool false) rfl (by kernel_rfl) (by kernel_rfl) (by kernel_rfl) (fun _ _ _ h => h) rfl (.inl ⟨by rfl, fun w' hw' => by go_simp⟩) hHeld ?_
    simp only [Act.put, List.setIfInBounds_toArray, List.set_cons_zero, List.set_cons_succ]
    refine take_first 13 18 (.bool false) rfl (by kernel_rfl) (by kernel_rfl) (by kernel_rfl) (fun _ _ _ h => h) rfl (yieldsIf_move rfl _ rfl rfl) hHeld ?_
    simp only [Act.put, List.setIfInBounds_toArray, List.set_cons_zero, List.set_cons_succ]
    refine take_first 14 19 (undef) rfl (by kernel_rfl) (by kernel_rfl) (by kernel_rfl) (fun _ _ _ h => h) rfl (.inr ⟨by rfl, rfl⟩) hHeld ?_
    simp only [Act.put, List.setIfInBounds_toArray, List.set_cons_zero, List.set_cons_succ]
    refine take_first 15 20 (undef) rfl (by kernel_rfl) (by kernel_rfl) (by kernel_rfl) (fun _ _ _ h => h) rfl (.inr ⟨by rfl, rfl⟩) hHeld ?_
    simp only [Act.put, List.setIfInBounds_toArray, List.set_cons_zero, List.set_cons_succ]
    refine take_first 16 21 (undef) rfl (by kernel_rfl) (by kernel_rfl) (by kernel_rfl) (fun _ _ _ h => h) rfl (.inr ⟨by rfl, rfl⟩) hHeld ?_
    simp only [Act.put, List.setIfInBounds_toArray, List.set_cons_zero, List.set_cons_succ]
    refine take_first 17 22 (undef) rfl (by kernel_rfl) (by kernel_rfl) (by kernel_rfl) (fun _ _ _ h => h) rfl (.inr ⟨by rfl, rfl⟩) hHeld ?_
    simp only [Act.put, List.setIfInBounds_toArray, List.set_cons_zero, List.set_cons_succ]
    refine take_first 18 23 (.bool false) rfl (by kernel_rfl) (by kernel_rfl) (by kernel_rfl) (fun _ _ _ h => h) rfl (.inl ⟨by rfl, fun w' hw' => by go_simp⟩) hHeld ?_
    simp only [Act.put, List.setIfInBounds_toArray, List.set_cons_zero, List.set_cons_succ]
    refine take_first 19 4 (.bool false) rfl (by kernel_rfl) (by kernel_rfl) (by kernel_rfl) (fun _ _ _ h => h) rfl (.inl ⟨by rfl, fun w' hw' => by go_simp⟩) hHeld ?_
    simp only [Act.put, List.setIfInBounds_toArray, List.set_cons_zero, List.set_cons_succ]
    refine wpAnyH_done (by kernel_rfl) ?_ _
    go_wp2
    go_ret
    exact ⟨rfl, BW.out.trans (S0.out.mono (Nat.le_of_lt lW))⟩
  · cases h3 : ((zs.length : Int) == ((peaksI n).length : Int))
    · have E := hide (show rangeOk width n zs = false by simp [rangeOk, h2, h3])
      rw [h2] at CS
      replace CS := hide CS
      rw [E.out]
      go_enter Try.func48, Try.ntmps48
      go_wp2
      obtain ⟨W, hW⟩ : ∃ W, w.alloc (.cells #[.int .i64 n, .slice A zs.length c] 68) = W := ⟨_, rfl⟩
      have f0 : W.cell? ⟨w.heap.size, 0, none⟩ = some (.int .i64 n) := by rw [← hW]; simp
      have f1 : W.cell? ⟨w.heap.size, 1, none⟩ = some (.slice A zs.length c) := by rw [← hW]; simp
      have lW : w.heap.size < W.heap.size := by rw [← hW]; simp
      have BW := hide (show Below w.heap.size w W from hW ▸ (Below.refl _ _).alloc (Nat.le_refl _) _)
      have RW := hide (show Rd W L H A (strs zs) from hW ▸ H1.out.alloc _)
      rw [hW]
      clear hW
      refine wp_region_held_drew (S := fun w' => Below W.heap.size W w') (by kernel_rfl) (below_drew (Below.refl _ _)) (fun hHeld => ?_)
      refine take_first 0 5 (.pointer (some ⟨w.heap.size, 0, none⟩)) rfl (by kernel_rfl) (by kernel_rfl) (by kernel_rfl) (fun _ _ _ h => h) rfl (.inl ⟨by rfl, fun w' hw' => by go_simp⟩) hHeld ?_
      simp only [Act.put, List.setIfInBounds_toArray, List.set_cons_zero, List.set_cons_succ]
      refine take_first 1 6 (.int .i64 n) rfl (by kernel_rfl) (by kernel_rfl) (by kernel_rfl) (fun _ _ _ h => h) rfl (.inl ⟨by rfl, fun w' hw' => by have cc := (Below.cell hw' lW).trans f0; go_simp⟩) hHeld ?_
      simp only [Act.put, List.setIfInBounds_toArray, List.set_cons_zero, List.set_cons_succ]
      refine wpAnyH_ready (rs := [2]) (by kernel_rfl) (by simp) (AllReadyH.cons rfl (fun K hK => ?_) AllReadyH.nil)
      go_simp
      refine (CS.out _).mono ?_
      rintro e w0 ⟨rfl, rfl⟩
      dsimp only
      have S0 := hide hHeld
      clear hHeld
      refine hK.out _ _ (S0.out) (fun hHeld => ?_)
      clear hK K
      refine take_first 3 8 (.bool true) rfl (by kernel_rfl) (by kernel_rfl) (by kernel_rfl) (fun _ _ _ h => h) rfl (yieldsIf_move rfl _ rfl rfl) hHeld ?_
      simp only [Act.put, List.setIfInBounds_toArray, List.set_cons_zero, List.set_cons_succ]
      refine take_first 4 9 (.pointer (some ⟨w.heap.size, 1, none⟩)) rfl (by kernel_rfl) (by kernel_rfl) (by kernel_rfl) (fun _ _ _ h => h) rfl (.inl ⟨by rfl, fun w' hw' => by go_simp⟩) hHeld ?_
      simp only [Act.put, List.setIfInBounds_toArray, List.set_cons_zero, List.set_cons_succ]
      refine take_first 5 10 (.slice A zs.length c) rfl (by kernel_rfl) (by kernel_rfl) (by kernel_rfl) (fun _ _ _ h => h) rfl (.inl ⟨by rfl, fun w' hw' => by have cc := (Below.cell hw' lW).trans f1; go_simp⟩) hHeld ?_
      simp only [Act.put, List.setIfInBounds_toArray, List.set_cons_zero, List.set_cons_succ]
      refine take_first 6 11 (.int .i64 (zs.length : Int)) rfl (by kernel_rfl) (by kernel_rfl) (by kernel_rfl) (fun _ _ _ h => h) rfl (.inl ⟨by rfl, fun w' hw' => by go_simp⟩) hHeld ?_
      simp only [Act.put, List.setIfInBounds_toArray, List.set_cons_zero, List.set_cons_succ]
      refine take_first 7 12 (.pointer (some ⟨w.heap.size, 0, none⟩)) rfl (by kernel_rfl) (by kernel_rfl) (by kernel_rfl) (fun _ _ _ h => h) rfl (.inl ⟨by rfl, fun w' hw' => by go_simp⟩) hHeld ?_
      simp only [Act.put, List.setIfInBounds_toArray, List.set_cons_zero, List.set_cons_succ]
      refine take_first 8 13 (.int .i64 n) rfl (by kernel_rfl) (by kernel_rfl) (by kernel_rfl) (fun _ _ _ h => h) rfl (.inl ⟨by rfl, fun w' hw' => by have cc := (Below.cell hw' lW).trans f0; go_simp⟩) hHeld ?_
      simp only [Act.put, List.setIfInBounds_toArray, List.set_cons_zero, List.set_cons_succ]
      refine wpAnyH_ready (rs := [9]) (by kernel_rfl) (by simp) (AllReadyH.cons rfl (fun K hK => ?_) AllReadyH.nil)
      go_simp
      refine (CP.out _).mono ?_
      rintro e w1 ⟨A1, c1, rfl, hb1, -⟩
      dsimp only
      have S1 := hide (bel_new hHeld hb1 hHeld.size)
      clear hb1 hHeld
      refine hK.out _ _ (S1.out) (fun hHeld => ?_)
      clear hK K
      refine take_first 10 15 (.int .i64 ((peaksI n).length : Int)) rfl (by kernel_rfl) (by kernel_rfl) (by kernel_rfl) (fun _ _ _ h => h) rfl (.inl ⟨by rfl, fun w' hw' => by go_simp⟩) hHeld ?_
      simp only [Act.put, List.setIfInBounds_toArray, List.set_cons_zero, List.set_cons_succ]
      refine take_first 11 16 (.bool false) rfl (by kernel_rfl) (by kernel_rfl) (by kernel_rfl) (fun _ _ _ h => h) rfl (.inl ⟨by rfl, fun w' hw' => by go_simp⟩) hHeld ?_
      simp only [Act.put, List.setIfInBounds_toArray, List.set_cons_zero, List.set_cons_succ]
      refine take_first 12 17 (.bool false) rfl (by kernel_rfl) (by kernel_rfl) (by kernel_rfl) (fun _ _ _ h => h) rfl (.inl ⟨by rfl, fun w' hw' => by go_simp⟩) hHeld ?_
      simp only [Act.put, List.setIfInBounds_toArray, List.set_cons_zero, List.set_cons_succ]
      refine take_first 13 18 (.bool false) rfl (by kernel_rfl) (by kernel_rfl) (by kernel_rfl) (fun _ _ _ h => h) rfl (yieldsIf_move rfl _ rfl rfl) hHeld ?_
      simp only [Act.put, List.setIfInBounds_toArray, List.set_cons_zero, List.set_cons_succ]
      refine take_first 14 19 (undef) rfl (by kernel_rfl) (by kernel_rfl) (by kernel_rfl) (fun _ _ _ h => h) rfl (.inr ⟨by rfl, rfl⟩) hHeld ?_
      simp only [Act.put, List.setIfInBounds_toArray, List.set_cons_zero, List.set_cons_succ]
      refine take_first 15 20 (undef) rfl (by kernel_rfl) (by kernel_rfl) (by kernel_rfl) (fun _ _ _ h => h) rfl (.inr ⟨by rfl, rfl⟩) hHeld ?_
      simp only [Act.put, List.setIfInBounds_toArray, List.set_cons_zero, List.set_cons_succ]
      refine take_first 16 21 (undef) rfl (by kernel_rfl) (by kernel_rfl) (by kernel_rfl) (fun _ _ _ h => h) rfl (.inr ⟨by rfl, rfl⟩) hHeld ?_
      simp only [Act.put, List.setIfInBounds_toArray, List.set_cons_zero, List.set_cons_succ]
      refine take_first 17 22 (undef) rfl (by kernel_rfl) (by kernel_rfl) (by kernel_rfl) (fun _ _ _ h => h) rfl (.inr ⟨by rfl, rfl⟩) hHeld ?_
      simp only [Act.put, List.setIfInBounds_toArray, List.set_cons_zero, List.set_cons_succ]
      refine take_first 18 23 (.bool false) rfl (by kernel_rfl) (by kernel_rfl) (by kernel_rfl) (fun _ _ _ h => h) rfl (.inl ⟨by rfl, fun w' hw' => by go_simp⟩) hHeld ?_
      simp only [Act.put, List.setIfInBounds_toArray, List.set_cons_zero, List.set_cons_succ]
      refine take_first 19 4 (.bool false) rfl (by kernel_rfl) (by kernel_rfl) (by kernel_rfl) (fun _ _ _ h => h) rfl (.inl ⟨by rfl, fun w' hw' => by go_simp⟩) hHeld ?_
      simp only [Act.put, List.setIfInBounds_toArray, List.set_cons_zero, List.set_cons_succ]
      refine wpAnyH_done (by kernel_rfl) ?_ _
      go_wp2
      go_ret
      exact ⟨rfl, BW.out.trans (S1.out.mono (Nat.le_of_lt lW))⟩
    · have E := hide (show rangeOk width n zs = (hashesOk width zs && inR width 1 32) by simp [rangeOk, h2, h3, Bool.and_comm])
      rw [h2] at CS
      replace CS := hide CS
      rw [E.out]
      go_enter Try.func48, Try.ntmps48
      go_wp2
      obtain ⟨W, hW⟩ : ∃ W, w.alloc (.cells #[.int .i64 n, .slice A zs.length c] 68) = W := ⟨_, rfl⟩
      have f0 : W.cell? ⟨w.heap.size, 0, none⟩ = some (.int .i64 n) := by rw [← hW]; simp
      have f1 : W.cell? ⟨w.heap.size, 1, none⟩ = some (.slice A zs.length c) := by rw [← hW]; simp
      have lW : w.heap.size < W.heap.size := by rw [← hW]; simp
      have BW := hide (show Below w.heap.size w W from hW ▸ (Below.refl _ _).alloc (Nat.le_refl _) _)
      have RW := hide (show Rd W L H A (strs zs) from hW ▸ H1.out.alloc _)
      rw [hW]
      clear hW
      refine wp_region_held_drew (S := fun w' => Below W.heap.size W w') (by kernel_rfl) (below_drew (Below.refl _ _)) (fun hHeld => ?_)
      refine take_first 0 5 (.pointer (some ⟨w.heap.size, 0, none⟩)) rfl (by kernel_rfl) (by kernel_rfl) (by kernel_rfl) (fun _ _ _ h => h) rfl (.inl ⟨by rfl, fun w' hw' => by go_simp⟩) hHeld ?_
      simp only [Act.put, List.setIfInBounds_toArray, List.set_cons_zero, List.set_cons_succ]
      refine take_first 1 6 (.int .i64 n) rfl (by kernel_rfl) (by kernel_rfl) (by kernel_rfl) (fun _ _ _ h => h) rfl (.inl ⟨by rfl, fun w' hw' => by have cc := (Below.cell hw' lW).trans f0; go_simp⟩) hHeld ?_
      simp only [Act.put, List.setIfInBounds_toArray, List.set_cons_zero, List.set_cons_succ]
      refine wpAnyH_ready (rs := [2]) (by kernel_rfl) (by simp) (AllReadyH.cons rfl (fun K hK => ?_) AllReadyH.nil)
      go_simp
      refine (CS.out _).mono ?_
      rintro e w0 ⟨rfl, rfl⟩
      dsimp only
      have S0 := hide hHeld
      clear hHeld
      refine hK.out _ _ (S0.out) (fun hHeld => ?_)
      clear hK K
      refine take_first 3 8 (.bool true) rfl (by kernel_rfl) (by kernel_rfl) (by kernel_rfl) (fun _ _ _ h => h) rfl (yieldsIf_move rfl _ rfl rfl) hHeld ?_
      simp only [Act.put, List.setIfInBounds_toArray, List.set_cons_zero, List.set_cons_succ]
      refine take_first 4 9 (.pointer (some ⟨w.heap.size, 1, none⟩)) rfl (by kernel_rfl) (by kernel_rfl) (by kernel_rfl) (fun _ _ _ h => h) rfl (.inl ⟨by rfl, fun w' hw' => by go_simp⟩) hHeld ?_
      simp only [Act.put, List.setIfInBounds_toArray, List.set_cons_zero, List.set_cons_succ]
      refine take_first 5 10 (.slice A zs.length c) rfl (by kernel_rfl) (by kernel_rfl) (by kernel_rfl) (fun _ _ _ h => h) rfl (.inl ⟨by rfl, fun w' hw' => by have cc := (Below.cell hw' lW).trans f1; go_simp⟩) hHeld ?_
      simp only [Act.put, List.setIfInBounds_toArray, List.set_cons_zero, List.set_cons_succ]
      refine take_first 6 11 (.int .i64 (zs.length : Int)) rfl (by kernel_rfl) (by kernel_rfl) (by kernel_rfl) (fun _ _ _ h => h) rfl (.inl ⟨by rfl, fun w' hw' => by go_simp⟩) hHeld ?_
      simp only [Act.put, List.setIfInBounds_toArray, List.set_cons_zero, List.set_cons_succ]
      refine take_first 7 12 (.pointer (some ⟨w.heap.size, 0, none⟩)) rfl (by kernel_rfl) (by kernel_rfl) (by kernel_rfl) (fun _ _ _ h => h) rfl (.inl ⟨by rfl, fun w' hw' => by go_simp⟩) hHeld ?_
      simp only [Act.put, List.setIfInBounds_toArray, List.set_cons_zero, List.set_cons_succ]
      refine take_first 8 13 (.int .i64 n) rfl (by kernel_rfl) (by kernel_rfl) (by kernel_rfl) (fun _ _ _ h => h) rfl (.inl ⟨by rfl, fun w' hw' => by have cc := (Below.cell hw' lW).trans f0; go_simp⟩) hHeld ?_
      simp only [Act.put, List.setIfInBounds_toArray, List.set_cons_zero, List.set_cons_succ]
      refine wpAnyH_ready (rs := [9]) (by kernel_rfl) (by simp) (AllReadyH.cons rfl (fun K hK => ?_) AllReadyH.nil)
      go_simp
      refine (CP.out _).mono ?_
      rintro e w1 ⟨A1, c1, rfl, hb1, -⟩
      dsimp only
      have S1 := hide (bel_new hHeld hb1 hHeld.size)
      clear hb1 hHeld
      refine hK.out _ _ (S1.out) (fun hHeld => ?_)
      clear hK K
      refine take_first 10 15 (.int .i64 ((peaksI n).length : Int)) rfl (by kernel_rfl) (by kernel_rfl) (by kernel_rfl) (fun _ _ _ h => h) rfl (.inl ⟨by rfl, fun w' hw' => by go_simp⟩) hHeld ?_
      simp only [Act.put, List.setIfInBounds_toArray, List.set_cons_zero, List.set_cons_succ]
      refine take_first 11 16 (.bool true) rfl (by kernel_rfl) (by kernel_rfl) (by kernel_rfl) (fun _ _ _ h => h) rfl (.inl ⟨by rfl, fun w' hw' => by go_simp⟩) hHeld ?_
      simp only [Act.put, List.setIfInBounds_toArray, List.set_cons_zero, List.set_cons_succ]
      refine take_first 12 17 (.bool true) rfl (by kernel_rfl) (by kernel_rfl) (by kernel_rfl) (fun _ _ _ h => h) rfl (.inl ⟨by rfl, fun w' hw' => by go_simp⟩) hHeld ?_
      simp only [Act.put, List.setIfInBounds_toArray, List.set_cons_zero, List.set_cons_succ]
      refine take_first 13 18 (.bool true) rfl (by kernel_rfl) (by kernel_rfl) (by kernel_rfl) (fun _ _ _ h => h) rfl (yieldsIf_move rfl _ rfl rfl) hHeld ?_
      simp only [Act.put, List.setIfInBounds_toArray, List.set_cons_zero, List.set_cons_succ]
      refine take_first 14 19 (.int .i64 width) rfl (by kernel_rfl) (by kernel_rfl) (by kernel_rfl) (fun _ _ _ h => h) rfl (.inl ⟨by rfl, fun w' hw' => by go_simp⟩) hHeld ?_
      simp only [Act.put, List.setIfInBounds_toArray, List.set_cons_zero, List.set_cons_succ]
      refine take_first 15 20 (.pointer (some ⟨w.heap.size, 1, none⟩)) rfl (by kernel_rfl) (by kernel_rfl) (by kernel_rfl) (fun _ _ _ h => h) rfl (.inl ⟨by rfl, fun w' hw' => by go_simp⟩) hHeld ?_
      simp only [Act.put, List.setIfInBounds_toArray, List.set_cons_zero, List.set_cons_succ]
      refine take_first 16 21 (.slice A zs.length c) rfl (by kernel_rfl) (by kernel_rfl) (by kernel_rfl) (fun _ _ _ h => h) rfl (.inl ⟨by rfl, fun w' hw' => by have cc := (Below.cell hw' lW).trans f1; go_simp⟩) hHeld ?_
      simp only [Act.put, List.setIfInBounds_toArray, List.set_cons_zero, List.set_cons_succ]
      refine wpAnyH_ready (rs := [17]) (by kernel_rfl) (by simp) (AllReadyH.cons rfl (fun K hK => ?_) AllReadyH.nil)
      go_simp
      refine (s_l04Hashes width zs A c L H _ (RW.out.below S1.out) hn).mono ?_
      rintro e w2 ⟨rfl, rfl⟩
      dsimp only
      clear hHeld
      refine hK.out _ _ (S1.out) (fun hHeld => ?_)
      clear hK K
      refine take_first 18 23 (.bool (hashesOk width zs && inR width 1 32)) rfl (by kernel_rfl) (by kernel_rfl) (by kernel_rfl) (fun _ _ _ h => h) rfl (.inl ⟨by rfl, fun w' hw' => by go_simp⟩) hHeld ?_
      simp only [Act.put, List.setIfInBounds_toArray, List.set_cons_zero, List.set_cons_succ]
      refine take_first 19 4 (.bool (hashesOk width zs && inR width 1 32)) rfl (by kernel_rfl) (by kernel_rfl) (by kernel_rfl) (fun _ _ _ h => h) rfl (.inl ⟨by rfl, fun w' hw' => by go_simp⟩) hHeld ?_
      simp only [Act.put, List.setIfInBounds_toArray, List.set_cons_zero, List.set_cons_succ]
      refine wpAnyH_done (by kernel_rfl) ?_ _
      go_wp2
      go_ret
      exact ⟨rfl, BW.out.trans (S1.out.mono (Nat.le_of_lt lW))⟩
theorem l_szRange_in (n : Int) (zs : List ByteArray) (A : Option Addr) (c L H : Nat) (l : Int) (w : World) (h : Rd w L H A (strs zs)) (hl : (zs.length : Int) + sumLen zs ≤ l) (h2 : l ≤ 1048576) :
    Calls Try.prog 47 #[.agg #[.int .i64 n, .slice A zs.length c], .int .i64 l] w fun e w' => e = .returned (.int .i64 (l - zs.length - sumLen zs)) ∧ w.alloc (.cells #[.int .i64 n, .slice A zs.length c] 65) = w' := by
  have g : 0 ≤ l - zs.length - sumLen zs := by omega
  have H1 := hide h
  clear h
  go_enter Try.func47, Try.ntmps47
  go_wp2_with (go_at_call 87; refine (l_szStringS_in _ _ _ _ _ _ _ (H1.out.alloc _) hl h2).mono ?_; rintro e w1 ⟨rfl, rfl⟩)
  go_ret
  exact ⟨rfl, rfl⟩
theorem l_szRange_out (n : Int) (zs : List ByteArray) (A : Option Addr) (c L H : Nat) (l : Int) (w : World) (h : Rd w L H A (strs zs)) (hl : l < (zs.length : Int) + sumLen zs) (h0 : 0 ≤ l) (h2 : l ≤ 1048576) (hn : zs.length ≤ 9223372036854775807) (hs : ∀ s ∈ zs, s.size ≤ 9223372036854775807) :
    Calls Try.prog 47 #[.agg #[.int .i64 n, .slice A zs.length c], .int .i64 l] w fun e w' => e = .returned (.int .i64 (-1)) ∧ w.alloc (.cells #[.int .i64 n, .slice A zs.length c] 65) = w' := by
  have H1 := hide h
  have HS := hide hs
  clear h hs
  go_enter Try.func47, Try.ntmps47
  go_wp2_with (go_at_call 87; refine (l_szStringS_out _ _ _ _ _ _ _ (H1.out.alloc _) hl h0 h2 hn HS.out).mono ?_; rintro e w1 ⟨rfl, rfl⟩)
  go_ret
  exact ⟨rfl, rfl⟩
set_option maxHeartbeats 400000 in
theorem l_toRange (n : Int) (zs : List ByteArray) (A : Option Addr) (c L H : Nat) (w : World) (h : Rd w L H A (strs zs)) (hn : zs.length ≤ 1048576) :
    Calls Try.prog 49 #[.agg #[.int .i64 n, .slice A zs.length c]] w fun e w' => ∃ A' c', e = .returned (.agg #[.int .i64 n, .slice A' zs.length c']) ∧ Below w.heap.size w w' ∧ Own w' w.heap.size w'.heap.size 9 (.slice A' zs.length c') (strs zs) := by
  have H1 := hide h
  clear h
  go_enter Try.func49, Try.ntmps49
  go_wp2_with (go_at_call 90; refine (l_toStringS zs A c L H _ (by repeat (first | exact H1.out | apply Rd.alloc | refine Rd.top ?_ | (refine Rd.setCell ?_ (.inl ?_) _))) hn).mono ?_; rintro e w1 ⟨A1, c1, rfl, hb1, ho1⟩; obtain ⟨hc, hf⟩ := bcell hb1; have hz : w.heap.size + 2 < w1.heap.size := by (have := hb1.size; simp at this; omega))
  simp only [World.size_alloc] at ho1
  refine bodyPost_ret (v := .agg #[.int .i64 n, .slice A1 zs.length c1]) (by simp [results, Try.results49, go_sem, hc]) rfl ⟨A1, c1, rfl, ?_, ?_⟩
  · repeat (first | with_reducible refine Below.setCell ?_ (by (try simp); (try omega)) _ | with_reducible refine bel_new ?_ hb1 (by (try simp); (try omega)) | with_reducible refine Below.alloc ?_ (by (try simp); (try omega)) _ | with_reducible exact Below.refl _ _)
  · refine Own.top (C := w1.heap.size) (Own.wide (B := w.heap.size + 1 + 1 + 1) (C := w1.heap.size) ?_ (by omega) (Nat.le_refl _))
    repeat (first | with_reducible exact ho1 | with_reducible refine Own.setCell ?_ (.inl (by simp)) _)
set_option maxHeartbeats 400000 in
theorem l_eqRange (n : Int) (zs : List ByteArray) (A A' : Option Addr) (c c' L H L' H' : Nat) (w : World) (h : Rd w L H A (strs zs)) (h' : Rd w L' H' A' (strs zs)) (hn : zs.length ≤ 9223372036854775807) :
    Calls Try.prog 51 #[.agg #[.int .i64 n, .slice A zs.length c], .agg #[.int .i64 n, .slice A' zs.length c']] w fun e w' => e = .returned (.bool true) ∧ ∃ o1 o2 n, ((w.alloc o1).alloc o2).drewN n = w' := by
  have H1 := hide h
  have H2 := hide h'
  clear h h'
  go_enter Try.func51, Try.ntmps51
  go_wp2_with (go_at_call 94; refine (l_eqStringS zs A A' c c' L H L' H' _ (by repeat (first | exact H1.out | apply Rd.alloc)) (by repeat (first | exact H2.out | apply Rd.alloc)) hn).mono ?_; rintro e w1 ⟨rfl, n1, rfl⟩)
  go_ret
  exact ⟨rfl, _, _, _, rfl⟩
end Go.Proofs.Yticpedlcfakaeaa

/-
  The walks of FeedEnd, the program's and the reference's.
-/
import Derived.Test.YtceeaejhlpdalaaHashes
import Derived.Test.YtceeaejhlpdalaaMixIn
namespace Go.Proofs.Ytceeaejhlpdalaa
set_option linter.unusedVariables false
open Go.RowKit

/-- FeedEnd. -/
def endI (a : Int) (zs : List Int) (r : ByteArray) (d : Int) (ok : Bool) : ByteArray := if ok then chainT a.toNat (mixT zs (r ++ padText d.toNat)) else ⟨#[]⟩
theorem feedOk_spec {a b : Int} {n : Nat} {r : ByteArray} {d : Int} (h : feedOk a b n r d = true) : (1 ≤ a ∧ a ≤ 32) ∧ (0 ≤ b ∧ b ≤ 255) ∧ n = 8 ∧ (0 ≤ d ∧ d ≤ 4000) ∧ (r.size : Int) = d % 64 := by
  simp only [feedOk, Bool.and_eq_true, decide_eq_true_eq, beq_iff_eq] at h
  obtain ⟨⟨⟨⟨h1, h2⟩, h3⟩, h4⟩, h5⟩ := h
  exact ⟨inR_spec h1, inR_spec h2, h3, inR_spec h4, h5⟩
set_option maxRecDepth 100000 in
set_option maxHeartbeats 1000000 in
theorem i_FeedEnd_in (a : Nat) (b : Int) (zs : List Int) (A : Option Addr) (c B C : Nat) (r : ByteArray) (d : Nat) (ha : a ≤ 32) (hz : zs.length = 8) (hw : wordsOk zs) (hd : d ≤ 4000) (hr : r.size ≤ 64) (hok : feedOk (a : Int) b 8 r (d : Int) = true) (w : World) (h : Own w B C 47 (.slice A 8 c) (ints .u32 zs)) :
    Calls Try.prog 14 #[.agg #[.int .i64 (a : Int), .int .i64 b, .slice A 8 c, .string r, .int .i64 (d : Int)]] w fun e w' => e = .returned (.tuple #[.string (chainT a (mixT zs (r ++ padText d))), .bool true]) ∧ Below w.heap.size w w' := by
  obtain ⟨g, rfl, -⟩ := h.at2 (k := 0) (by rw [length_ints, hz]; decide)
  have lg0 := (h.at3 (k := 0) (by rw [length_ints, hz]; decide)).2.2.1
  have R0 := hide h.range
  have i1 := hide (show (Try.prog.info? 49).map (·.size) = some (ints .u32 zs).length by rw [length_ints, hz]; exact info_chain)
  have hp := padText_size d
  have hpz := padZ_le d
  have gs : ¬ 9223372036854775807 < r.size + (padText d).size := big_sum (by omega)
  have g2 : (r ++ padText d).size ≤ 1099511627776 := by simp; omega
  obtain ⟨T, hT⟩ : ∃ T, r ++ padText d = T := ⟨_, rfl⟩
  have CM := hide (i_mixAll zs hz T (by rw [← hT]; exact g2))
  have CC := hide (i_chainText a (mixT zs T) (length_mixT _ _ hz) (mixT_ok _ _ hw) ha)
  clear h hz hw hp hpz g2
  rw [hT]
  go_enter Try.func14, Try.ntmps14
  go_wp2_with (go_at_call 15; refine (i_FeedOk (a : Int) b _ 8 c r (d : Int) _).mono ?_; rintro e w1 ⟨rfl, rfl⟩)
  obtain ⟨W, hW⟩ : ∃ W, (w.alloc (.cells #[.int .i64 (a : Int), .int .i64 b, .slice (some ⟨g, 0, none⟩) 8 c, .string r, .int .i64 (d : Int)] 35)).alloc (.cells #[.int .i64 (a : Int), .int .i64 b, .slice (some ⟨g, 0, none⟩) 8 c, .string r, .int .i64 (d : Int)] 35) = W := ⟨_, rfl⟩
  rw [hW]
  have c0 : W.cell? ⟨w.heap.size, 0, none⟩ = some (.int .i64 (a : Int)) := by rw [← hW]; simp
  have c2 : W.cell? ⟨w.heap.size, 2, none⟩ = some (.slice (some ⟨g, 0, none⟩) 8 c) := by rw [← hW]; simp
  have c3 : W.cell? ⟨w.heap.size, 3, none⟩ = some (.string r) := by rw [← hW]; simp
  have c4 : W.cell? ⟨w.heap.size, 4, none⟩ = some (.int .i64 (d : Int)) := by rw [← hW]; simp
  have lN : w.heap.size < W.heap.size := by rw [← hW]; simp; omega
  have B0 := hide (show Below w.heap.size w W from hW ▸ ((Below.refl _ _).alloc (Nat.le_refl _) _).alloc (by simp) _)
  have R := hide (range_below R0.out lg0 B0.out)
  have lg : g < W.heap.size := by omega
  clear hW R0
  refine wp_region_held_drew (S := fun w' => Below W.heap.size W w') (by kernel_rfl) (below_drew (Below.refl _ _)) (fun hHeld => ?_)
  refine take_first 0 7 (.pointer (some ⟨w.heap.size, 0, none⟩)) rfl (by kernel_rfl) (by kernel_rfl) (by kernel_rfl) (fun _ _ _ h => h) rfl (.inl ⟨by rfl, fun w' hw' => by go_simp⟩) hHeld ?_
  simp only [Act.put, List.setIfInBounds_toArray, List.set_cons_zero, List.set_cons_succ]
  refine take_first 1 8 (.int .i64 (a : Int)) rfl (by kernel_rfl) (by kernel_rfl) (by kernel_rfl) (fun _ _ _ h => h) rfl (.inl ⟨by rfl, fun w' hw' => by have cc := (Below.cell hw' lN).trans c0; go_simp⟩) hHeld ?_
  simp only [Act.put, List.setIfInBounds_toArray, List.set_cons_zero, List.set_cons_succ]
  refine take_first 2 9 (.pointer (some ⟨w.heap.size, 2, none⟩)) rfl (by kernel_rfl) (by kernel_rfl) (by kernel_rfl) (fun _ _ _ h => h) rfl (.inl ⟨by rfl, fun w' hw' => by go_simp⟩) hHeld ?_
  simp only [Act.put, List.setIfInBounds_toArray, List.set_cons_zero, List.set_cons_succ]
  refine take_first 3 10 (.slice (some ⟨g, 0, none⟩) 8 c) rfl (by kernel_rfl) (by kernel_rfl) (by kernel_rfl) (fun _ _ _ h => h) rfl (.inl ⟨by rfl, fun w' hw' => by have cc := (Below.cell hw' lN).trans c2; go_simp⟩) hHeld ?_
  simp only [Act.put, List.setIfInBounds_toArray, List.set_cons_zero, List.set_cons_succ]
  refine take_first 4 11 (.pointer (some ⟨g, 0, none⟩)) rfl (by kernel_rfl) (by kernel_rfl) (by kernel_rfl) (fun _ _ _ h => h) rfl (yieldsIf_array rfl 49 _ rfl rfl Try.underlying49 (by omega) (by omega)) hHeld ?_
  simp only [Act.put, List.setIfInBounds_toArray, List.set_cons_zero, List.set_cons_succ]
  refine take_first 5 12 (.agg (ints .u32 zs).toArray) rfl (by kernel_rfl) (by kernel_rfl) (by kernel_rfl) (fun _ _ _ h => h) rfl (yieldsIf_load_mid rfl 49 _ rfl g 0 rfl (ints .u32 zs) _ (fun w' hw' => range_below R.out lg hw') Try.underlying49 rfl i1.out) hHeld ?_
  simp only [Act.put, List.setIfInBounds_toArray, List.set_cons_zero, List.set_cons_succ]
  refine take_first 6 13 (.pointer (some ⟨w.heap.size, 3, none⟩)) rfl (by kernel_rfl) (by kernel_rfl) (by kernel_rfl) (fun _ _ _ h => h) rfl (.inl ⟨by rfl, fun w' hw' => by go_simp⟩) hHeld ?_
  simp only [Act.put, List.setIfInBounds_toArray, List.set_cons_zero, List.set_cons_succ]
  refine take_first 7 14 (.string r) rfl (by kernel_rfl) (by kernel_rfl) (by kernel_rfl) (fun _ _ _ h => h) rfl (.inl ⟨by rfl, fun w' hw' => by have cc := (Below.cell hw' lN).trans c3; go_simp⟩) hHeld ?_
  simp only [Act.put, List.setIfInBounds_toArray, List.set_cons_zero, List.set_cons_succ]
  refine take_first 8 15 (.pointer (some ⟨w.heap.size, 4, none⟩)) rfl (by kernel_rfl) (by kernel_rfl) (by kernel_rfl) (fun _ _ _ h => h) rfl (.inl ⟨by rfl, fun w' hw' => by go_simp⟩) hHeld ?_
  simp only [Act.put, List.setIfInBounds_toArray, List.set_cons_zero, List.set_cons_succ]
  refine take_first 9 16 (.int .i64 (d : Int)) rfl (by kernel_rfl) (by kernel_rfl) (by kernel_rfl) (fun _ _ _ h => h) rfl (.inl ⟨by rfl, fun w' hw' => by have cc := (Below.cell hw' lN).trans c4; go_simp⟩) hHeld ?_
  simp only [Act.put, List.setIfInBounds_toArray, List.set_cons_zero, List.set_cons_succ]
  refine wpAnyH_ready (rs := [10]) (by kernel_rfl) (by simp) (AllReadyH.cons rfl (fun K hK => ?_) AllReadyH.nil)
  go_simp
  refine (i_padOf d hd _).mono ?_
  rintro e w1 ⟨rfl, hb1⟩
  dsimp only
  have S1 := hide (bel_new hHeld hb1 hHeld.size)
  clear hb1 hHeld
  refine hK.out _ _ (S1.out) (fun hHeld => ?_)
  clear hK K
  refine take_first 11 18 (.string T) rfl (by kernel_rfl) (by kernel_rfl) (by kernel_rfl) (fun _ _ _ h => h) rfl (.inl ⟨by rfl, fun w' hw' => by go_simp⟩) hHeld ?_
  simp only [Act.put, List.setIfInBounds_toArray, List.set_cons_zero, List.set_cons_succ]
  refine wpAnyH_ready (rs := [12]) (by kernel_rfl) (by simp) (AllReadyH.cons rfl (fun K hK => ?_) AllReadyH.nil)
  go_simp
  refine (CM.out _).mono ?_
  rintro e w2 ⟨rfl, hb2⟩
  dsimp only
  have S2 := hide (bel_new hHeld hb2 hHeld.size)
  clear hb2 hHeld
  refine hK.out _ _ (S2.out) (fun hHeld => ?_)
  clear hK K
  refine wpAnyH_ready (rs := [13]) (by kernel_rfl) (by simp) (AllReadyH.cons rfl (fun K hK => ?_) AllReadyH.nil)
  go_simp
  refine (CC.out _).mono ?_
  rintro e w3 ⟨rfl, hb3⟩
  dsimp only
  have S3 := hide (bel_new hHeld hb3 hHeld.size)
  clear hb3 hHeld
  refine hK.out _ _ (S3.out) (fun hHeld => ?_)
  clear hK K
  refine take_first 14 2 (.string (chainT a (mixT zs T))) rfl (by kernel_rfl) (by kernel_rfl) (by kernel_rfl) (fun _ _ _ h => h) rfl (.inl ⟨by rfl, fun w' hw' => by go_simp⟩) hHeld ?_
  simp only [Act.put, List.setIfInBounds_toArray, List.set_cons_zero, List.set_cons_succ]
  refine take_first 15 3 (.bool true) rfl (by kernel_rfl) (by kernel_rfl) (by kernel_rfl) (fun _ _ _ h => h) rfl (.inl ⟨by rfl, fun w' hw' => by go_simp⟩) hHeld ?_
  simp only [Act.put, List.setIfInBounds_toArray, List.set_cons_zero, List.set_cons_succ]
  refine wpAnyH_done (by kernel_rfl) ?_ _
  go_wp2
  go_ret2
  exact ⟨rfl, B0.out.trans (S3.out.mono B0.out.size)⟩
theorem i_FeedEnd (a b : Int) (zs : List Int) (A : Option Addr) (c B C : Nat) (r : ByteArray) (d : Int) (hw : wordsOk zs) (w : World) (h : Own w B C 47 (.slice A zs.length c) (ints .u32 zs)) :
    Calls Try.prog 14 #[.agg #[.int .i64 a, .int .i64 b, .slice A zs.length c, .string r, .int .i64 d]] w fun e w' => e = .returned (.tuple #[.string (endI a zs r d (feedOk a b zs.length r d)), .bool (feedOk a b zs.length r d)]) ∧ Below w.heap.size w w' := by
  cases hk : feedOk a b zs.length r d
  · clear h hw
    show Calls _ _ _ _ fun e w' => e = .returned (.tuple #[.string ⟨#[]⟩, .bool false]) ∧ _
    go_enter Try.func14, Try.ntmps14
    go_wp2_with (go_at_call 15; refine (i_FeedOk a b _ zs.length c r d _).mono ?_; rintro e w1 ⟨rfl, rfl⟩)
    go_ret2
    exact ⟨rfl, ((Below.refl _ _).alloc (Nat.le_refl _) _).alloc (by simp) _⟩
  · obtain ⟨h1, h2, h3, h4, h5⟩ := feedOk_spec hk
    obtain ⟨N, rfl⟩ := Int.eq_ofNat_of_zero_le (show 0 ≤ a by omega)
    obtain ⟨D, rfl⟩ := Int.eq_ofNat_of_zero_le h4.1
    rw [h3] at h hk ⊢
    exact i_FeedEnd_in N b zs A c B C r D (by omega) h3 hw (by omega) (by omega) hk w h
end Go.Proofs.Ytceeaejhlpdalaa

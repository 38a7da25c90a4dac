/-
  The walks of FeedEnd, the program's and the reference's.
-/
import Derived.Test.YtcnhmidiakojhaaHashes
import Derived.Test.YtcnhmidiakojhaaMixIn
namespace Go.Proofs.Ytcnhmidiakojhaa
set_option linter.unusedVariables false
open Go.RowKit

/-- FeedEnd. -/
def endI (a : Int) (zs : List Int) (r : ByteArray) (d : Int) (ok : Bool) : ByteArray := if ok then chainT a.toNat (mixT zs (r ++ padText d.toNat)) else ⟨#[]⟩
theorem feedOk_spec {a b : Int} {n : Nat} {r : ByteArray} {d : Int} (h : feedOk a b n r d = true) : (1 ≤ a ∧ a ≤ 32) ∧ (0 ≤ b ∧ b ≤ 255) ∧ n = 8 ∧ (0 ≤ d ∧ d ≤ 4000) ∧ (r.size : Int) = d % 64 := by
  simp only [feedOk, Bool.and_eq_true, decide_eq_true_eq, beq_iff_eq] at h
  obtain ⟨⟨⟨⟨h1, h2⟩, h3⟩, h4⟩, h5⟩ := h
  exact ⟨inR_spec h1, inR_spec h2, h3, inR_spec h4, h5⟩
set_option maxRecDepth 100000 in
set_option maxHeartbeats 1000000 in
theorem i_FeedEnd_in (a : Nat) (b : Int) (zs : List Int) (A : Option Addr) (c B C : Nat) (r : ByteArray) (d : Nat) (ha : a ≤ 32) (hz : zs.length = 8) (hw : wordsOk zs) (hd : d ≤ 4000) (hr : r.size ≤ 64) (hok : feedOk (a : Int) b 8 r (d : Int) = true) (w : World) (h : Own w B C 60 (.slice A 8 c) (ints .u32 zs)) :
    Calls Try.prog 24 #[.agg #[.int .i64 (a : Int), .int .i64 b, .slice A 8 c, .string r, .int .i64 (d : Int)]] w fun e w' => e = .returned (.tuple #[.string (chainT a (mixT zs (r ++ padText d))), .bool true]) ∧ Below w.heap.size w w' := by
  obtain ⟨g, rfl, -⟩ := h.at2 (k := 0) (by rw [length_ints, hz]; decide)
  have lg0 := (h.at3 (k := 0) (by rw [length_ints, hz]; decide)).2.2.1
  have R0 := hide h.range
  have i1 := hide (show (Try.prog.info? 62).map (·.size) = some (ints .u32 zs).length by rw [length_ints, hz]; exact info_chain)
  have hp := padText_size d
  have hpz := padZ_le d
  have gs : ¬ 9223372036854775807 < r.size + (padText d).size := big_sum (by omega)
  have g2 : (r ++ padText d).size ≤ 1099511627776 := by simp; omega
  obtain ⟨T, hT⟩ : ∃ T, r ++ padText d = T := ⟨_, rfl⟩
  have CM := hide (i_mixAll zs hz T (by rw [← hT]; exact g2))
  have CC := hide (i_chainText a (mixT zs T) (length_mixT _ _ hz) (mixT_ok _ _ hw) ha)
  clear h hz hw hp hpz g2
  rw [hT]
  go_enter Try.func24, Try.ntmps24
  go_wp2_with (go_at_call 37; refine (i_FeedOk (a : Int) b _ 8 c r (d : Int) _).mono ?_; rintro e w1 ⟨rfl, rfl⟩)
  obtain ⟨W, hW⟩ : ∃ W, (w.alloc (.cells #[.int .i64 (a : Int), .int .i64 b, .slice (some ⟨g, 0, none⟩) 8 c, .string r, .int .i64 (d : Int)] 26)).alloc (.cells #[.int .i64 (a : Int), .int .i64 b, .slice (some ⟨g, 0, none⟩) 8 c, .string r, .int .i64 (d : Int)] 26) = W := ⟨_, rfl⟩
  rw [hW]
  have c0 : W.cell? ⟨w.heap.size, 0, none⟩ = some (.int .i64 (a : Int)) := by rw [← hW]; simp
  have c2 : W.cell? ⟨w.heap.size, 2, none⟩ = some (.slice (some ⟨g, 0, none⟩) 8 c) := by rw [← hW]; simp
  have c3 : W.cell? ⟨w.heap.size, 3, none⟩ = some (.string r) := by rw [← hW]; simp
  have c4 : W.cell? ⟨w.heap.size, 4, none⟩ = some (.int .i64 (d : Int)) := by rw [← hW]; simp
  have lN : w.heap.size < W.heap.size := by rw [← hW]; simp; omega
  have B0 := hide (show Below w.heap.size w W from hW ▸ ((Below.refl _ _).alloc (Nat.le_refl _) _).alloc (by simp) _)
  have R := hide (range_below R0.out lg0 B0.out)
  have lg : g < W.heap.size := by omega
  clear hW R0
  refine wp_region_held_drew (S := fun w' => Below W.heap.size W w') (by kernel_rfl) (below_drew (Below.refl _ _)) (fun hHeld => ?_)
  refine take_first 0 7 (.pointer (some ⟨w.heap.size, 0, none⟩)) rfl (by kernel_rfl) (by kernel_rfl) (by kernel_rfl) (fun _ _ _ h => h) rfl (.inl ⟨by rfl, fun w' hw' => by go_simp⟩) hHeld ?_
  simp only [Act.put, List.setIfInBounds_toArray, List.set_cons_zero, List.set_cons_succ]
  refine take_first 1 8 (.int .i64 (a : Int)) rfl (by kernel_rfl) (by kernel_rfl) (by kernel_rfl) (fun _ _ _ h => h) rfl (.inl ⟨by rfl, fun w' hw' => by have cc := (Below.cell hw' lN).trans c0; go_simp⟩) hHeld ?_
  simp only [Act.put, List.setIfInBounds_toArray, List.set_cons_zero, List.set_cons_succ]
  refine take_first 2 9 (.pointer (some ⟨w.heap.size, 2, none⟩)) rfl (by kernel_rfl) (by kernel_rfl) (by kernel_rfl) (fun _ _ _ h => h) rfl (.inl ⟨by rfl, fun w' hw' => by go_simp⟩) hHeld ?_
  simp only [Act.put, List.setIfInBounds_toArray, List.set_cons_zero, List.set_cons_succ]
  refine take_first 3 10 (.slice (some ⟨g, 0, none⟩) 8 c) rfl (by kernel_rfl) (by kernel_rfl) (by kernel_rfl) (fun _ _ _ h => h) rfl (.inl ⟨by rfl, fun w' hw' => by have cc := (Below.cell hw' lN).trans c2; go_simp⟩) hHeld ?_
  simp only [Act.put, List.setIfInBounds_toArray, List.set_cons_zero, List.set_cons_succ]
  refine take_first 4 11 (.pointer (some ⟨g, 0, none⟩)) rfl (by kernel_rfl) (by kernel_rfl) (by kernel_rfl) (fun _ _ _ h => h) rfl (yieldsIf_array rfl 62 _ rfl rfl Try.underlying62 (by omega) (by omega)) hHeld ?_
  simp only [Act.put, List.setIfInBounds_toArray, List.set_cons_zero, List.set_cons_succ]
  refine take_first 5 12 (.agg (ints .u32 zs).toArray) rfl (by kernel_rfl) (by kernel_rfl) (by kernel_rfl) (fun _ _ _ h => h) rfl (yieldsIf_load_mid rfl 62 _ rfl g 0 rfl (ints .u32 zs) _ (fun w' hw' => range_below R.out lg hw') Try.underlying62 rfl i1.out) hHeld ?_
  simp only [Act.put, List.setIfInBounds_toArray, List.set_cons_zero, List.set_cons_succ]
  refine take_first 6 13 (.pointer (some ⟨w.heap.size, 3, none⟩)) rfl (by kernel_rfl) (by kernel_rfl) (by kernel_rfl) (fun _ _ _ h => h) rfl (.inl ⟨by rfl, fun w' hw' => by go_simp⟩) hHeld ?_
  simp only [Act.put, List.setIfInBounds_toArray, List.set_cons_zero, List.set_cons_succ]
  refine take_first 7 14 (.string r) rfl (by kernel_rfl) (by kernel_rfl) (by kernel_rfl) (fun _ _ _ h => h) rfl (.inl ⟨by rfl, fun w' hw' => by have cc := (Below.cell hw' lN).trans c3; go_simp⟩) hHeld ?_
  simp only [Act.put, List.setIfInBounds_toArray, List.set_cons_zero, List.set_cons_succ]
  refine take_first 8 15 (.pointer (some ⟨w.heap.size, 4, none⟩)) rfl (by kernel_rfl) (by kernel_rfl) (by kernel_rfl) (fun _ _ _ h => h) rfl (.inl ⟨by rfl, fun w' hw' => by go_simp⟩) hHeld ?_
  simp only [Act.put, List.setIfInBounds_toArray, List.set_cons_zero, List.set_cons_succ]
  refine take_first 9 16 (.int .i64 (d : Int)) rfl (by kernel_rfl) (by kernel_rfl) (by kernel_rfl) (fun _ _ _ h => h) rfl (.inl ⟨by rfl, fun w' hw' => by have cc := (Below.cell hw' lN).trans c4; go_simp⟩) hHeld ?_
  simp only [Act.put, List.setIfInBounds_toArray, List.set_cons_zero, List.set_cons_succ]
  refine wpAnyH_ready (rs := [10]) (by kernel_rfl) (by simp) (AllReadyH.cons rfl (fun K hK => ?_) AllReadyH.nil)
  go_simp
  refine (i_padOf d hd _).mono ?_
  rintro e w1 ⟨rfl, hb1⟩
  dsimp only
  have S1 := hide (bel_new hHeld hb1 hHeld.size)
  clear hb1 hHeld
  refine hK.out _ _ (S1.out) (fun hHeld => ?_)
  clear hK K
  refine take_first 11 18 (.string T) rfl (by kernel_rfl) (by kernel_rfl) (by kernel_rfl) (fun _ _ _ h => h) rfl (.inl ⟨by rfl, fun w' hw' => by go_simp⟩) hHeld ?_
  simp only [Act.put, List.setIfInBounds_toArray, List.set_cons_zero, List.set_cons_succ]
  refine wpAnyH_ready (rs := [12]) (by kernel_rfl) (by simp) (AllReadyH.cons rfl (fun K hK => ?_) AllReadyH.nil)
  go_simp
  refine (CM.out _).mono ?_
  rintro e w2 ⟨rfl, hb2⟩
  dsimp only
  have S2 := hide (bel_new hHeld hb2 hHeld.size)
  clear hb2 hHeld
  refine hK.out _ _ (S2.out) (fun hHeld => ?_)
  clear hK K
  refine wpAnyH_ready (rs := [13]) (by kernel_rfl) (by simp) (AllReadyH.cons rfl (fun K hK => ?_) AllReadyH.nil)
  go_simp
  refine (CC.out _).mono ?_
  rintro e w3 ⟨rfl, hb3⟩
  dsimp only
  have S3 := hide (bel_new hHeld hb3 hHeld.size)
  clear hb3 hHeld
  refine hK.out _ _ (S3.out) (fun hHeld => ?_)
  clear hK K
  refine take_first 14 2 (.string (chainT a (mixT zs T))) rfl (by kernel_rfl) (by kernel_rfl) (by kernel_rfl) (fun _ _ _ h => h) rfl (.inl ⟨by rfl, fun w' hw' => by go_simp⟩) hHeld ?_
  simp only [Act.put, List.setIfInBounds_toArray, List.set_cons_zero, List.set_cons_succ]
  refine take_first 15 3 (.bool true) rfl (by kernel_rfl) (by kernel_rfl) (by kernel_rfl) (fun _ _ _ h => h) rfl (.inl ⟨by rfl, fun w' hw' => by go_simp⟩) hHeld ?_
  simp only [Act.put, List.setIfInBounds_toArray, List.set_cons_zero, List.set_cons_succ]
  refine wpAnyH_done (by kernel_rfl) ?_ _
  go_wp2
  go_ret2
  exact ⟨rfl, B0.out.trans (S3.out.mono B0.out.size)⟩
theorem i_FeedEnd (a b : Int) (zs : List Int) (A : Option Addr) (c B C : Nat) (r : ByteArray) (d : Int) (hw : wordsOk zs) (w : World) (h : Own w B C 60 (.slice A zs.length c) (ints .u32 zs)) :
    Calls Try.prog 24 #[.agg #[.int .i64 a, .int .i64 b, .slice A zs.length c, .string r, .int .i64 d]] w fun e w' => e = .returned (.tuple #[.string (endI a zs r d (feedOk a b zs.length r d)), .bool (feedOk a b zs.length r d)]) ∧ Below w.heap.size w w' := by
  cases hk : feedOk a b zs.length r d
  · clear h hw
    show Calls _ _ _ _ fun e w' => e = .returned (.tuple #[.string ⟨#[]⟩, .bool false]) ∧ _
    go_enter Try.func24, Try.ntmps24
    go_wp2_with (go_at_call 37; refine (i_FeedOk a b _ zs.length c r d _).mono ?_; rintro e w1 ⟨rfl, rfl⟩)
    go_ret2
    exact ⟨rfl, ((Below.refl _ _).alloc (Nat.le_refl _) _).alloc (by simp) _⟩
  · obtain ⟨h1, h2, h3, h4, h5⟩ := feedOk_spec hk
    obtain ⟨N, rfl⟩ := Int.eq_ofNat_of_zero_le (show 0 ≤ a by omega)
    obtain ⟨D, rfl⟩ := Int.eq_ofNat_of_zero_le h4.1
    rw [h3] at h hk ⊢
    exact i_FeedEnd_in N b zs A c B C r D (by omega) h3 hw (by omega) (by omega) hk w h
theorem infoU32e : (Try.prog.info? 60).map (fun i => (i.zero, i.size, i.bytes)) = some (some (.int .u32 0), 1, 4) := by kernel_rfl
set_option maxRecDepth 100000 in
set_option maxHeartbeats 1000000 in
theorem s_FeedEnd_in (a : Nat) (b : Int) (zs : List Int) (A : Option Addr) (c L H : Nat) (r : ByteArray) (d : Nat) (ha : a ≤ 32) (hz : zs.length = 8) (hw : wordsOk zs) (hd : d ≤ 4000) (hr : r.size ≤ 64) (hok : feedOk (a : Int) b 8 r (d : Int) = true) (w : World) (h : Rd w L H A (ints .u32 zs)) :
    Calls Try.prog 23 #[.agg #[.int .i64 (a : Int), .int .i64 b, .slice A 8 c, .string r, .int .i64 (d : Int)]] w fun e w' => e = .returned (.tuple #[.string (chainT a (mixT zs (r ++ padText d))), .bool true]) ∧ Below w.heap.size w w' := by
  obtain ⟨ad, rfl, -⟩ := h (by rw [length_ints, hz]; decide)
  have R0 := hide h.top
  have HZ := hide hz
  have HW := hide hw
  have hp := padText_size d
  have hpz := padZ_le d
  have gs : ¬ 9223372036854775807 < r.size + (padText d).size := big_sum (by omega)
  have g2 : (r ++ padText d).size ≤ 1099511627776 := by simp; omega
  obtain ⟨T, hT⟩ : ∃ T, r ++ padText d = T := ⟨_, rfl⟩
  have HT := hide (show T.size ≤ 1099511627776 by rw [← hT]; exact g2)
  clear h hz hw hp hpz g2
  rw [hT]
  go_enter Try.func23, Try.ntmps23
  go_wp2_with fail
  refine (s_FeedOk (a : Int) b _ 8 c r (d : Int) _).mono ?_
  rintro e w1 ⟨rfl, hw1⟩
  have A1 := hide (show Arr w1 w.heap.size 26 [.int .i64 (a : Int), .int .i64 b, .slice (some ad) 8 c, .string r, .int .i64 (d : Int)] by rw [← hw1]; exact (Arr.new w [.int .i64 (a : Int), .int .i64 b, .slice (some ad) 8 c, .string r, .int .i64 (d : Int)] _).alloc _)
  have B1 := hide (show Below w.heap.size w w1 by rw [← hw1]; exact ((Below.refl _ _).alloc (Nat.le_refl _) _).alloc (by simp) _)
  have f4 : w1.cell? ⟨w.heap.size, 4, none⟩ = some (.int .i64 (d : Int)) := A1.out.cell (k := 4) (by simp)
  clear hw1
  go_wp2_with fail
  refine (s_PadOfN d hd _).mono ?_
  rintro e w2 ⟨rfl, hb2⟩
  have A2 := hide (A1.out.below hb2)
  have B2 := hide (bel_new B1.out hb2 B1.out.size)
  have f2 : w2.cell? ⟨w.heap.size, 2, none⟩ = some (.slice (some ad) 8 c) := A2.out.cell (k := 2) (by simp)
  have lt2 : w.heap.size < w2.heap.size := A2.out.lt
  clear hb2 f4
  go_wp2_with (at_builtin; refine wpList_app rfl _ _ _ rfl 60 (.int .u32 0) 4 Try.underlying22 infoU32e rfl w2.heap.size _ _ rfl (Own.made #[] _ _ (Nat.le_refl _) (by simp [maxLen])).top ad 8 c (ints .u32 zs) rfl (by rw [length_ints, HZ.out]) ((R0.out.below B2.out).alloc _).cells (ints_one .u32 zs) (by simp) (by omega) (by simp) ?_; intro v' w3 hown3 hb3 _; have B3s := hide hb3.size; have A3 := hide (A2.out.below (((Below.refl _ _).alloc (Nat.le_refl _) _).trans hb3)); have B3 := hide (bel_new B2.out (((Below.refl _ _).alloc (Nat.le_refl _) _).trans hb3) B2.out.size); have O3 := hide hown3; clear hown3 hb3)
  obtain ⟨A1, c1, rfl, ho⟩ := O3.out.shape
  simp only [List.nil_append] at ho ⊢
  rw [show (ints .u32 zs).length = 8 by rw [length_ints, HZ.out]] at ho ⊢
  replace O3 := hide ho
  have c0 : w3.cell? ⟨w.heap.size, 0, none⟩ = some (.int .i64 (a : Int)) := A3.out.cell (k := 0) (by simp)
  have c3 : w3.cell? ⟨w.heap.size, 3, none⟩ = some (.string r) := A3.out.cell (k := 3) (by simp)
  have lN : w.heap.size < w3.heap.size := A3.out.lt
  have BS : w2.heap.size ≤ w3.heap.size := by have := B3s.out; simp at this; omega
  clear ho f2
  refine wp_region_held_drew (S := fun w' => Below w3.heap.size w3 w') (by kernel_rfl) (below_drew (Below.refl _ _)) (fun hHeld => ?_)
  refine take_first 0 20 (.pointer (some ⟨w.heap.size, 0, none⟩)) rfl (by kernel_rfl) (by kernel_rfl) (by kernel_rfl) (fun _ _ _ h => h) rfl (.inl ⟨by rfl, fun w' hw' => by go_simp⟩) hHeld ?_
  simp only [Act.put, List.setIfInBounds_toArray, List.set_cons_zero, List.set_cons_succ]
  refine take_first 1 21 (.int .i64 (a : Int)) rfl (by kernel_rfl) (by kernel_rfl) (by kernel_rfl) (fun _ _ _ h => h) rfl (.inl ⟨by rfl, fun w' hw' => by have cc := (Below.cell hw' lN).trans c0; go_simp⟩) hHeld ?_
  simp only [Act.put, List.setIfInBounds_toArray, List.set_cons_zero, List.set_cons_succ]
  refine take_first 2 22 (.slice A1 8 c1) rfl (by kernel_rfl) (by kernel_rfl) (by kernel_rfl) (fun _ _ _ h => h) rfl (yieldsIf_move rfl _ rfl rfl) hHeld ?_
  simp only [Act.put, List.setIfInBounds_toArray, List.set_cons_zero, List.set_cons_succ]
  refine take_first 3 23 (.pointer (some ⟨w.heap.size, 3, none⟩)) rfl (by kernel_rfl) (by kernel_rfl) (by kernel_rfl) (fun _ _ _ h => h) rfl (.inl ⟨by rfl, fun w' hw' => by go_simp⟩) hHeld ?_
  simp only [Act.put, List.setIfInBounds_toArray, List.set_cons_zero, List.set_cons_succ]
  refine take_first 4 24 (.string r) rfl (by kernel_rfl) (by kernel_rfl) (by kernel_rfl) (fun _ _ _ h => h) rfl (.inl ⟨by rfl, fun w' hw' => by have cc := (Below.cell hw' lN).trans c3; go_simp⟩) hHeld ?_
  simp only [Act.put, List.setIfInBounds_toArray, List.set_cons_zero, List.set_cons_succ]
  refine take_first 5 25 (.string (padText d)) rfl (by kernel_rfl) (by kernel_rfl) (by kernel_rfl) (fun _ _ _ h => h) rfl (yieldsIf_move rfl _ rfl rfl) hHeld ?_
  simp only [Act.put, List.setIfInBounds_toArray, List.set_cons_zero, List.set_cons_succ]
  refine take_first 6 26 (.string T) rfl (by kernel_rfl) (by kernel_rfl) (by kernel_rfl) (fun _ _ _ h => h) rfl (.inl ⟨by rfl, fun w' hw' => by go_simp⟩) hHeld ?_
  simp only [Act.put, List.setIfInBounds_toArray, List.set_cons_zero, List.set_cons_succ]
  refine wpAnyH_ready (rs := [7]) (by kernel_rfl) (by simp) (AllReadyH.cons rfl (fun K hK => ?_) AllReadyH.nil)
  go_simp
  refine (s_l02Mixed zs HZ.out T HT.out _ _ _ _ BS _ O3.out.rd.drew BS).mono ?_
  rintro e w4 ⟨A4, c4, rfl, hb4, hr4⟩
  dsimp only
  have S4 := hide (bel_new hHeld hb4 hHeld.size)
  have R4 := hide hr4
  clear hb4 hr4 hHeld
  refine hK.out _ _ (S4.out) (fun hHeld => ?_)
  clear hK K
  refine wpAnyH_ready (rs := [8]) (by kernel_rfl) (by simp) (AllReadyH.cons rfl (fun K hK => ?_) AllReadyH.nil)
  go_simp
  refine (s_l02First a (mixT zs T) (length_mixT _ _ HZ.out) (mixT_ok _ _ HW.out) ha _ _ _ _ _ R4.out).mono ?_
  rintro e w5 ⟨rfl, hb5⟩
  dsimp only
  have S5 := hide (bel_new hHeld hb5 hHeld.size)
  clear hb5 hHeld
  refine hK.out _ _ (S5.out) (fun hHeld => ?_)
  clear hK K
  refine take_first 9 2 (.string (chainT a (mixT zs T))) rfl (by kernel_rfl) (by kernel_rfl) (by kernel_rfl) (fun _ _ _ h => h) rfl (.inl ⟨by rfl, fun w' hw' => by go_simp⟩) hHeld ?_
  simp only [Act.put, List.setIfInBounds_toArray, List.set_cons_zero, List.set_cons_succ]
  refine take_first 10 3 (.bool true) rfl (by kernel_rfl) (by kernel_rfl) (by kernel_rfl) (fun _ _ _ h => h) rfl (.inl ⟨by rfl, fun w' hw' => by go_simp⟩) hHeld ?_
  simp only [Act.put, List.setIfInBounds_toArray, List.set_cons_zero, List.set_cons_succ]
  refine wpAnyH_done (by kernel_rfl) ?_ _
  go_wp2
  go_ret2
  exact ⟨rfl, B3.out.trans (S5.out.mono B3.out.size)⟩
theorem s_FeedEnd (a b : Int) (zs : List Int) (A : Option Addr) (c L H : Nat) (r : ByteArray) (d : Int) (hw : wordsOk zs) (w : World) (h : Rd w L H A (ints .u32 zs)) :
    Calls Try.prog 23 #[.agg #[.int .i64 a, .int .i64 b, .slice A zs.length c, .string r, .int .i64 d]] w fun e w' => e = .returned (.tuple #[.string (endI a zs r d (feedOk a b zs.length r d)), .bool (feedOk a b zs.length r d)]) ∧ Below w.heap.size w w' := by
  cases hk : feedOk a b zs.length r d
  · clear h hw
    show Calls _ _ _ _ fun e w' => e = .returned (.tuple #[.string ⟨#[]⟩, .bool false]) ∧ _
    go_enter Try.func23, Try.ntmps23
    go_wp2_with (go_at_call 34; refine (s_FeedOk a b _ zs.length c r d _).mono ?_; rintro e w1 ⟨rfl, rfl⟩)
    go_ret2
    exact ⟨rfl, ((Below.refl _ _).alloc (Nat.le_refl _) _).alloc (by simp) _⟩
  · obtain ⟨h1, h2, h3, h4, h5⟩ := feedOk_spec hk
    obtain ⟨N, rfl⟩ := Int.eq_ofNat_of_zero_le (show 0 ≤ a by omega)
    obtain ⟨D, rfl⟩ := Int.eq_ofNat_of_zero_le h4.1
    rw [h3] at hk ⊢
    exact s_FeedEnd_in N b zs A c L H r D (by omega) h3 hw (by omega) (by omega) hk w h
end Go.Proofs.Ytcnhmidiakojhaa

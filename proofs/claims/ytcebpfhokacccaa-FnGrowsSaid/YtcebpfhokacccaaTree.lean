/-
  The walks over trees of hashes: the root.
-/
import Derived.Test.YtcebpfhokacccaaHashes
import Derived.Test.YtcebpfhokacccaaTreePlain
import Derived.Test.YtcebpfhokacccaaHash
import Derived.Test.YtcebpfhokacccaaNum
namespace Go.Proofs.Ytcebpfhokacccaa
set_option linter.unusedVariables false
open Go.RowKit

def rootW (wd : Nat) (zs : List ByteArray) : ByteArray := rootT (nodeT wd) (emptyT wd) zs
theorem rootA_size {nd : ByteArray → ByteArray → ByteArray} {em : ByteArray} {wd : Nat} (hn : ∀ l r, (nd l r).size = wd) (he : em.size = wd) : ∀ (f : Nat) (zs : List ByteArray), (∀ s ∈ zs, s.size = wd) → (rootA nd em f zs).size = wd
  | 0, _, _ => he
  | f + 1, zs, h => by
    unfold rootA
    split
    · cases zs with
      | nil => exact he
      | cons x _ => exact h x (by simp)
    · exact hn _ _
theorem rootW_size {wd : Nat} (h32 : wd ≤ 32) (zs : List ByteArray) (h : ∀ s ∈ zs, s.size = wd) : (rootW wd zs).size = wd := rootA_size (fun l r => nodeT_size wd l r h32) (emptyT_size wd h32) _ zs h
theorem nodeOk_in {wd : Nat} {l r : ByteArray} (h1 : 1 ≤ wd) (h32 : wd ≤ 32) (sl : l.size = wd) (sr : r.size = wd) : nodeOk (wd : Int) l r = true := by
  simp [nodeOk, inR, sl, sr]; omega
theorem nodeI_in {wd : Nat} {l r : ByteArray} (h1 : 1 ≤ wd) (h32 : wd ≤ 32) (sl : l.size = wd) (sr : r.size = wd) : nodeI (wd : Int) l r = nodeT wd l r := by
  rw [nodeI, if_pos (nodeOk_in h1 h32 sl sr)]; rfl
set_option maxRecDepth 100000 in
set_option maxHeartbeats 2000000 in
theorem i_rootOf (wd : Nat) (h1 : 1 ≤ wd) (h32 : wd ≤ 32) : ∀ (N : Nat) (zs : List ByteArray) (A : Option Addr) (c L H : Nat) (w : World), zs.length ≤ N → zs.length ≤ 512 → (∀ s ∈ zs, s.size = wd) → zs.length ≤ c → c ≤ maxLen → Rd w L H A (strs zs) →
    Calls Try.prog 35 #[.int .i64 (wd : Int), .slice A zs.length c] w fun e w' => e = .returned (.string (rootW wd zs)) ∧ Below w.heap.size w w' := by
  intro N
  induction N with
  | zero =>
    intro zs A c L H w hN _ _ _ _ _
    obtain rfl : zs = [] := List.eq_nil_of_length_eq_zero (by omega)
    show Calls _ _ #[.int .i64 (wd : Int), .slice A 0 c] w fun e w' => e = .returned (.string (emptyT wd)) ∧ _
    go_enter Try.func35, Try.ntmps35
    go_wp2_with (go_at_call 45; refine (i_emptyRoot wd h1 h32 _).mono ?_; rintro e w1 ⟨rfl, hb⟩)
    go_ret
    exact ⟨rfl, hb⟩
  | succ N IH =>
    intro zs A c L H w hN h512 hm hc hc2 h
    unfold maxLen at hc2
    by_cases hl0 : zs.length = 0
    · obtain rfl : zs = [] := List.eq_nil_of_length_eq_zero (by omega)
      show Calls _ _ #[.int .i64 (wd : Int), .slice A 0 c] w fun e w' => e = .returned (.string (emptyT wd)) ∧ _
      clear h
      go_enter Try.func35, Try.ntmps35
      go_wp2_with (go_at_call 45; refine (i_emptyRoot wd h1 h32 _).mono ?_; rintro e w1 ⟨rfl, hb⟩)
      go_ret
      exact ⟨rfl, hb⟩
    by_cases hl1 : zs.length = 1
    · obtain ⟨x, rfl⟩ : ∃ x, zs = [x] := List.length_eq_one_iff.1 hl1
      obtain ⟨ad, rfl, -, -, hx⟩ := h.at_ (k := 0) (by simp [strs])
      have e0 : rootW wd [x] = x := rootT_one _ _ x
      rw [e0]
      have hx1 : w.cell? (ad.add 0) = some (.string x) := by simpa [strs] using hx
      have hx0 : w.cell? ad = some (.string x) := hx1
      clear hx h e0 hx1
      show Calls _ _ #[.int .i64 (wd : Int), .slice (some ad) 1 c] w _
      go_enter Try.func35, Try.ntmps35
      go_wp2_with fail
      go_ret
      exact ⟨rfl, Below.refl _ _⟩
    have hl2 : 2 ≤ zs.length := by omega
    obtain ⟨k0, k1, k2⟩ := half_spec hl2
    have hk : halfI (zs.length : Int) = (halfOf zs.length : Int) := by simp [halfI]; omega
    obtain ⟨k, hkk⟩ : ∃ k, halfOf zs.length = k := ⟨_, rfl⟩
    have eR : rootW wd zs = nodeT wd (rootW wd (zs.take k)) (rootW wd (zs.drop k)) := hkk ▸ rootT_more _ _ hl2
    rw [hkk] at k0 k1 k2 hk
    obtain ⟨l, hl⟩ : ∃ l, rootW wd (zs.take k) = l := ⟨_, rfl⟩
    obtain ⟨r, hr⟩ : ∃ r, rootW wd (zs.drop k) = r := ⟨_, rfl⟩
    have sl : l.size = wd := hl ▸ rootW_size h32 _ (fun s hs => hm s (List.mem_of_mem_take hs))
    have sr : r.size = wd := hr ▸ rootW_size h32 _ (fun s hs => hm s (List.mem_of_mem_drop hs))
    have hlr : l.size + r.size ≤ 4000 := by omega
    have CL := hide (show ∀ W, Rd W L H A (strs zs) → Calls Try.prog 35 #[.int .i64 (wd : Int), .slice A k c] W fun e w' => e = .returned (.string l) ∧ Below W.heap.size W w' from fun W hW => by
      have hz : (zs.take k).length = k := by rw [List.length_take]; omega
      have := IH (zs.take k) A c L H W (by omega) (by omega) (fun s hs => hm s (List.mem_of_mem_take hs)) (by omega) hc2 (by rw [strs, List.map_take]; exact hW.take k)
      rwa [hz, hl] at this)
    have CR := hide (show ∀ W, Rd W L H A (strs zs) → Calls Try.prog 35 #[.int .i64 (wd : Int), .slice (if c = k then A else A.map (·.add k)) (zs.length - k) (c - k)] W fun e w' => e = .returned (.string r) ∧ Below W.heap.size W w' from fun W hW => by
      have hz : (zs.drop k).length = zs.length - k := by rw [List.length_drop]
      have := IH (zs.drop k) (if c = k then A else A.map (·.add k)) (c - k) L H W (by omega) (by omega) (fun s hs => hm s (List.mem_of_mem_drop hs)) (by omega) (by unfold maxLen; omega) (by rw [strs, List.map_drop]; exact hW.drop (by simpa [strs] using hc))
      rwa [hz, hr] at this)
    rw [eR, hl, hr]
    skip
    have HR := hide h
    clear h IH hm eR hl hr hkk
    have g1 : ¬ c < k := by omega
    have g2 : ¬ zs.length < k := by omega
    have q0 : ((zs.length : Int) == 0) = false := by simp only [beq_eq_false_iff_ne]; omega
    have q1 : ((zs.length : Int) == 1) = false := by simp only [beq_eq_false_iff_ne]; omega
    go_enter Try.func35, Try.ntmps35
    go_wp2_with (go_at_call 16; refine (i_HalfOf _ _).mono ?_; rintro e w1 ⟨rfl, rfl⟩)
    obtain ⟨W, hW⟩ : ∃ W, w = W := ⟨_, rfl⟩
    subst hW
    obtain ⟨W, rfl⟩ : ∃ W, W = w := ⟨_, rfl⟩
    refine wp_region_held_drew (S := fun w' => Below W.heap.size W w') (by kernel_rfl) (below_drew (Below.refl _ _)) (fun hHeld => ?_)
    refine take_first 0 20 (.int .i64 (wd : Int)) rfl (by kernel_rfl) (by kernel_rfl) (by kernel_rfl) (fun _ _ _ h => h) rfl (yieldsIf_move rfl _ rfl rfl) hHeld ?_
    simp only [Act.put, List.setIfInBounds_toArray, List.set_cons_zero, List.set_cons_succ]
    refine take_first 1 21 (.int .i64 (wd : Int)) rfl (by kernel_rfl) (by kernel_rfl) (by kernel_rfl) (fun _ _ _ h => h) rfl (yieldsIf_move rfl _ rfl rfl) hHeld ?_
    simp only [Act.put, List.setIfInBounds_toArray, List.set_cons_zero, List.set_cons_succ]
    refine take_first 2 22 (.slice A zs.length c) rfl (by kernel_rfl) (by kernel_rfl) (by kernel_rfl) (fun _ _ _ h => h) rfl (yieldsIf_move rfl _ rfl rfl) hHeld ?_
    simp only [Act.put, List.setIfInBounds_toArray, List.set_cons_zero, List.set_cons_succ]
    refine take_first 3 23 (.int .i64 (k : Int)) rfl (by kernel_rfl) (by kernel_rfl) (by kernel_rfl) (fun _ _ _ h => h) rfl (yieldsIf_move rfl _ rfl rfl) hHeld ?_
    simp only [Act.put, List.setIfInBounds_toArray, List.set_cons_zero, List.set_cons_succ]
    refine take_first 4 24 (.slice A k c) rfl (by kernel_rfl) (by kernel_rfl) (by kernel_rfl) (fun _ _ _ h => h) rfl (.inl ⟨by rfl, fun w' hw' => by go_simp⟩) hHeld ?_
    simp only [Act.put, List.setIfInBounds_toArray, List.set_cons_zero, List.set_cons_succ]
    refine take_first 6 26 (.int .i64 (wd : Int)) rfl (by kernel_rfl) (by kernel_rfl) (by kernel_rfl) (fun _ _ _ h => h) rfl (yieldsIf_move rfl _ rfl rfl) hHeld ?_
    simp only [Act.put, List.setIfInBounds_toArray, List.set_cons_zero, List.set_cons_succ]
    refine take_first 7 27 (.slice A zs.length c) rfl (by kernel_rfl) (by kernel_rfl) (by kernel_rfl) (fun _ _ _ h => h) rfl (yieldsIf_move rfl _ rfl rfl) hHeld ?_
    simp only [Act.put, List.setIfInBounds_toArray, List.set_cons_zero, List.set_cons_succ]
    refine take_first 8 28 (.int .i64 (k : Int)) rfl (by kernel_rfl) (by kernel_rfl) (by kernel_rfl) (fun _ _ _ h => h) rfl (yieldsIf_move rfl _ rfl rfl) hHeld ?_
    simp only [Act.put, List.setIfInBounds_toArray, List.set_cons_zero, List.set_cons_succ]
    refine take_first 9 29 (.slice (if c = k then A else A.map (·.add k)) (zs.length - k) (c - k)) rfl (by kernel_rfl) (by kernel_rfl) (by kernel_rfl) (fun _ _ _ h => h) rfl (.inl ⟨by rfl, fun w' hw' => by go_simp⟩) hHeld ?_
    simp only [Act.put, List.setIfInBounds_toArray, List.set_cons_zero, List.set_cons_succ]
    refine wpAnyH_ready (rs := [5]) (by kernel_rfl) (by simp) (AllReadyH.cons rfl (fun K hK => ?_) AllReadyH.nil)
    go_simp
    refine (CL.out _ HR.out.drew).mono ?_
    rintro e w1 ⟨rfl, hb1⟩
    dsimp only
    have S1 := hide (bel_new hHeld hb1 hHeld.size)
    clear hb1 hHeld
    refine hK.out _ _ (S1.out) (fun hHeld => ?_)
    clear hK K
    refine wpAnyH_ready (rs := [10]) (by kernel_rfl) (by simp) (AllReadyH.cons rfl (fun K hK => ?_) AllReadyH.nil)
    go_simp
    refine (CR.out _ (HR.out.below S1.out)).mono ?_
    rintro e w2 ⟨rfl, hb2⟩
    dsimp only
    have S2 := hide (bel_new hHeld hb2 hHeld.size)
    clear hb2 hHeld
    refine hK.out _ _ (S2.out) (fun hHeld => ?_)
    clear hK K
    refine wpAnyH_ready (rs := [11]) (by kernel_rfl) (by simp) (AllReadyH.cons rfl (fun K hK => ?_) AllReadyH.nil)
    go_simp
    refine (i_node wd h1 h32 l r hlr _).mono ?_
    rintro e w3 ⟨rfl, hb3⟩
    dsimp only
    have S3 := hide (bel_new hHeld hb3 hHeld.size)
    clear hb3 hHeld
    refine hK.out _ _ (S3.out) (fun hHeld => ?_)
    clear hK K
    refine take_first 12 4 (.string (nodeT wd l r)) rfl (by kernel_rfl) (by kernel_rfl) (by kernel_rfl) (fun _ _ _ h => h) rfl (.inl ⟨by rfl, fun w' hw' => by go_simp⟩) hHeld ?_
    simp only [Act.put, List.setIfInBounds_toArray, List.set_cons_zero, List.set_cons_succ]
    refine wpAnyH_done (by kernel_rfl) ?_ _
    go_wp2
    go_ret
    exact ⟨rfl, S3.out⟩
end Go.Proofs.Ytcebpfhokacccaa

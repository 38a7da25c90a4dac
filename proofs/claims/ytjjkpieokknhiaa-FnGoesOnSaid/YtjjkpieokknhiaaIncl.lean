/-
  The walks over trees of hashes: the proof that a leaf lies in one.
-/
import Derived.Test.YtjjkpieokknhiaaRoots
namespace Go.Proofs.Ytjjkpieokknhiaa
set_option linter.unusedVariables false
open Go.RowKit

def inclW (wd : Nat) (zs : List ByteArray) (a : Nat) : List ByteArray := inclT (nodeT wd) (emptyT wd) zs a
theorem inclA_le {nd : ByteArray → ByteArray → ByteArray} {em : ByteArray} : ∀ (f : Nat) (zs : List ByteArray) (a : Nat), (inclA nd em f zs a).length ≤ f
  | 0, _, _ => Nat.le_refl _
  | f + 1, zs, a => by
    unfold inclA
    split
    · simp
    · split
      · rw [List.length_append]
        have := inclA_le (nd := nd) (em := em) f (zs.take (halfOf zs.length)) a
        simp; exact this
      · rw [List.length_append]
        have := inclA_le (nd := nd) (em := em) f (zs.drop (halfOf zs.length)) (a - halfOf zs.length)
        simp; exact this
theorem inclW_len (wd : Nat) (zs : List ByteArray) (a : Nat) : (inclW wd zs a).length ≤ zs.length := inclA_le _ _ _
theorem strs_snoc (Q : List ByteArray) (x : ByteArray) : strs (Q ++ [x]) = strs Q ++ [.string x] := by simp [strs]
theorem infoStrI : (Try.prog.info? 9).map (fun i => (i.zero, i.size, i.bytes)) = some (some (.string ⟨#[]⟩), 1, 16) := by kernel_rfl
set_option maxRecDepth 100000 in
set_option maxHeartbeats 4000000 in
theorem i_inclusion (wd : Nat) (h1 : 1 ≤ wd) (h32 : wd ≤ 32) : ∀ (N : Nat) (zs : List ByteArray) (A : Option Addr) (c L H a : Nat) (w : World), zs.length ≤ N → a < zs.length → zs.length ≤ 512 → (∀ s ∈ zs, s.size = wd) → zs.length ≤ c → c ≤ maxLen → Rd w L H A (strs zs) →
    Calls Try.prog 25 #[.int .i64 (wd : Int), .slice A zs.length c, .int .i64 (a : Int)] w fun e w' => ∃ A' c', e = .returned (.slice A' (inclW wd zs a).length c') ∧ Below w.heap.size w w' ∧ Own w' w.heap.size w'.heap.size 9 (.slice A' (inclW wd zs a).length c') (strs (inclW wd zs a)) := by
  intro N
  induction N with
  | zero => intro zs A c L H a w hN ha; omega
  | succ N IH =>
    intro zs A c L H a w hN ha h512 hm hc hc2 h
    unfold maxLen at hc2
    by_cases hl1 : zs.length = 1
    · have e0 : inclW wd zs a = [] := inclT_small _ _ (by omega)
      rw [e0, hl1]
      clear h IH hm e0
      show Calls _ _ _ _ fun e w' => ∃ A' c', e = .returned (.slice A' 0 c') ∧ _ ∧ Own w' w.heap.size w'.heap.size 9 (.slice A' 0 c') []
      go_enter Try.func25, Try.ntmps25
      go_wp2_with fail
      go_ret
      exact ⟨none, 0, rfl, Below.refl _ _, Own.nil _ _ _ _⟩
    have hl2 : 2 ≤ zs.length := by omega
    obtain ⟨k0, k1, k2⟩ := half_spec hl2
    have hk : halfI (zs.length : Int) = (halfOf zs.length : Int) := by simp [halfI]; omega
    have q1 : ((zs.length : Int) == 1) = false := by simp only [beq_eq_false_iff_ne]; omega
    have q2 : ¬ (zs.length : Int) ≤ 1 := by omega
    by_cases hlt : a < halfOf zs.length
    · have eI : inclW wd zs a = inclW wd (zs.take (halfOf zs.length)) a ++ [rootW wd (zs.drop (halfOf zs.length))] := inclT_left _ _ hl2 hlt
      obtain ⟨k, hkk⟩ : ∃ k, halfOf zs.length = k := ⟨_, rfl⟩
      rw [hkk] at k0 k1 k2 hk hlt eI
      obtain ⟨Q, hQ⟩ : ∃ Q, inclW wd (zs.take k) a = Q := ⟨_, rfl⟩
      obtain ⟨x, hx⟩ : ∃ x, rootW wd (zs.drop k) = x := ⟨_, rfl⟩
      have hz : (zs.take k).length = k := by rw [List.length_take]; omega
      have hz' : (zs.drop k).length = zs.length - k := by rw [List.length_drop]
      have lQ : Q.length ≤ 512 := by have := inclW_len wd (zs.take k) a; rw [hQ] at this; omega
      have CI := hide (show ∀ W, Rd W L H A (strs zs) → Calls Try.prog 25 #[.int .i64 (wd : Int), .slice A k c, .int .i64 (a : Int)] W fun e w' => ∃ A' c', e = .returned (.slice A' Q.length c') ∧ Below W.heap.size W w' ∧ Own w' W.heap.size w'.heap.size 9 (.slice A' Q.length c') (strs Q) from fun W hW => by
        have := IH (zs.take k) A c L H a W (by omega) (by omega) (by omega) (fun s hs => hm s (List.mem_of_mem_take hs)) (by omega) (by unfold maxLen; omega) (by rw [strs, List.map_take]; exact hW.take k)
        rwa [hz, hQ] at this)
      have CX := hide (show ∀ W, Rd W L H A (strs zs) → Calls Try.prog 24 #[.int .i64 (wd : Int), .slice (if c = k then A else A.map (·.add k)) (zs.length - k) (c - k)] W fun e w' => e = .returned (.string x) ∧ Below W.heap.size W w' from fun W hW => by
        have := i_rootOf wd h1 h32 (zs.drop k).length (zs.drop k) (if c = k then A else A.map (·.add k)) (c - k) L H W (Nat.le_refl _) (by omega) (fun s hs => hm s (List.mem_of_mem_drop hs)) (by omega) (by unfold maxLen; omega) (by rw [strs, List.map_drop]; exact hW.drop (by simpa [strs] using hc))
        rwa [hz', hx] at this)
      rw [eI, hQ, hx]
      have HR := hide h
      clear h IH hm eI hQ hx hkk hz hz'
      have g1 : ¬ c < k := by omega
      have g2 : ¬ zs.length < k := by omega
      have g3 : (a : Int) < k := by omega
      go_enter Try.func25, Try.ntmps25
      go_wp2_with (go_at_call 26; refine (i_HalfOf _ _).mono ?_; rintro e w1 ⟨rfl, rfl⟩)
      obtain ⟨W, rfl⟩ : ∃ W, W = w := ⟨_, rfl⟩
      refine wp_region_held_drew (S := fun w' => Below W.heap.size W w') (by kernel_rfl) (below_drew (Below.refl _ _)) (fun hHeld => ?_)
      refine take_first 0 18 (.int .i64 (wd : Int)) rfl (by kernel_rfl) (by kernel_rfl) (by kernel_rfl) (fun _ _ _ h => h) rfl (yieldsIf_move rfl _ rfl rfl) hHeld ?_
      simp only [Act.put, List.setIfInBounds_toArray, List.set_cons_zero, List.set_cons_succ]
      refine take_first 1 19 (.slice A zs.length c) rfl (by kernel_rfl) (by kernel_rfl) (by kernel_rfl) (fun _ _ _ h => h) rfl (yieldsIf_move rfl _ rfl rfl) hHeld ?_
      simp only [Act.put, List.setIfInBounds_toArray, List.set_cons_zero, List.set_cons_succ]
      refine take_first 2 20 (.int .i64 (k : Int)) rfl (by kernel_rfl) (by kernel_rfl) (by kernel_rfl) (fun _ _ _ h => h) rfl (yieldsIf_move rfl _ rfl rfl) hHeld ?_
      simp only [Act.put, List.setIfInBounds_toArray, List.set_cons_zero, List.set_cons_succ]
      refine take_first 3 21 (.slice A k c) rfl (by kernel_rfl) (by kernel_rfl) (by kernel_rfl) (fun _ _ _ h => h) rfl (.inl ⟨by rfl, fun w' hw' => by go_simp⟩) hHeld ?_
      simp only [Act.put, List.setIfInBounds_toArray, List.set_cons_zero, List.set_cons_succ]
      refine take_first 4 22 (.int .i64 (a : Int)) rfl (by kernel_rfl) (by kernel_rfl) (by kernel_rfl) (fun _ _ _ h => h) rfl (yieldsIf_move rfl _ rfl rfl) hHeld ?_
      simp only [Act.put, List.setIfInBounds_toArray, List.set_cons_zero, List.set_cons_succ]
      refine take_first 6 24 (.int .i64 (wd : Int)) rfl (by kernel_rfl) (by kernel_rfl) (by kernel_rfl) (fun _ _ _ h => h) rfl (yieldsIf_move rfl _ rfl rfl) hHeld ?_
      simp only [Act.put, List.setIfInBounds_toArray, List.set_cons_zero, List.set_cons_succ]
      refine take_first 7 25 (.slice A zs.length c) rfl (by kernel_rfl) (by kernel_rfl) (by kernel_rfl) (fun _ _ _ h => h) rfl (yieldsIf_move rfl _ rfl rfl) hHeld ?_
      simp only [Act.put, List.setIfInBounds_toArray, List.set_cons_zero, List.set_cons_succ]
      refine take_first 8 26 (.int .i64 (k : Int)) rfl (by kernel_rfl) (by kernel_rfl) (by kernel_rfl) (fun _ _ _ h => h) rfl (yieldsIf_move rfl _ rfl rfl) hHeld ?_
      simp only [Act.put, List.setIfInBounds_toArray, List.set_cons_zero, List.set_cons_succ]
      refine take_first 9 27 (.slice (if c = k then A else A.map (·.add k)) (zs.length - k) (c - k)) rfl (by kernel_rfl) (by kernel_rfl) (by kernel_rfl) (fun _ _ _ h => h) rfl (.inl ⟨by rfl, fun w' hw' => by go_simp⟩) hHeld ?_
      simp only [Act.put, List.setIfInBounds_toArray, List.set_cons_zero, List.set_cons_succ]
      refine wpAnyH_ready (rs := [5]) (by kernel_rfl) (by simp) (AllReadyH.cons rfl (fun K hK => ?_) AllReadyH.nil)
      go_simp
      refine (CI.out _ HR.out.drew).mono ?_
      rintro e w1 ⟨A5, c5, rfl, hb1, ho1⟩
      dsimp only
      have S1 := hide (bel_new hHeld hb1 hHeld.size)
      have O1 := hide ho1
      clear hb1 hHeld ho1
      refine hK.out _ _ (S1.out) (fun hHeld => ?_)
      clear hK K
      refine wpAnyH_ready (rs := [10]) (by kernel_rfl) (by simp) (AllReadyH.cons rfl (fun K hK => ?_) AllReadyH.nil)
      go_simp
      refine (CX.out _ (HR.out.below S1.out)).mono ?_
      rintro e w2 ⟨rfl, hb2⟩
      dsimp only
      have S2 := hide (bel_new hHeld hb2 hHeld.size)
      have O2 := hide (O1.out.below hb2)
      clear hb2 hHeld
      refine hK.out _ _ (S2.out) (fun hHeld => ?_)
      clear hK K
      have l2 := S2.out.size
      refine wpAnyH_ready (rs := [11]) (by kernel_rfl) (by simp) (AllReadyH.cons rfl (fun K hK => ?_) AllReadyH.nil)
      go_simp
      refine hK.out _ _ (S2.out.alloc S2.out.size _) (fun hHeld => ?_)
      clear hK K
      refine wpAnyH_ready (rs := [12]) (by kernel_rfl) (by simp) (AllReadyH.cons rfl (fun K hK => ?_) AllReadyH.nil)
      refine step_app rfl (.tmp 23) (.tmp 29) 24 rfl 9 (.string ⟨#[]⟩) 16 Try.underlying24 infoStrI rfl W.heap.size _ (strs Q) rfl ((O2.out.alloc _).top) ⟨w2.heap.size, 0, none⟩ 1 1 [.string x] rfl rfl ((Rd.made #[.string x] 9 _ rfl).cells) (by simp [Value.oneCell']) (by rw [length_strs]; omega) (by omega) (by simp; omega) ?_
      intro v' w3 ho3 hb3 _
      obtain ⟨A6, c6, rfl, ho⟩ := ho3.shape
      rw [← strs_snoc, length_strs, List.length_append, List.length_singleton] at ho ⊢
      have S3 := hide ((S2.out.alloc S2.out.size _).trans hb3)
      have O3 := hide ho
      clear ho ho3 hb3 hHeld
      go_simp
      refine hK.out _ _ (S3.out) (fun hHeld => ?_)
      clear hK K
      refine take_first 13 6 (.slice A6 (Q.length + 1) c6) rfl (by kernel_rfl) (by kernel_rfl) (by kernel_rfl) (fun _ _ _ h => h) rfl (.inl ⟨by rfl, fun w' hw' => by go_simp⟩) hHeld ?_
      simp only [Act.put, List.setIfInBounds_toArray, List.set_cons_zero, List.set_cons_succ]
      refine wpAnyH_done (by kernel_rfl) ?_ _
      go_wp2
      all_goals
        go_ret
        exact ⟨A6, c6, rfl, S3.out, O3.out⟩
    · have eI : inclW wd zs a = inclW wd (zs.drop (halfOf zs.length)) (a - halfOf zs.length) ++ [rootW wd (zs.take (halfOf zs.length))] := inclT_right _ _ hl2 hlt
      obtain ⟨k, hkk⟩ : ∃ k, halfOf zs.length = k := ⟨_, rfl⟩
      rw [hkk] at k0 k1 k2 hk hlt eI
      obtain ⟨Q, hQ⟩ : ∃ Q, inclW wd (zs.drop k) (a - k) = Q := ⟨_, rfl⟩
      obtain ⟨x, hx⟩ : ∃ x, rootW wd (zs.take k) = x := ⟨_, rfl⟩
      have hz : (zs.take k).length = k := by rw [List.length_take]; omega
      have hz' : (zs.drop k).length = zs.length - k := by rw [List.length_drop]
      have lQ : Q.length ≤ 512 := by have := inclW_len wd (zs.drop k) (a - k); rw [hQ] at this; omega
      have ea : ((a - k : Nat) : Int) = (a : Int) - k := by omega
      have CI := hide (show ∀ W, Rd W L H A (strs zs) → Calls Try.prog 25 #[.int .i64 (wd : Int), .slice (if c = k then A else A.map (·.add k)) (zs.length - k) (c - k), .int .i64 ((a : Int) - k)] W fun e w' => ∃ A' c', e = .returned (.slice A' Q.length c') ∧ Below W.heap.size W w' ∧ Own w' W.heap.size w'.heap.size 9 (.slice A' Q.length c') (strs Q) from fun W hW => by
        have := IH (zs.drop k) (if c = k then A else A.map (·.add k)) (c - k) L H (a - k) W (by omega) (by omega) (by omega) (fun s hs => hm s (List.mem_of_mem_drop hs)) (by omega) (by unfold maxLen; omega) (by rw [strs, List.map_drop]; exact hW.drop (by simpa [strs] using hc))
        rwa [hz', hQ, ea] at this)
      have CX := hide (show ∀ W, Rd W L H A (strs zs) → Calls Try.prog 24 #[.int .i64 (wd : Int), .slice A k c] W fun e w' => e = .returned (.string x) ∧ Below W.heap.size W w' from fun W hW => by
        have := i_rootOf wd h1 h32 (zs.take k).length (zs.take k) A c L H W (Nat.le_refl _) (by omega) (fun s hs => hm s (List.mem_of_mem_take hs)) (by omega) (by unfold maxLen; omega) (by rw [strs, List.map_take]; exact hW.take k)
        rwa [hz, hx] at this)
      rw [eI, hQ, hx]
      have HR := hide h
      clear h IH hm eI hQ hx hkk hz hz' ea
      have g1 : ¬ c < k := by omega
      have g2 : ¬ zs.length < k := by omega
      have g3 : (k : Int) ≤ a := by omega
      have g4 : IntKind.i64.wrap ((a : Int) - k) = (a : Int) - k := IntWalk.i64_in _ (by omega)
      go_enter Try.func25, Try.ntmps25
      go_wp2_with (go_at_call 26; refine (i_HalfOf _ _).mono ?_; rintro e w1 ⟨rfl, rfl⟩)
      obtain ⟨W, rfl⟩ : ∃ W, W = w := ⟨_, rfl⟩
      refine wp_region_held_drew (S := fun w' => Below W.heap.size W w') (by kernel_rfl) (below_drew (Below.refl _ _)) (fun hHeld => ?_)
      refine take_first 0 31 (.int .i64 (wd : Int)) rfl (by kernel_rfl) (by kernel_rfl) (by kernel_rfl) (fun _ _ _ h => h) rfl (yieldsIf_move rfl _ rfl rfl) hHeld ?_
      simp only [Act.put, List.setIfInBounds_toArray, List.set_cons_zero, List.set_cons_succ]
      refine take_first 1 32 (.slice A zs.length c) rfl (by kernel_rfl) (by kernel_rfl) (by kernel_rfl) (fun _ _ _ h => h) rfl (yieldsIf_move rfl _ rfl rfl) hHeld ?_
      simp only [Act.put, List.setIfInBounds_toArray, List.set_cons_zero, List.set_cons_succ]
      refine take_first 2 33 (.int .i64 (k : Int)) rfl (by kernel_rfl) (by kernel_rfl) (by kernel_rfl) (fun _ _ _ h => h) rfl (yieldsIf_move rfl _ rfl rfl) hHeld ?_
      simp only [Act.put, List.setIfInBounds_toArray, List.set_cons_zero, List.set_cons_succ]
      refine take_first 3 34 (.slice (if c = k then A else A.map (·.add k)) (zs.length - k) (c - k)) rfl (by kernel_rfl) (by kernel_rfl) (by kernel_rfl) (fun _ _ _ h => h) rfl (.inl ⟨by rfl, fun w' hw' => by go_simp⟩) hHeld ?_
      simp only [Act.put, List.setIfInBounds_toArray, List.set_cons_zero, List.set_cons_succ]
      refine take_first 4 35 (.int .i64 (a : Int)) rfl (by kernel_rfl) (by kernel_rfl) (by kernel_rfl) (fun _ _ _ h => h) rfl (yieldsIf_move rfl _ rfl rfl) hHeld ?_
      simp only [Act.put, List.setIfInBounds_toArray, List.set_cons_zero, List.set_cons_succ]
      refine take_first 5 36 (.int .i64 (k : Int)) rfl (by kernel_rfl) (by kernel_rfl) (by kernel_rfl) (fun _ _ _ h => h) rfl (yieldsIf_move rfl _ rfl rfl) hHeld ?_
      simp only [Act.put, List.setIfInBounds_toArray, List.set_cons_zero, List.set_cons_succ]
      refine take_first 6 37 (.int .i64 ((a : Int) - k)) rfl (by kernel_rfl) (by kernel_rfl) (by kernel_rfl) (fun _ _ _ h => h) rfl (.inl ⟨by rfl, fun w' hw' => by go_simp⟩) hHeld ?_
      simp only [Act.put, List.setIfInBounds_toArray, List.set_cons_zero, List.set_cons_succ]
      refine take_first 8 39 (.int .i64 (wd : Int)) rfl (by kernel_rfl) (by kernel_rfl) (by kernel_rfl) (fun _ _ _ h => h) rfl (yieldsIf_move rfl _ rfl rfl) hHeld ?_
      simp only [Act.put, List.setIfInBounds_toArray, List.set_cons_zero, List.set_cons_succ]
      refine take_first 9 40 (.slice A zs.length c) rfl (by kernel_rfl) (by kernel_rfl) (by kernel_rfl) (fun _ _ _ h => h) rfl (yieldsIf_move rfl _ rfl rfl) hHeld ?_
      simp only [Act.put, List.setIfInBounds_toArray, List.set_cons_zero, List.set_cons_succ]
      refine take_first 10 41 (.int .i64 (k : Int)) rfl (by kernel_rfl) (by kernel_rfl) (by kernel_rfl) (fun _ _ _ h => h) rfl (yieldsIf_move rfl _ rfl rfl) hHeld ?_
      simp only [Act.put, List.setIfInBounds_toArray, List.set_cons_zero, List.set_cons_succ]
      refine take_first 11 42 (.slice A k c) rfl (by kernel_rfl) (by kernel_rfl) (by kernel_rfl) (fun _ _ _ h => h) rfl (.inl ⟨by rfl, fun w' hw' => by go_simp⟩) hHeld ?_
      simp only [Act.put, List.setIfInBounds_toArray, List.set_cons_zero, List.set_cons_succ]
      refine wpAnyH_ready (rs := [7]) (by kernel_rfl) (by simp) (AllReadyH.cons rfl (fun K hK => ?_) AllReadyH.nil)
      go_simp
      refine (CI.out _ HR.out.drew).mono ?_
      rintro e w1 ⟨A5, c5, rfl, hb1, ho1⟩
      dsimp only
      have S1 := hide (bel_new hHeld hb1 hHeld.size)
      have O1 := hide ho1
      clear hb1 hHeld ho1
      refine hK.out _ _ (S1.out) (fun hHeld => ?_)
      clear hK K
      refine wpAnyH_ready (rs := [12]) (by kernel_rfl) (by simp) (AllReadyH.cons rfl (fun K hK => ?_) AllReadyH.nil)
      go_simp
      refine (CX.out _ (HR.out.below S1.out)).mono ?_
      rintro e w2 ⟨rfl, hb2⟩
      dsimp only
      have S2 := hide (bel_new hHeld hb2 hHeld.size)
      have O2 := hide (O1.out.below hb2)
      clear hb2 hHeld
      refine hK.out _ _ (S2.out) (fun hHeld => ?_)
      clear hK K
      have l2 := S2.out.size
      refine wpAnyH_ready (rs := [13]) (by kernel_rfl) (by simp) (AllReadyH.cons rfl (fun K hK => ?_) AllReadyH.nil)
      go_simp
      refine hK.out _ _ (S2.out.alloc S2.out.size _) (fun hHeld => ?_)
      clear hK K
      refine wpAnyH_ready (rs := [14]) (by kernel_rfl) (by simp) (AllReadyH.cons rfl (fun K hK => ?_) AllReadyH.nil)
      refine step_app rfl (.tmp 38) (.tmp 44) 24 rfl 9 (.string ⟨#[]⟩) 16 Try.underlying24 infoStrI rfl W.heap.size _ (strs Q) rfl ((O2.out.alloc _).top) ⟨w2.heap.size, 0, none⟩ 1 1 [.string x] rfl rfl ((Rd.made #[.string x] 9 _ rfl).cells) (by simp [Value.oneCell']) (by rw [length_strs]; omega) (by omega) (by simp; omega) ?_
      intro v' w3 ho3 hb3 _
      obtain ⟨A6, c6, rfl, ho⟩ := ho3.shape
      rw [← strs_snoc, length_strs, List.length_append, List.length_singleton] at ho ⊢
      have S3 := hide ((S2.out.alloc S2.out.size _).trans hb3)
      have O3 := hide ho
      clear ho ho3 hb3 hHeld
      go_simp
      refine hK.out _ _ (S3.out) (fun hHeld => ?_)
      clear hK K
      refine take_first 15 6 (.slice A6 (Q.length + 1) c6) rfl (by kernel_rfl) (by kernel_rfl) (by kernel_rfl) (fun _ _ _ h => h) rfl (.inl ⟨by rfl, fun w' hw' => by go_simp⟩) hHeld ?_
      simp only [Act.put, List.setIfInBounds_toArray, List.set_cons_zero, List.set_cons_succ]
      refine wpAnyH_done (by kernel_rfl) ?_ _
      go_wp2
      all_goals
        go_ret
        exact ⟨A6, c6, rfl, S3.out, O3.out⟩
end Go.Proofs.Ytjjkpieokknhiaa

/-
  The walks over trees of hashes: the proof that one goes on from a smaller one.
-/
import Derived.Test.YtjjkpieokknhiaaRoots
import Derived.Test.YtjjkpieokknhiaaConsPlain
namespace Go.Proofs.Ytjjkpieokknhiaa
set_option linter.unusedVariables false
open Go.RowKit

def consW (wd : Nat) (zs : List ByteArray) (m : Nat) (q : Bool) : List ByteArray := consT (nodeT wd) (emptyT wd) zs m q
theorem strs_snoc' (Q : List ByteArray) (x : ByteArray) : strs (Q ++ [x]) = strs Q ++ [.string x] := by simp [strs]
theorem infoStrC : (Try.prog.info? 9).map (fun i => (i.zero, i.size, i.bytes)) = some (some (.string ⟨#[]⟩), 1, 16) := by kernel_rfl
set_option maxRecDepth 100000 in
set_option maxHeartbeats 4000000 in
theorem i_consistency (wd : Nat) (h1 : 1 ≤ wd) (h32 : wd ≤ 32) : ∀ (N : Nat) (zs : List ByteArray) (A : Option Addr) (c L H m : Nat) (q : Bool) (w : World), zs.length ≤ N → 0 < m → m ≤ zs.length → zs.length ≤ 512 → (∀ s ∈ zs, s.size = wd) → zs.length ≤ c → c ≤ maxLen → Rd w L H A (strs zs) →
    Calls Try.prog 43 #[.int .i64 (wd : Int), .slice A zs.length c, .int .i64 (m : Int), .bool q] w fun e w' => ∃ A' c', e = .returned (.slice A' (consW wd zs m q).length c') ∧ Below w.heap.size w w' ∧ Own w' w.heap.size w'.heap.size 9 (.slice A' (consW wd zs m q).length c') (strs (consW wd zs m q)) := by
  intro N
  induction N with
  | zero => intro zs A c L H m q w hN h0 hml; omega
  | succ N IH =>
    intro zs A c L H m q w hN h0 hml h512 hm hc hc2 h
    unfold maxLen at hc2
    by_cases hsm : m = zs.length
    · have e0 : consW wd zs m q = if q then [] else [rootW wd zs] := by subst hsm; exact consT_same _ _ h0
      have CX := hide (i_rootOf wd h1 h32 zs.length zs A c L H w (Nat.le_refl _) h512 hm hc (by unfold maxLen; omega) h)
      obtain ⟨x, hx⟩ : ∃ x, rootW wd zs = x := ⟨_, rfl⟩
      rw [hx] at CX e0
      rw [e0]
      have qe : ((m : Int) == (zs.length : Int)) = true := by rw [beq_iff_eq]; omega
      clear h IH hm e0 hx hsm
      cases q
      · show Calls _ _ _ _ fun e w' => ∃ A' c', e = .returned (.slice A' 1 c') ∧ _ ∧ Own w' w.heap.size w'.heap.size 9 (.slice A' 1 c') [.string x]
        go_enter Try.func43, Try.ntmps43
        go_wp2_with (go_at_call 24; refine (CX.out).mono ?_; rintro e w1 ⟨rfl, hb⟩)
        go_ret
        have S1 := hb.size
        exact ⟨_, _, rfl, hb.trans ((Below.refl _ _).alloc (by omega) _), (Own.made #[.string x] 9 _ S1 (by simp [maxLen])).top⟩
      · show Calls _ _ _ _ fun e w' => ∃ A' c', e = .returned (.slice A' 0 c') ∧ _ ∧ Own w' w.heap.size w'.heap.size 9 (.slice A' 0 c') []
        go_enter Try.func43, Try.ntmps43
        go_wp2_with fail
        go_ret
        exact ⟨none, 0, rfl, Below.refl _ _, Own.nil _ _ _ _⟩
    have hlm : m < zs.length := by omega
    have hl2 : 2 ≤ zs.length := by omega
    obtain ⟨k0, k1, k2⟩ := half_spec hl2
    have hk : halfI (zs.length : Int) = (halfOf zs.length : Int) := by simp [halfI]; omega
    have q1 : ((m : Int) == (zs.length : Int)) = false := by simp only [beq_eq_false_iff_ne]; omega
    by_cases hle : m ≤ halfOf zs.length
    · have eI : consW wd zs m q = consW wd (zs.take (halfOf zs.length)) m q ++ [rootW wd (zs.drop (halfOf zs.length))] := consT_left _ _ h0 hlm hle
      obtain ⟨k, hkk⟩ : ∃ k, halfOf zs.length = k := ⟨_, rfl⟩
      rw [hkk] at k0 k1 k2 hk hle eI
      obtain ⟨Q, hQ⟩ : ∃ Q, consW wd (zs.take (k)) m q = Q := ⟨_, rfl⟩
      obtain ⟨x, hx⟩ : ∃ x, rootW wd (zs.drop (k)) = x := ⟨_, rfl⟩
      have hz : (zs.take k).length = k := by rw [List.length_take]; omega
      have hz' : (zs.drop k).length = zs.length - k := by rw [List.length_drop]
      have lQ : Q.length ≤ 513 := by have h1 := consT_len (nodeT wd) (emptyT wd) k (zs.take k) m q hz h0 hle; have h2 := between_le k m q h0 hle; rw [← hQ]; show (consT _ _ _ _ _).length ≤ _; omega
      have CI := hide (show ∀ W, Rd W L H A (strs zs) → Calls Try.prog 43 #[.int .i64 (wd : Int), .slice A k c, .int .i64 (m : Int), .bool q] W fun e w' => ∃ A' c', e = .returned (.slice A' Q.length c') ∧ Below W.heap.size W w' ∧ Own w' W.heap.size w'.heap.size 9 (.slice A' Q.length c') (strs Q) from fun W hW => by
        have := IH (zs.take k) A c L H m q W (by omega) h0 (by omega) (by omega) (fun s hs => hm s (List.mem_of_mem_take hs)) (by omega) (by unfold maxLen; omega) (by rw [strs, List.map_take]; exact hW.take k)
        rwa [hz, hQ] at this)
      have CX := hide (show ∀ W, Rd W L H A (strs zs) → Calls Try.prog 24 #[.int .i64 (wd : Int), .slice (if c = k then A else A.map (·.add k)) (zs.length - k) (c - k)] W fun e w' => e = .returned (.string x) ∧ Below W.heap.size W w' from fun W hW => by
        have := i_rootOf wd h1 h32 (zs.drop k).length (zs.drop k) (if c = k then A else A.map (·.add k)) (c - k) L H W (Nat.le_refl _) (by omega) (fun s hs => hm s (List.mem_of_mem_drop hs)) (by omega) (by unfold maxLen; omega) (by rw [strs, List.map_drop]; exact hW.drop (by simpa [strs] using hc))
        rwa [hz', hx] at this)
      rw [eI, hQ, hx]
      have HR := hide h
      clear h IH hm eI hQ hx hkk hz hz'
      have g1 : ¬ c < k := by omega
      have g2 : ¬ zs.length < k := by omega
      have g3 : (m : Int) ≤ k := by omega
      go_enter Try.func43, Try.ntmps43
      go_wp2_with (go_at_call 26; refine (i_HalfOf _ _).mono ?_; rintro e w1 ⟨rfl, rfl⟩)
      obtain ⟨W, rfl⟩ : ∃ W, W = w := ⟨_, rfl⟩
      refine wp_region_held_drew (S := fun w' => Below W.heap.size W w') (by kernel_rfl) (below_drew (Below.refl _ _)) (fun hHeld => ?_)
      refine take_first 0 26 (.int .i64 (wd : Int)) rfl (by kernel_rfl) (by kernel_rfl) (by kernel_rfl) (fun _ _ _ h => h) rfl (yieldsIf_move rfl _ rfl rfl) hHeld ?_
      simp only [Act.put, List.setIfInBounds_toArray, List.set_cons_zero, List.set_cons_succ]
      refine take_first 1 27 (.slice A zs.length c) rfl (by kernel_rfl) (by kernel_rfl) (by kernel_rfl) (fun _ _ _ h => h) rfl (yieldsIf_move rfl _ rfl rfl) hHeld ?_
      simp only [Act.put, List.setIfInBounds_toArray, List.set_cons_zero, List.set_cons_succ]
      refine take_first 2 28 (.int .i64 (k : Int)) rfl (by kernel_rfl) (by kernel_rfl) (by kernel_rfl) (fun _ _ _ h => h) rfl (yieldsIf_move rfl _ rfl rfl) hHeld ?_
      simp only [Act.put, List.setIfInBounds_toArray, List.set_cons_zero, List.set_cons_succ]
      refine take_first 3 29 (.slice A k c) rfl (by kernel_rfl) (by kernel_rfl) (by kernel_rfl) (fun _ _ _ h => h) rfl (.inl ⟨by rfl, fun w' hw' => by go_simp⟩) hHeld ?_
      simp only [Act.put, List.setIfInBounds_toArray, List.set_cons_zero, List.set_cons_succ]
      refine take_first 4 30 (.int .i64 (m : Int)) rfl (by kernel_rfl) (by kernel_rfl) (by kernel_rfl) (fun _ _ _ h => h) rfl (yieldsIf_move rfl _ rfl rfl) hHeld ?_
      simp only [Act.put, List.setIfInBounds_toArray, List.set_cons_zero, List.set_cons_succ]
      refine take_first 5 31 (.bool q) rfl (by kernel_rfl) (by kernel_rfl) (by kernel_rfl) (fun _ _ _ h => h) rfl (yieldsIf_move rfl _ rfl rfl) hHeld ?_
      simp only [Act.put, List.setIfInBounds_toArray, List.set_cons_zero, List.set_cons_succ]
      refine take_first 7 33 (.int .i64 (wd : Int)) rfl (by kernel_rfl) (by kernel_rfl) (by kernel_rfl) (fun _ _ _ h => h) rfl (yieldsIf_move rfl _ rfl rfl) hHeld ?_
      simp only [Act.put, List.setIfInBounds_toArray, List.set_cons_zero, List.set_cons_succ]
      refine take_first 8 34 (.slice A zs.length c) rfl (by kernel_rfl) (by kernel_rfl) (by kernel_rfl) (fun _ _ _ h => h) rfl (yieldsIf_move rfl _ rfl rfl) hHeld ?_
      simp only [Act.put, List.setIfInBounds_toArray, List.set_cons_zero, List.set_cons_succ]
      refine take_first 9 35 (.int .i64 (k : Int)) rfl (by kernel_rfl) (by kernel_rfl) (by kernel_rfl) (fun _ _ _ h => h) rfl (yieldsIf_move rfl _ rfl rfl) hHeld ?_
      simp only [Act.put, List.setIfInBounds_toArray, List.set_cons_zero, List.set_cons_succ]
      refine take_first 10 36 (.slice (if c = k then A else A.map (·.add k)) (zs.length - k) (c - k)) rfl (by kernel_rfl) (by kernel_rfl) (by kernel_rfl) (fun _ _ _ h => h) rfl (.inl ⟨by rfl, fun w' hw' => by go_simp⟩) hHeld ?_
      simp only [Act.put, List.setIfInBounds_toArray, List.set_cons_zero, List.set_cons_succ]
      refine wpAnyH_ready (rs := [6]) (by kernel_rfl) (by simp) (AllReadyH.cons rfl (fun K hK => ?_) AllReadyH.nil)
      go_simp
      refine (CI.out _ HR.out.drew).mono ?_
      rintro e w1 ⟨A5, c5, rfl, hb1, ho1⟩
      dsimp only
      have S1 := hide (bel_new hHeld hb1 hHeld.size)
      have O1 := hide ho1
      clear hb1 hHeld ho1
      refine hK.out _ _ (S1.out) (fun hHeld => ?_)
      clear hK K
      refine wpAnyH_ready (rs := [11]) (by kernel_rfl) (by simp) (AllReadyH.cons rfl (fun K hK => ?_) AllReadyH.nil)
      go_simp
      refine (CX.out _ (HR.out.below S1.out)).mono ?_
      rintro e w2 ⟨rfl, hb2⟩
      dsimp only
      have S2 := hide (bel_new hHeld hb2 hHeld.size)
      have O2 := hide (O1.out.below hb2)
      clear hb2 hHeld
      refine hK.out _ _ (S2.out) (fun hHeld => ?_)
      clear hK K
      have l2 := S2.out.size
      refine wpAnyH_ready (rs := [12]) (by kernel_rfl) (by simp) (AllReadyH.cons rfl (fun K hK => ?_) AllReadyH.nil)
      go_simp
      refine hK.out _ _ (S2.out.alloc S2.out.size _) (fun hHeld => ?_)
      clear hK K
      refine wpAnyH_ready (rs := [13]) (by kernel_rfl) (by simp) (AllReadyH.cons rfl (fun K hK => ?_) AllReadyH.nil)
      refine step_app rfl (.tmp 32) (.tmp 38) 24 rfl 9 (.string ⟨#[]⟩) 16 Try.underlying24 infoStrC rfl W.heap.size _ (strs Q) rfl ((O2.out.alloc _).top) ⟨w2.heap.size, 0, none⟩ 1 1 [.string x] rfl rfl ((Rd.made #[.string x] 9 _ rfl).cells) (by simp [Value.oneCell']) (by rw [length_strs]; omega) (by omega) (by simp; omega) ?_
      intro v' w3 ho3 hb3 _
      obtain ⟨A6, c6, rfl, ho⟩ := ho3.shape
      rw [← strs_snoc', length_strs, List.length_append, List.length_singleton] at ho ⊢
      have S3 := hide ((S2.out.alloc S2.out.size _).trans hb3)
      have O3 := hide ho
      clear ho ho3 hb3 hHeld
      go_simp
      refine hK.out _ _ (S3.out) (fun hHeld => ?_)
      clear hK K
      refine take_first 14 8 (.slice A6 (Q.length + 1) c6) rfl (by kernel_rfl) (by kernel_rfl) (by kernel_rfl) (fun _ _ _ h => h) rfl (.inl ⟨by rfl, fun w' hw' => by go_simp⟩) hHeld ?_
      simp only [Act.put, List.setIfInBounds_toArray, List.set_cons_zero, List.set_cons_succ]
      refine wpAnyH_done (by kernel_rfl) ?_ _
      go_wp2
      all_goals
        go_ret
        exact ⟨A6, c6, rfl, S3.out, O3.out⟩
    · have eI : consW wd zs m q = consW wd (zs.drop (halfOf zs.length)) (m - halfOf zs.length) false ++ [rootW wd (zs.take (halfOf zs.length))] := consT_right _ _ h0 hlm hle
      obtain ⟨k, hkk⟩ : ∃ k, halfOf zs.length = k := ⟨_, rfl⟩
      rw [hkk] at k0 k1 k2 hk hle eI
      obtain ⟨Q, hQ⟩ : ∃ Q, consW wd (zs.drop (k)) (m - k) false = Q := ⟨_, rfl⟩
      obtain ⟨x, hx⟩ : ∃ x, rootW wd (zs.take (k)) = x := ⟨_, rfl⟩
      have hz : (zs.take k).length = k := by rw [List.length_take]; omega
      have hz' : (zs.drop k).length = zs.length - k := by rw [List.length_drop]
      have lQ : Q.length ≤ 513 := by have h1 := consT_len (nodeT wd) (emptyT wd) (zs.length - k) (zs.drop k) (m - k) false hz' (by omega) (by omega); have h2 := between_le (zs.length - k) (m - k) false (by omega) (by omega); rw [← hQ]; show (consT _ _ _ _ _).length ≤ _; omega
      have em : ((m - k : Nat) : Int) = (m : Int) - k := by omega
      have CI := hide (show ∀ W, Rd W L H A (strs zs) → Calls Try.prog 43 #[.int .i64 (wd : Int), .slice (if c = k then A else A.map (·.add k)) (zs.length - k) (c - k), .int .i64 ((m : Int) - k), .bool false] W fun e w' => ∃ A' c', e = .returned (.slice A' Q.length c') ∧ Below W.heap.size W w' ∧ Own w' W.heap.size w'.heap.size 9 (.slice A' Q.length c') (strs Q) from fun W hW => by
        have := IH (zs.drop k) (if c = k then A else A.map (·.add k)) (c - k) L H (m - k) false W (by omega) (by omega) (by omega) (by omega) (fun s hs => hm s (List.mem_of_mem_drop hs)) (by omega) (by unfold maxLen; omega) (by rw [strs, List.map_drop]; exact hW.drop (by simpa [strs] using hc))
        rwa [hz', hQ, em] at this)
      have CX := hide (show ∀ W, Rd W L H A (strs zs) → Calls Try.prog 24 #[.int .i64 (wd : Int), .slice A k c] W fun e w' => e = .returned (.string x) ∧ Below W.heap.size W w' from fun W hW => by
        have := i_rootOf wd h1 h32 (zs.take k).length (zs.take k) A c L H W (Nat.le_refl _) (by omega) (fun s hs => hm s (List.mem_of_mem_take hs)) (by omega) (by unfold maxLen; omega) (by rw [strs, List.map_take]; exact hW.take k)
        rwa [hz, hx] at this)
      rw [eI, hQ, hx]
      have HR := hide h
      clear h IH hm eI hQ hx hkk hz hz' em
      have g1 : ¬ c < k := by omega
      have g2 : ¬ zs.length < k := by omega
      have g3 : (k : Int) < m := by omega
      have g4 : IntKind.i64.wrap ((m : Int) - k) = (m : Int) - k := IntWalk.i64_in _ (by omega)
      go_enter Try.func43, Try.ntmps43
      go_wp2_with (go_at_call 26; refine (i_HalfOf _ _).mono ?_; rintro e w1 ⟨rfl, rfl⟩)
      obtain ⟨W, rfl⟩ : ∃ W, W = w := ⟨_, rfl⟩
      refine wp_region_held_drew (S := fun w' => Below W.heap.size W w') (by kernel_rfl) (below_drew (Below.refl _ _)) (fun hHeld => ?_)
      refine take_first 0 40 (.int .i64 (wd : Int)) rfl (by kernel_rfl) (by kernel_rfl) (by kernel_rfl) (fun _ _ _ h => h) rfl (yieldsIf_move rfl _ rfl rfl) hHeld ?_
      simp only [Act.put, List.setIfInBounds_toArray, List.set_cons_zero, List.set_cons_succ]
      refine take_first 1 41 (.slice A zs.length c) rfl (by kernel_rfl) (by kernel_rfl) (by kernel_rfl) (fun _ _ _ h => h) rfl (yieldsIf_move rfl _ rfl rfl) hHeld ?_
      simp only [Act.put, List.setIfInBounds_toArray, List.set_cons_zero, List.set_cons_succ]
      refine take_first 2 42 (.int .i64 (k : Int)) rfl (by kernel_rfl) (by kernel_rfl) (by kernel_rfl) (fun _ _ _ h => h) rfl (yieldsIf_move rfl _ rfl rfl) hHeld ?_
      simp only [Act.put, List.setIfInBounds_toArray, List.set_cons_zero, List.set_cons_succ]
      refine take_first 3 43 (.slice (if c = k then A else A.map (·.add k)) (zs.length - k) (c - k)) rfl (by kernel_rfl) (by kernel_rfl) (by kernel_rfl) (fun _ _ _ h => h) rfl (.inl ⟨by rfl, fun w' hw' => by go_simp⟩) hHeld ?_
      simp only [Act.put, List.setIfInBounds_toArray, List.set_cons_zero, List.set_cons_succ]
      refine take_first 4 44 (.int .i64 (m : Int)) rfl (by kernel_rfl) (by kernel_rfl) (by kernel_rfl) (fun _ _ _ h => h) rfl (yieldsIf_move rfl _ rfl rfl) hHeld ?_
      simp only [Act.put, List.setIfInBounds_toArray, List.set_cons_zero, List.set_cons_succ]
      refine take_first 5 45 (.int .i64 (k : Int)) rfl (by kernel_rfl) (by kernel_rfl) (by kernel_rfl) (fun _ _ _ h => h) rfl (yieldsIf_move rfl _ rfl rfl) hHeld ?_
      simp only [Act.put, List.setIfInBounds_toArray, List.set_cons_zero, List.set_cons_succ]
      refine take_first 6 46 (.int .i64 ((m : Int) - k)) rfl (by kernel_rfl) (by kernel_rfl) (by kernel_rfl) (fun _ _ _ h => h) rfl (.inl ⟨by rfl, fun w' hw' => by go_simp⟩) hHeld ?_
      simp only [Act.put, List.setIfInBounds_toArray, List.set_cons_zero, List.set_cons_succ]
      refine take_first 8 48 (.int .i64 (wd : Int)) rfl (by kernel_rfl) (by kernel_rfl) (by kernel_rfl) (fun _ _ _ h => h) rfl (yieldsIf_move rfl _ rfl rfl) hHeld ?_
      simp only [Act.put, List.setIfInBounds_toArray, List.set_cons_zero, List.set_cons_succ]
      refine take_first 9 49 (.slice A zs.length c) rfl (by kernel_rfl) (by kernel_rfl) (by kernel_rfl) (fun _ _ _ h => h) rfl (yieldsIf_move rfl _ rfl rfl) hHeld ?_
      simp only [Act.put, List.setIfInBounds_toArray, List.set_cons_zero, List.set_cons_succ]
      refine take_first 10 50 (.int .i64 (k : Int)) rfl (by kernel_rfl) (by kernel_rfl) (by kernel_rfl) (fun _ _ _ h => h) rfl (yieldsIf_move rfl _ rfl rfl) hHeld ?_
      simp only [Act.put, List.setIfInBounds_toArray, List.set_cons_zero, List.set_cons_succ]
      refine take_first 11 51 (.slice A k c) rfl (by kernel_rfl) (by kernel_rfl) (by kernel_rfl) (fun _ _ _ h => h) rfl (.inl ⟨by rfl, fun w' hw' => by go_simp⟩) hHeld ?_
      simp only [Act.put, List.setIfInBounds_toArray, List.set_cons_zero, List.set_cons_succ]
      refine wpAnyH_ready (rs := [7]) (by kernel_rfl) (by simp) (AllReadyH.cons rfl (fun K hK => ?_) AllReadyH.nil)
      go_simp
      refine (CI.out _ HR.out.drew).mono ?_
      rintro e w1 ⟨A5, c5, rfl, hb1, ho1⟩
      dsimp only
      have S1 := hide (bel_new hHeld hb1 hHeld.size)
      have O1 := hide ho1
      clear hb1 hHeld ho1
      refine hK.out _ _ (S1.out) (fun hHeld => ?_)
      clear hK K
      refine wpAnyH_ready (rs := [12]) (by kernel_rfl) (by simp) (AllReadyH.cons rfl (fun K hK => ?_) AllReadyH.nil)
      go_simp
      refine (CX.out _ (HR.out.below S1.out)).mono ?_
      rintro e w2 ⟨rfl, hb2⟩
      dsimp only
      have S2 := hide (bel_new hHeld hb2 hHeld.size)
      have O2 := hide (O1.out.below hb2)
      clear hb2 hHeld
      refine hK.out _ _ (S2.out) (fun hHeld => ?_)
      clear hK K
      have l2 := S2.out.size
      refine wpAnyH_ready (rs := [13]) (by kernel_rfl) (by simp) (AllReadyH.cons rfl (fun K hK => ?_) AllReadyH.nil)
      go_simp
      refine hK.out _ _ (S2.out.alloc S2.out.size _) (fun hHeld => ?_)
      clear hK K
      refine wpAnyH_ready (rs := [14]) (by kernel_rfl) (by simp) (AllReadyH.cons rfl (fun K hK => ?_) AllReadyH.nil)
      refine step_app rfl (.tmp 47) (.tmp 53) 24 rfl 9 (.string ⟨#[]⟩) 16 Try.underlying24 infoStrC rfl W.heap.size _ (strs Q) rfl ((O2.out.alloc _).top) ⟨w2.heap.size, 0, none⟩ 1 1 [.string x] rfl rfl ((Rd.made #[.string x] 9 _ rfl).cells) (by simp [Value.oneCell']) (by rw [length_strs]; omega) (by omega) (by simp; omega) ?_
      intro v' w3 ho3 hb3 _
      obtain ⟨A6, c6, rfl, ho⟩ := ho3.shape
      rw [← strs_snoc', length_strs, List.length_append, List.length_singleton] at ho ⊢
      have S3 := hide ((S2.out.alloc S2.out.size _).trans hb3)
      have O3 := hide ho
      clear ho ho3 hb3 hHeld
      go_simp
      refine hK.out _ _ (S3.out) (fun hHeld => ?_)
      clear hK K
      refine take_first 15 8 (.slice A6 (Q.length + 1) c6) rfl (by kernel_rfl) (by kernel_rfl) (by kernel_rfl) (fun _ _ _ h => h) rfl (.inl ⟨by rfl, fun w' hw' => by go_simp⟩) hHeld ?_
      simp only [Act.put, List.setIfInBounds_toArray, List.set_cons_zero, List.set_cons_succ]
      refine wpAnyH_done (by kernel_rfl) ?_ _
      go_wp2
      all_goals
        go_ret
        exact ⟨A6, c6, rfl, S3.out, O3.out⟩
/-- Consistency of right leaves. -/
def consI (wd : Nat) (zs : List ByteArray) (m : Nat) : List ByteArray := if m = 0 then [] else consW wd zs m true
theorem i_Consistency (wd : Nat) (h1 : 1 ≤ wd) (h32 : wd ≤ 32) (zs : List ByteArray) (A : Option Addr) (c L H m : Nat) (w : World) (hml : m ≤ zs.length) (h512 : zs.length ≤ 512) (hm : ∀ s ∈ zs, s.size = wd) (hc : zs.length ≤ c) (hc2 : c ≤ maxLen) (hk : leavesOk (wd : Int) zs = true) (h : Rd w L H A (strs zs)) :
    Calls Try.prog 14 #[.int .i64 (wd : Int), .slice A zs.length c, .int .i64 (m : Int)] w fun e w' => ∃ A' c', e = .returned (.tuple #[.slice A' (consI wd zs m).length c', .bool true]) ∧ Below w.heap.size w w' ∧ Own w' w.heap.size w'.heap.size 9 (.slice A' (consI wd zs m).length c') (strs (consI wd zs m)) := by
  have C0 := i_LeavesOk (wd : Int) zs A c L H w h (by omega)
  rw [hk] at C0
  replace C0 := hide C0
  have C1 : Calls Try.prog 29 #[.int .i64 (wd : Int), .slice A zs.length c, .int .i64 (m : Int)] w fun e w' => ∃ A' c', e = .returned (.slice A' (consI wd zs m).length c') ∧ Below w.heap.size w w' ∧ Own w' w.heap.size w'.heap.size 9 (.slice A' (consI wd zs m).length c') (strs (consI wd zs m)) := by
    unfold consI
    by_cases h0 : m = 0
    · subst h0
      show Calls _ _ #[.int .i64 (wd : Int), .slice A zs.length c, .int .i64 0] _ fun e w' => ∃ A' c', e = .returned (.slice A' 0 c') ∧ _ ∧ Own w' w.heap.size w'.heap.size 9 (.slice A' 0 c') []
      clear h hm C0
      go_enter Try.func29, Try.ntmps29
      go_wp2_with fail
      go_ret
      exact ⟨none, 0, rfl, Below.refl _ _, Own.nil _ _ _ _⟩
    · rw [if_neg h0]
      have CC := hide (i_consistency wd h1 h32 zs.length zs A c L H m true w (Nat.le_refl _) (by omega) hml h512 hm hc hc2 h)
      have q0 : ((m : Int) == 0) = false := by simp only [beq_eq_false_iff_ne]; omega
      generalize consW wd zs m true = P at *
      clear h hm C0 h0
      go_enter Try.func29, Try.ntmps29
      go_wp2_with (go_at_call 43; refine (CC.out).mono ?_; rintro e w1 ⟨A1, c1, rfl, hb, ho⟩)
      go_ret
      exact ⟨A1, c1, rfl, hb, ho⟩
  generalize consI wd zs m = P at *
  replace C1 := hide C1
  have e1 : ¬ (m : Int) < 0 := by omega
  have e2 : ¬ (zs.length : Int) < (m : Int) := by omega
  clear h hm hk
  go_enter Try.func14, Try.ntmps14
  go_wp2_with (first | (go_at_call 23; refine (C0.out).mono ?_; rintro e w1 ⟨rfl, rfl⟩) | (go_at_call 29; refine (C1.out).mono ?_; rintro e w1 ⟨A1, c1, rfl, hb, ho⟩))
  all_goals
    go_ret2
    exact ⟨A1, c1, rfl, hb, ho⟩
end Go.Proofs.Ytjjkpieokknhiaa

/-
  The walks of ranges that grow by many leaves, and of their copies.
-/
import Derived.Test.YtcebpfhokacccaaGrow
namespace Go.Proofs.Ytcebpfhokacccaa
set_option linter.unusedVariables false
open Go.RowKit

theorem grownW_step (wd n : Nat) (P zs : List ByteArray) (j : Nat) (h : j < zs.length) : grownW wd n P (zs.take (j + 1)) = growW wd (n + j) (grownW wd n P (zs.take j)) zs[j] := by
  unfold grownW
  rw [List.take_succ_eq_append_getElem h, grown_append, List.length_take, Nat.min_eq_left (by omega)]
  rfl
theorem madeP_step (n : Nat) (zs : List ByteArray) (j : Nat) (h : j < zs.length) : madeP n (zs.take (j + 1)) = madeP n (zs.take j) + ones 10 (n + j) := by
  rw [List.take_succ_eq_append_getElem h, madeP_append, List.length_take, Nat.min_eq_left (by omega)]
  rfl
set_option maxRecDepth 100000 in
set_option maxHeartbeats 2000000 in
theorem i_growAll (wd F n B : Nat) (h1 : 1 ≤ wd) (h32 : wd ≤ 32) (P zs : List ByteArray) (T : Option Addr) (c : Nat) (A : Option Addr) (cA L H : Nat) (w : World) (hn : n + zs.length ≤ 512) (hP : P.length = pl n) (hm : ∀ s ∈ P, s.size = wd) (hz : ∀ s ∈ zs, s.size = wd) (hR : Rd w L H A (strs zs)) (hHF : H ≤ B) (hB : B ≤ F)
    (hA : Arr w F 31 [.int .i64 (n : Int), .slice T P.length c]) (hO : Own w B w.heap.size 9 (.slice T P.length c) (strs P)) :
    Calls Try.prog 27 #[.pointer (some ⟨F, 0, none⟩), .int .i64 (wd : Int), .slice A zs.length cA] w fun e w' => e = .returned (.int .i64 (madeP n zs : Int)) ∧ Below B w w' ∧ ∃ T' c', Arr w' F 31 [.int .i64 ((n + zs.length : Nat) : Int), .slice T' (grownW wd n P zs).length c'] ∧ Own w' B w'.heap.size 9 (.slice T' (grownW wd n P zs).length c') (strs (grownW wd n P zs)) := by
  have HR := hide hR
  have AH := hide hA
  have OH := hide hO
  have lF := hA.lt
  have GL := hide (show ∀ j, j ≤ zs.length → (grownW wd n P (zs.take j)).length = pl (n + j) from fun j hj => by
    have e : (zs.take j).length = j := by rw [List.length_take]; omega
    have := grown_len (nodeT wd) (emptyT wd) (zs.take j) n P (by omega) hP
    rwa [e] at this)
  have GM := hide (show ∀ j, ∀ s ∈ grownW wd n P (zs.take j), s.size = wd from fun j => grown_mem (nodeT wd) (emptyT wd) (fun l r => nodeT_size wd l r h32) (zs.take j) n P hm (fun s hs => hz s (List.mem_of_mem_take hs)))
  have GS := hide (fun j (h : j < zs.length) => grownW_step wd n P zs j h)
  have MS := hide (fun j (h : j < zs.length) => madeP_step n zs j h)
  have MB := hide (fun j => madeP_bound (zs.take j) n)
  have HZ := hide hz
  have T0 := hide (show zs.take zs.length = zs from List.take_length)
  clear hR hA hO hP hm hz
  go_enter Try.func27, Try.ntmps27
  go_wp2
  go_loopw [7, 9, 12] (fun made leaf i wr => ∃ (j : Nat) (T : Option Addr) (c : Nat), j ≤ zs.length ∧ i = .int .i64 (j : Int) ∧ made = .int .i64 (madeP n (zs.take j) : Int) ∧ Below B w wr ∧ Arr wr F 31 [.int .i64 ((n + j : Nat) : Int), .slice T (grownW wd n P (zs.take j)).length c] ∧ Own wr B wr.heap.size 9 (.slice T (grownW wd n P (zs.take j)).length c) (strs (grownW wd n P (zs.take j)))) (fun _ _ i _ => zs.length - (intOf i).toNat)
  case atStart => exact ⟨0, T, c, Nat.zero_le _, rfl, rfl, Below.refl _ _, AH.out, OH.out⟩
  case round =>
    obtain ⟨j, T, c, hj, rfl, rfl, hb, ha, ho⟩ := hrel
    have BR := hide hb
    have AR := hide ha
    have OR := hide ho
    clear hb ha ho
    by_cases hlt : j < zs.length
    · have hlt' : (j : Int) < (zs.length : Int) := by omega
      have hl2 : j < (strs zs).length := by rw [length_strs]; exact hlt
      obtain ⟨ad, rfl, _, hadF, hc⟩ := (HR.out.keep (fun k _ _ h2 => BR.out.block k (by omega))).at_ hl2
      rw [strs_get] at hc
      have hxz := HZ.out (zs[j]'hlt) (List.getElem_mem _)
      have st := hide (GS.out j hlt)
      have ms := hide (MS.out j hlt)
      have mb := MB.out j
      have mb2 := MB.out (j + 1)
      have hl3 : (zs.take j).length = j := by rw [List.length_take]; omega
      have hl4 : (zs.take (j + 1)).length = j + 1 := by rw [List.length_take]; omega
      rw [hl3] at mb
      rw [hl4, ms.out] at mb2
      have CG := hide (i_grow wd F (n + j) B h1 h32 (grownW wd n P (zs.take j)) (zs[j]'hlt) T c wr (by omega) (GL.out j hj) (GM.out j) hxz hB AR.out OR.out)
      generalize zs[j]'hlt = x at *
      generalize madeP n (zs.take j) = md at *
      generalize ones 10 (n + j) = o at *
      clear hxz hl3 hl4
      go_wp2_with (go_at_call 28; refine (CG.out).mono ?_; rintro e w1 ⟨rfl, hb1, T1, c1, ha1, ho1⟩; have B1 := hide (BR.out.trans hb1); have A1 := hide ha1; have O1 := hide ho1; clear hb1 ha1 ho1)
      go_roundw
      case rel => exact ⟨j + 1, T1, c1, by omega, by go_num, by rw [ms.out]; rfl, B1.out, by rw [st.out]; exact A1.out, by rw [st.out]; exact O1.out⟩
      case measure => simp [intOf]; omega
    · have e : j = zs.length := by omega
      subst e
      have t0 := T0.out
      go_wp2
      go_ret
      refine ⟨ret_int (by rw [t0]), BR.out, T, c, ?_, ?_⟩
      · have := AR.out; rwa [t0] at this
      · have := OR.out; rwa [t0] at this
set_option maxHeartbeats 1000000 in
theorem c_CloneS (zs : List ByteArray) (A : Option Addr) (c L H : Nat) (w : World) (h : Rd w L H A (strs zs)) (hn : zs.length ≤ 1048576) :
    Calls Try.prog 44 #[.slice A zs.length c] w fun e w' => ∃ A' c', e = .returned (.slice A' zs.length c') ∧ Below w.heap.size w w' ∧ Own w' w.heap.size w'.heap.size 9 (.slice A' zs.length c') (strs zs) := by
  have hk := fun (W : World) => Lib.run_eql_slice_nil (P := Try.prog) W
  cases A with
  | none =>
    have h0 : zs = [] := by
      cases zs with
      | nil => rfl
      | cons x t => obtain ⟨ad, e, _⟩ := h (by simp [strs]); cases e
    subst h0
    clear h
    show Calls _ _ #[.slice none 0 c] w fun e w' => ∃ A' c', e = .returned (.slice A' 0 c') ∧ _ ∧ Own w' w.heap.size w'.heap.size 9 (.slice A' 0 c') []
    go_enter Try.func44, Try.ntmps44
    go_wp2
    go_ret
    exact ⟨none, 0, rfl, Below.refl _ _, Own.nil _ _ _ _⟩
  | some ad =>
    have H1 := hide h
    clear h
    go_enter Try.func44, Try.ntmps44
    go_wp2_with (at_builtin; refine wpList_app rfl _ _ _ rfl 9 (.string ⟨#[]⟩) 16 Try.underlying24 infoStrG rfl w.heap.size _ _ rfl (Own.made #[] _ _ (Nat.le_refl _) (by simp [maxLen])).top ad zs.length c (strs zs) rfl (length_strs _) (H1.out.alloc _).cells (strs_one zs) (by simp; omega) (by omega) (by simp) ?_; intro v' w1 hown1 hb1 _)
    obtain ⟨A', c', rfl, ho⟩ := hown1.shape
    simp only [List.nil_append] at ho ⊢
    rw [length_strs] at ho ⊢
    go_wp2
    go_ret
    exact ⟨A', c', rfl, ((Below.refl _ _).alloc (Nat.le_refl _) _).trans hb1, ho⟩
set_option maxRecDepth 100000 in
set_option maxHeartbeats 1000000 in
theorem i_copyRange (n : Int) (zs : List ByteArray) (A : Option Addr) (c L H : Nat) (w : World) (h : Rd w L H A (strs zs)) (hn : zs.length ≤ 1048576) :
    Calls Try.prog 26 #[.agg #[.int .i64 n, .slice A zs.length c]] w fun e w' => ∃ A' c', e = .returned (.agg #[.int .i64 n, .slice A' zs.length c']) ∧ Below w.heap.size w w' ∧ Own w' w.heap.size w'.heap.size 9 (.slice A' zs.length c') (strs zs) := by
  have H1 := hide h
  clear h
  go_enter Try.func26, Try.ntmps26
  go_wp2
  obtain ⟨W, hW⟩ : ∃ W, (w.alloc (.cells #[.int .i64 n, .slice A zs.length c] 31)).alloc (.cells #[.int .i64 0, .slice none 0 0] 31) = W := ⟨_, rfl⟩
  have AB := hide (show Arr W w.heap.size 31 [.int .i64 n, .slice A zs.length c] from hW ▸ (Arr.new w [.int .i64 n, .slice A zs.length c] _).alloc _)
  have AZ := hide (show Arr W (w.heap.size + 1) 31 [.int .i64 0, .slice none 0 0] from hW ▸ Arr.new_ (by simp) [.int .i64 0, .slice none 0 0] _)
  have BW := hide (show Below w.heap.size w W from hW ▸ ((Below.refl _ _).alloc (Nat.le_refl _) _).alloc (by simp) _)
  have RW := hide (show Rd W L H A (strs zs) from hW ▸ (H1.out.alloc _).alloc _)
  have SW : w.heap.size + 2 = W.heap.size := by rw [← hW]; simp
  rw [hW]
  clear hW
  have f0 : W.cell? ⟨w.heap.size, 0, none⟩ = some (.int .i64 n) := AB.out.cell (k := 0) (by simp)
  have f1 : W.cell? ⟨w.heap.size, 1, none⟩ = some (.slice A zs.length c) := AB.out.cell (k := 1) (by simp)
  have lN : w.heap.size < w.heap.size + 1 := Nat.lt_succ_self _
  refine wp_region_held_drew (S := fun w' => Below (w.heap.size + 1) W w') (by kernel_rfl) (below_drew (Below.refl _ _)) (fun hHeld => ?_)
  refine take_first 0 3 (.pointer (some ⟨w.heap.size, 0, none⟩)) rfl (by kernel_rfl) (by kernel_rfl) (by kernel_rfl) (fun _ _ _ h => h) rfl (.inl ⟨by rfl, fun w' hw' => by go_simp⟩) hHeld ?_
  simp only [Act.put, List.setIfInBounds_toArray, List.set_cons_zero, List.set_cons_succ]
  refine take_first 1 4 (.int .i64 n) rfl (by kernel_rfl) (by kernel_rfl) (by kernel_rfl) (fun _ _ _ h => h) rfl (.inl ⟨by rfl, fun w' hw' => by have cc := (Below.cell hw' lN).trans f0; go_simp⟩) hHeld ?_
  simp only [Act.put, List.setIfInBounds_toArray, List.set_cons_zero, List.set_cons_succ]
  refine take_first 2 5 (.pointer (some ⟨w.heap.size, 1, none⟩)) rfl (by kernel_rfl) (by kernel_rfl) (by kernel_rfl) (fun _ _ _ h => h) rfl (.inl ⟨by rfl, fun w' hw' => by go_simp⟩) hHeld ?_
  simp only [Act.put, List.setIfInBounds_toArray, List.set_cons_zero, List.set_cons_succ]
  refine take_first 3 6 (.slice A zs.length c) rfl (by kernel_rfl) (by kernel_rfl) (by kernel_rfl) (fun _ _ _ h => h) rfl (.inl ⟨by rfl, fun w' hw' => by have cc := (Below.cell hw' lN).trans f1; go_simp⟩) hHeld ?_
  simp only [Act.put, List.setIfInBounds_toArray, List.set_cons_zero, List.set_cons_succ]
  refine wpAnyH_ready (rs := [4]) (by kernel_rfl) (by simp) (AllReadyH.cons rfl (fun K hK => ?_) AllReadyH.nil)
  go_simp
  refine (c_CloneS zs A c L H _ RW.out.drew hn).mono ?_
  rintro e w1 ⟨A1, c1, rfl, hb1, ho1⟩
  dsimp only
  have S1 := hide (hHeld.trans (hb1.mono (show w.heap.size + 1 ≤ W.drew.heap.size by show _ ≤ W.heap.size; omega)))
  have B1 := hide (bel_new (below_drew BW.out) hb1 BW.out.size)
  have A1z := hide (AZ.out.drew.below hb1)
  have O1 := hide (show Own w1 W.heap.size w1.heap.size 9 (.slice A1 zs.length c1) (strs zs) from ho1)
  clear hb1 ho1 hHeld
  refine hK.out _ _ (S1.out) (fun hHeld => ?_)
  clear hK K
  refine take_first 5 8 (.agg #[.int .i64 n, .slice A1 zs.length c1]) rfl (by kernel_rfl) (by kernel_rfl) (by kernel_rfl) (fun _ _ _ h => h) rfl (.inl ⟨by rfl, fun w' hw' => by go_simp⟩) hHeld ?_
  simp only [Act.put, List.setIfInBounds_toArray, List.set_cons_zero, List.set_cons_succ]
  have z0 : w1.cell? ⟨w.heap.size + 1, 0, none⟩ = some (.int .i64 0) := A1z.out.cell (k := 0) (by simp)
  have z1 : w1.cell? ⟨w.heap.size + 1, 1, none⟩ = some (.slice none 0 0) := A1z.out.cell (k := 1) (by simp)
  have y0 := A1z.out.free 0
  have y1 := A1z.out.free 1
  refine wpAnyH_ready (rs := [6]) (by kernel_rfl) (by simp) (AllReadyH.cons rfl (fun K hK => ?_) AllReadyH.nil)
  go_simp
  clear hHeld
  refine hK.out _ _ (by repeat (first | with_reducible exact S1.out | with_reducible refine Below.setCell ?_ (by simp) _)) (fun hHeld => ?_)
  clear hK K
  refine wpAnyH_done (by kernel_rfl) ?_ _
  go_wp2
  obtain ⟨Z, hZ⟩ : ∃ Z, (w1.setCell ⟨w.heap.size + 1, 0, none⟩ (.int .i64 n)).setCell ⟨w.heap.size + 1, 1, none⟩ (.slice A1 zs.length c1) = Z := ⟨_, rfl⟩
  have A2 : Arr Z (w.heap.size + 1) 31 [.int .i64 n, .slice A1 zs.length c1] := hZ ▸ (A1z.out.set_ 0 (.int .i64 n)).set_ 1 (.slice A1 zs.length c1)
  have B2 : Below w.heap.size w Z := hZ ▸ (B1.out.setCell (by simp) _).setCell (by simp) _
  have O2 : Own Z (w.heap.size + 2) Z.heap.size 9 (.slice A1 zs.length c1) (strs zs) := hZ ▸ (((O1.out.wide (B' := w.heap.size + 2) (by omega) (Nat.le_refl _)).setCell (.inl (by simp)) _).setCell (.inl (by simp)) _).top
  rw [hZ]
  have u0 := A2.cell (k := 0) (by simp)
  have u1 := A2.cell (k := 1) (by simp)
  simp only [List.getElem_cons_zero, List.getElem_cons_succ] at u0 u1
  refine bodyPost_ret (v := .agg #[.int .i64 n, .slice A1 zs.length c1]) (by simp [results, Try.results26, go_sem, u0, u1]) rfl ⟨A1, c1, rfl, B2, O2.wide (by omega) (Nat.le_refl _)⟩
end Go.Proofs.Ytcebpfhokacccaa

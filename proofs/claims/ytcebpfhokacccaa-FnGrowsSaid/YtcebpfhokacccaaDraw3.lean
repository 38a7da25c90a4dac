/-
  The walks of more draws: how many leaves, a list of hashes, leaves, the arguments of RootOf.
-/
import Derived.Test.YtcebpfhokacccaaDraw2
import Derived.Test.YtcebpfhokacccaaFeed
namespace Go.Proofs.Ytcebpfhokacccaa
set_option linter.unusedVariables false
open Go.RowKit

theorem strs_one_more (Q : List ByteArray) (x : ByteArray) : strs Q ++ [.string x] = strs (Q ++ [x]) := by simp [strs]
theorem strs_set (zs : List ByteArray) (k : Nat) (x : ByteArray) : (strs zs).set k (.string x) = strs (zs.set k x) := by simp [strs, List.map_set]
set_option maxRecDepth 100000 in
set_option maxHeartbeats 1000000 in
theorem s_l04Few (N : Nat) (w : World) (h : CurOk w N) :
    Calls Try.prog 40 #[.pointer (some ⟨N, 0, none⟩)] w fun e w' => ∃ n : Int, e = .returned (.int .i64 n) ∧ 0 ≤ n ∧ n ≤ 512 ∧ CurOk w' N ∧ Chg N (N + 1) w w' := by
  have HC := hide h
  have L0 := h.lt
  clear h
  go_enter Try.func40, Try.ntmps40
  go_wp2_with fail
  refine (s_l01Once N _ _ HC.out).mono ?_
  rintro e w1 ⟨b, rfl, hk, hg⟩
  have K1 := hide hk
  have F1 := hide (hg)
  have L1 := hk.lt
  clear hk hg
  cases b
  · go_wp2_with fail
    refine (s_l01Below N _ _ K1.out).mono ?_
    rintro e w2 ⟨x, rfl, x0, x1, -, hk, hg⟩
    have K2 := hide hk
    have F2 := hide (F1.out.trans hg)
    have L2 := hk.lt
    clear hk hg
    replace x1 := x1 (by omega)
    go_wp2
    go_ret
    exact ⟨_, rfl, by omega, by omega, K2.out, F2.out⟩
  · go_wp2_with fail
    refine (s_l01Below N _ _ K1.out).mono ?_
    rintro e w2 ⟨x, rfl, x0, x1, -, hk, hg⟩
    have K2 := hide hk
    have F2 := hide (F1.out.trans hg)
    have L2 := hk.lt
    clear hk hg
    replace x1 := x1 (by omega)
    go_wp2
    go_ret
    exact ⟨_, rfl, by omega, by omega, K2.out, F2.out⟩
theorem infoStrD : (Try.prog.info? 9).map (fun i => (i.zero, i.size, i.bytes)) = some (some (.string ⟨#[]⟩), 1, 16) := by kernel_rfl
set_option maxRecDepth 100000 in
set_option maxHeartbeats 1000000 in
theorem s_l04List (N : Nat) (width n : Int) (w : World) (h : CurOk w N) (h0 : 0 ≤ n) (h1 : n ≤ 600) :
    Calls Try.prog 42 #[.pointer (some ⟨N, 0, none⟩), .int .i64 width, .int .i64 n] w fun e w' => (∃ (A' : Option Addr) (c' : Nat) (zs : List ByteArray), e = .returned (.slice A' zs.length c') ∧ (zs.length : Int) = n ∧ (∀ s ∈ zs, s.size ≤ 5000) ∧ Own w' w.heap.size w'.heap.size 9 (.slice A' zs.length c') (strs zs)) ∧ CurOk w' N ∧ Chg N (N + 1) w w' := by
  have HC := hide h
  have L0 := h.lt
  clear h
  cases hi : inR width 1 32
  all_goals
    go_enter Try.func42, Try.ntmps42
    go_wp2_with (go_at_call 43; refine (s_l02Width _ _).mono ?_; rintro e w1 ⟨rfl, rfl⟩)
    go_loopw [7, 8] (fun v i wr => ∃ (j : Nat) (zs : List ByteArray), (j : Int) ≤ n ∧ i = .int .i64 (j : Int) ∧ Hid (zs.length = j) ∧ Hid (∀ s ∈ zs, s.size ≤ 5000) ∧ CurOk wr N ∧ Chg N (N + 1) w wr ∧ Own wr w.heap.size wr.heap.size 9 v (strs zs)) (fun _ i _ => (n - intOf i).toNat)
    case atStart => exact ⟨0, [], h0, rfl, rfl, hide (fun s hs => by simp at hs), HC.out.alloc _, (Chg.refl _ _ _).alloc _, (Own.made #[] _ _ (Nat.le_refl _) (by simp [maxLen])).top⟩
    case round =>
      obtain ⟨j, zs, hj, rfl, hz, hv, hk, hg, ho⟩ := hrel
      have KR := hide hk
      have GR := hide hg
      have OR := hide ho
      clear hk hg ho
      by_cases hlt : (j : Int) < n
      · go_wp2_with fail
        refine (s_l01Text N _ _ KR.out).mono ?_
        rintro e w1 ⟨x, rfl, hx, hk, hg⟩
        have K1 := hide hk
        have G1 := hide (GR.out.trans hg)
        have O1 := hide ((OR.out.chg hg (.inr (by omega))).top)
        have HX := hide hx
        clear hk hg hx
        go_wp2_with (at_builtin; refine wpList_app rfl _ _ _ rfl 9 (.string ⟨#[]⟩) 16 Try.underlying24 infoStrD rfl w.heap.size _ _ rfl ((O1.out.alloc _).top) ⟨w1.heap.size, 0, none⟩ 1 1 [.string x] rfl rfl (new_cells #[.string x] _) (by simp [Value.oneCell']) (by rw [length_strs, hz.out]; omega) (by omega) (by have := G1.out.size; simp; omega) ?_; intro v' w2 hown2 hb2 _; have O2 := hide hown2; have K2 := hide ((K1.out.alloc (.cells #[.string x] 9)).keep (fun k _ h2 => hb2.block k (by omega))); have G2 := hide ((G1.out.alloc (.cells #[.string x] 9)).below_ hb2); clear hown2 hb2)
        go_roundw
        case rel => exact ⟨j + 1, zs ++ [x], by omega, by go_num, hide (by rw [List.length_append, hz.out]; rfl), hide (fun s h => by rcases List.mem_append.1 h with h | h; exact hv.out s h; rw [List.mem_singleton.1 h]; exact HX.out), K2.out, G2.out, by have := O2.out; rw [strs_one_more] at this; exact this⟩
        case measure => simp [intOf]; omega
      · obtain ⟨A', c', rfl, ho⟩ := OR.out.shape
        rw [length_strs] at ho ⊢
        go_wp2
        go_ret
        exact ⟨⟨A', c', zs, rfl, by have := hz.out; omega, hv.out, ho⟩, KR.out, GR.out⟩
set_option maxRecDepth 100000 in
set_option maxHeartbeats 1000000 in
theorem s_l04Leaves (N : Nat) (width : Int) (w : World) (h : CurOk w N) :
    Calls Try.prog 21 #[.pointer (some ⟨N, 0, none⟩), .int .i64 width] w fun e w' => (∃ (A' : Option Addr) (c' : Nat) (zs : List ByteArray), e = .returned (.slice A' zs.length c') ∧ zs.length ≤ 513 ∧ (∀ s ∈ zs, s.size ≤ 5000) ∧ Own w' w.heap.size w'.heap.size 9 (.slice A' zs.length c') (strs zs)) ∧ CurOk w' N ∧ Chg N (N + 1) w w' := by
  have HC := hide h
  have L0 := h.lt
  clear h
  go_enter Try.func21, Try.ntmps21
  go_wp2_with fail
  refine (s_l04Few N _ HC.out).mono ?_
  rintro e w1 ⟨x, rfl, x0, x1, hk, hg⟩
  have K1 := hide hk
  have F1 := hide (hg)
  have L1 := hk.lt
  clear hk hg
  go_wp2_with fail
  refine (s_l01Once N _ _ K1.out).mono ?_
  rintro e w2 ⟨b, rfl, hk, hg⟩
  have K2 := hide hk
  have F2 := hide (F1.out.trans hg)
  have L2 := hk.lt
  clear hk hg
  cases b
  · go_wp2_with fail
    refine (s_l04List N _ _ _ K2.out (by omega) (by omega)).mono ?_
    rintro e v1 ⟨⟨A1, c1, zs, rfl, hz, hs, ho⟩, hk, hg⟩
    have KV1 := hide hk
    have GV1 := hide (F2.out.trans hg)
    have OV1 := hide ho
    have HS := hide hs
    have LV1 := hg.size
    clear hk hg ho hs
    go_wp2_with fail
    refine (s_l01Once N _ _ KV1.out).mono ?_
    rintro e v2 ⟨b2, rfl, hk, hg⟩
    have KV2 := hide hk
    have GV2 := hide (GV1.out.trans hg)
    have OV2 := hide ((OV1.out.chg hg (.inr (by have := L0; omega))).top)
    have LV2 := hg.size
    clear hk hg
    cases b2
    · go_wp2
      go_ret
      exact ⟨⟨A1, c1, zs, rfl, by omega, HS.out, OV2.out.wide (by have := F2.out.size; omega) (Nat.le_refl _)⟩, KV2.out, GV2.out⟩
    · by_cases h0 : 0 < x
      · go_wp2_with fail
        refine (s_l01Below N _ _ KV2.out).mono ?_
        rintro e v3 ⟨k, rfl, k0, k1, -, hk, hg⟩
        replace k1 := k1 (by omega)
        obtain ⟨k, rfl⟩ := Int.eq_ofNat_of_zero_le k0
        have KV3 := hide hk
        have GV3 := hide (GV2.out.trans hg)
        have ho := (OV2.out.chg hg (.inr (by have := L0; omega))).top
        have LV3 := hg.size
        clear hk hg
        have hkl : k < (strs zs).length := by rw [length_strs]; omega
        obtain ⟨g, rfl, gl, -, glt, hc, hf⟩ := ho.at2 hkl
        rw [strs_get] at hc
        have hz' : k < zs.length := by omega
        have OV4 := hide (show Own (v3.setCell ⟨g, k, none⟩ (.string ⟨#[63, 33]⟩)) w2.heap.size v3.heap.size 9 (.slice (some ⟨g, 0, none⟩) zs.length c1) (strs (zs.set k ⟨#[63, 33]⟩)) from by
          have h4 : Own v3 w2.heap.size v3.heap.size 9 (.slice (some ⟨g, 0, none⟩) (strs zs).length c1) (strs zs) := by rw [length_strs]; exact ho
          have := h4.set_ hkl (.string ⟨#[63, 33]⟩)
          rw [strs_set] at this
          rw [length_strs, List.length_set] at this
          exact this)
        have hNg : N < g := by have := L0; omega
        clear ho
        go_wp2
        go_ret
        refine ⟨⟨some ⟨g, 0, none⟩, c1, zs.set k ⟨#[63, 33]⟩, (by rw [List.length_set]; rfl), by rw [List.length_set]; omega, fun s h => ?_, ?_⟩, KV3.out.setCell hNg _, ?_⟩
        · rcases List.mem_or_eq_of_mem_set h with h | rfl
          · exact HS.out s h
          · decide
        · rw [List.length_set]
          exact (OV4.out.wide (by have := F2.out.size; omega) (by simp))
        · exact GV3.out.below_ ((Below.refl _ _).setCell (by have := F2.out.size; show w.heap.size ≤ g; omega) _)
      · go_wp2
        go_ret
        exact ⟨⟨A1, c1, zs, rfl, by omega, HS.out, OV2.out.wide (by have := F2.out.size; omega) (Nat.le_refl _)⟩, KV2.out, GV2.out⟩
  · go_wp2_with fail
    refine (s_l01Below N _ _ K2.out).mono ?_
    rintro e w3 ⟨y, rfl, y0, y1, -, hk, hg⟩
    have K3 := hide hk
    have F3 := hide (F2.out.trans hg)
    have L3 := hk.lt
    clear hk hg
    replace y1 := y1 (by omega)
    go_wp2_with fail
    refine (s_l04List N _ _ _ K3.out (by omega) (by omega)).mono ?_
    rintro e v1 ⟨⟨A1, c1, zs, rfl, hz, hs, ho⟩, hk, hg⟩
    have KV1 := hide hk
    have GV1 := hide (F3.out.trans hg)
    have OV1 := hide ho
    have HS := hide hs
    have LV1 := hg.size
    clear hk hg ho hs
    go_wp2_with fail
    refine (s_l01Once N _ _ KV1.out).mono ?_
    rintro e v2 ⟨b2, rfl, hk, hg⟩
    have KV2 := hide hk
    have GV2 := hide (GV1.out.trans hg)
    have OV2 := hide ((OV1.out.chg hg (.inr (by have := L0; omega))).top)
    have LV2 := hg.size
    clear hk hg
    cases b2
    · go_wp2
      go_ret
      exact ⟨⟨A1, c1, zs, rfl, by omega, HS.out, OV2.out.wide (by have := F3.out.size; omega) (Nat.le_refl _)⟩, KV2.out, GV2.out⟩
    · by_cases h0 : 0 < (512 + y)
      · go_wp2_with fail
        refine (s_l01Below N _ _ KV2.out).mono ?_
        rintro e v3 ⟨k, rfl, k0, k1, -, hk, hg⟩
        replace k1 := k1 (by omega)
        obtain ⟨k, rfl⟩ := Int.eq_ofNat_of_zero_le k0
        have KV3 := hide hk
        have GV3 := hide (GV2.out.trans hg)
        have ho := (OV2.out.chg hg (.inr (by have := L0; omega))).top
        have LV3 := hg.size
        clear hk hg
        have hkl : k < (strs zs).length := by rw [length_strs]; omega
        obtain ⟨g, rfl, gl, -, glt, hc, hf⟩ := ho.at2 hkl
        rw [strs_get] at hc
        have hz' : k < zs.length := by omega
        have OV4 := hide (show Own (v3.setCell ⟨g, k, none⟩ (.string ⟨#[63, 33]⟩)) w3.heap.size v3.heap.size 9 (.slice (some ⟨g, 0, none⟩) zs.length c1) (strs (zs.set k ⟨#[63, 33]⟩)) from by
          have h4 : Own v3 w3.heap.size v3.heap.size 9 (.slice (some ⟨g, 0, none⟩) (strs zs).length c1) (strs zs) := by rw [length_strs]; exact ho
          have := h4.set_ hkl (.string ⟨#[63, 33]⟩)
          rw [strs_set] at this
          rw [length_strs, List.length_set] at this
          exact this)
        have hNg : N < g := by have := L0; omega
        clear ho
        go_wp2
        go_ret
        refine ⟨⟨some ⟨g, 0, none⟩, c1, zs.set k ⟨#[63, 33]⟩, (by rw [List.length_set]; rfl), by rw [List.length_set]; omega, fun s h => ?_, ?_⟩, KV3.out.setCell hNg _, ?_⟩
        · rcases List.mem_or_eq_of_mem_set h with h | rfl
          · exact HS.out s h
          · decide
        · rw [List.length_set]
          exact (OV4.out.wide (by have := F3.out.size; omega) (by simp))
        · exact GV3.out.below_ ((Below.refl _ _).setCell (by have := F3.out.size; show w.heap.size ≤ g; omega) _)
      · exact absurd (show 0 < 512 + y by omega) h0
set_option maxRecDepth 100000 in
set_option maxHeartbeats 1000000 in
theorem s_DrawRootOf (code : List Int) (A : Option Addr) (c L H : Nat) (w : World) (h : Rd w L H A (ints .u8 code)) (hc : ∀ b ∈ code, 0 ≤ b ∧ b ≤ 255) (hn : code.length ≤ 1048576) :
    Calls Try.prog 6 #[.slice A code.length c] w fun e w' => ∃ (width : Int) (A' : Option Addr) (c' : Nat) (zs : List ByteArray), e = .returned (.tuple #[.int .i64 width, .slice A' zs.length c']) ∧ zs.length ≤ 513 ∧ (∀ s ∈ zs, s.size ≤ 5000) ∧ Below w.heap.size w w' ∧ Own w' w.heap.size w'.heap.size 9 (.slice A' zs.length c') (strs zs) := by
  have HR := hide h
  have HC := hide hc
  clear h hc
  go_enter Try.func6, Try.ntmps6
  go_wp2_with fail
  refine (s_l01New code A c L H _ HR.out HC.out hn).mono ?_
  rintro e w1 ⟨rfl, hk, hb⟩
  have K1 := hide hk
  have F1 := hide hb
  have L1 := hk.lt
  clear hk hb
  go_wp2_with fail
  refine (s_l01Width _ _ K1.out).mono ?_
  rintro e w2 ⟨width, rfl, hk, hg⟩
  have K2 := hide hk
  have F2 := hide (bel_chg F1.out hg F1.out.size (.inl (Nat.le_refl _)))
  have L2 := hk.lt
  clear hk hg
  go_wp2_with fail
  refine (s_l04Leaves _ _ _ K2.out).mono ?_
  rintro e w3 ⟨⟨A1, c1, zs, rfl, hz, hs, ho⟩, hk, hg⟩
  have F3 := hide (bel_chg F2.out hg F2.out.size (.inl (Nat.le_refl _)))
  have O3 := hide ho
  clear hk hg ho
  go_wp2
  go_ret2
  exact ⟨width, A1, c1, zs, rfl, hz, hs, F3.out, O3.out.wide F2.out.size (Nat.le_refl _)⟩
end Go.Proofs.Ytcebpfhokacccaa

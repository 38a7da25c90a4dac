/-
  The walks of more draws: a width, a tag, a text, the arguments of Digest, twelve places.
-/
import Derived.Test.YtcebpfhokacccaaDraw
namespace Go.Proofs.Ytcebpfhokacccaa
set_option linter.unusedVariables false
open Go.RowKit

set_option maxRecDepth 100000 in
set_option maxHeartbeats 1000000 in
theorem s_l01Width (N : Nat) (w : World) (h : CurOk w N) :
    Calls Try.prog 20 #[.pointer (some ⟨N, 0, none⟩)] w fun e w' => ∃ v : Int, e = .returned (.int .i64 v) ∧ CurOk w' N ∧ Chg N (N + 1) w w' := by
  have HC := hide h
  have L0 := h.lt
  clear h
  go_enter Try.func20, Try.ntmps20
  go_wp2_with fail
  refine (s_l01Below N _ _ HC.out).mono ?_
  rintro e w1 ⟨x, rfl, x0, x1, -, hk, hg⟩
  have K1 := hide hk
  have F1 := hide (hg)
  have L1 := hk.lt
  clear hk hg
  replace x1 := x1 (by omega)
  have hx : x = 0 ∨ x = 1 ∨ x = 2 ∨ x = 3 ∨ x = 4 ∨ 5 ≤ x := by omega
  rcases hx with rfl | rfl | rfl | rfl | rfl | hx
  · go_wp2_with fail
    refine (s_l01PickInt N [0, -1, 33, 9223372036854775807] _ _ _ _ _ (K1.out.alloc _) (Rd.made _ _ _ rfl) L1 (by simp) (by simp)).mono ?_
    rintro e w2 ⟨v, rfl, -, hk, hg⟩
    have K2 := hide hk
    have L2 := hk.lt
    have F2 := hide ((F1.out.alloc _).trans hg)
    clear hk hg
    go_wp2
    go_ret
    exact ⟨_, rfl, K2.out, F2.out⟩
  · go_wp2
    go_ret
    exact ⟨_, rfl, K1.out, F1.out⟩
  · go_wp2
    go_ret
    exact ⟨_, rfl, K1.out, F1.out⟩
  · go_wp2
    go_ret
    exact ⟨_, rfl, K1.out, F1.out⟩
  · go_wp2
    go_ret
    exact ⟨_, rfl, K1.out, F1.out⟩
  · have d0 : (x == 0) = false := by simp only [beq_eq_false_iff_ne]; omega
    have d1 : (x == 1) = false := by simp only [beq_eq_false_iff_ne]; omega
    have d2 : (x == 2) = false := by simp only [beq_eq_false_iff_ne]; omega
    have d3 : (x == 3) = false := by simp only [beq_eq_false_iff_ne]; omega
    have d4 : (x == 4) = false := by simp only [beq_eq_false_iff_ne]; omega
    go_wp2_with fail
    refine (s_l01Below N _ _ K1.out).mono ?_
    rintro e w2 ⟨y, rfl, y0, y1, -, hk, hg⟩
    have K2 := hide hk
    have F2 := hide (F1.out.trans hg)
    have L2 := hk.lt
    clear hk hg
    replace y1 := y1 (by omega)
    go_wp2
    go_ret
    exact ⟨_, rfl, K2.out, F2.out⟩
theorem infoI64d : (Try.prog.info? 3).map (fun i => (i.zero, i.size, i.bytes)) = some (some (.int .i64 0), 1, 8) := by kernel_rfl
set_option maxRecDepth 100000 in
set_option maxHeartbeats 1000000 in
theorem s_DrawPlaces (code : List Int) (A : Option Addr) (c L H : Nat) (w : World) (h : Rd w L H A (ints .u8 code)) (hc : ∀ b ∈ code, 0 ≤ b ∧ b ≤ 255) (hn : code.length ≤ 1048576) :
    Calls Try.prog 8 #[.slice A code.length c] w fun e w' => ∃ (A' : Option Addr) (c' : Nat) (zs : List Int), e = .returned (.slice A' 12 c') ∧ zs.length = 12 ∧ (∀ z ∈ zs, 0 ≤ z ∧ z < 10000) ∧ Below w.heap.size w w' ∧ Own w' w.heap.size w'.heap.size 3 (.slice A' 12 c') (ints .i64 zs) := by
  have HR := hide h
  have HC := hide hc
  clear h hc
  go_enter Try.func8, Try.ntmps8
  go_wp2_with fail
  refine (s_l01New code A c L H _ HR.out HC.out hn).mono ?_
  rintro e w1 ⟨rfl, hk, hb⟩
  have K1 := hide hk
  have F1 := hide hb
  have L1 := hk.lt
  clear hk hb
  go_wp2_with fail
  refine (s_l01Byte _ _ K1.out).mono ?_
  rintro e w2 ⟨x, rfl, x0, x1, hk, hg⟩
  have K2 := hide hk
  have F2 := hide (bel_chg F1.out hg F1.out.size (.inl (Nat.le_refl _)))
  have L2 := hk.lt
  clear hk hg
  go_wp2
  go_loopw [4, 5] (fun v i wr => ∃ (j : Nat) (zs : List Int), j ≤ 12 ∧ i = .int .i64 (j : Int) ∧ Hid (zs.length = j) ∧ Hid (∀ z ∈ zs, 0 ≤ z ∧ z < 10000) ∧ CurOk wr w.heap.size ∧ Below w.heap.size w wr ∧ Own wr (w.heap.size + 1) wr.heap.size 3 v (ints .i64 zs)) (fun _ i _ => 12 - (intOf i).toNat)
  case atStart => exact ⟨0, [], Nat.zero_le _, rfl, rfl, hide (fun z hz => by simp at hz), K2.out.alloc _, F2.out.alloc F2.out.size _, (Own.made #[] _ _ (by omega) (by simp [maxLen])).top⟩
  case round =>
    obtain ⟨j, zs, hj, rfl, hz, hv, hk, hb, ho⟩ := hrel
    have KR := hide hk
    have BR := hide hb
    have OR := hide ho
    clear hk hb ho
    by_cases hlt : (j : Int) < 12
    · go_wp2_with fail
      refine (s_l01Below _ _ _ KR.out).mono ?_
      rintro e w3 ⟨y, rfl, y0, y1, -, hk, hg⟩
      replace y1 := y1 (by omega)
      have K3 := hide hk
      have B3 := hide (bel_chg BR.out hg BR.out.size (.inl (Nat.le_refl _)))
      have O3 := hide ((OR.out.chg hg (.inr (Nat.le_refl _))).top)
      have S3 := hk.lt
      clear hk hg
      go_wp2_with (at_builtin; refine wpList_app rfl _ _ _ rfl 3 (.int .i64 0) 8 Try.underlying28 infoI64d rfl (w.heap.size + 1) _ _ rfl ((O3.out.alloc _).top) ⟨w3.heap.size, 0, none⟩ 1 1 [.int .i64 y] rfl rfl (new_cells #[.int .i64 y] _) (ints_one .i64 [y]) (by rw [length_ints, hz.out]; omega) (by omega) (by simp; omega) ?_; intro v' w4 hown4 hb4 _; have O4 := hide hown4; have K4 := hide ((K3.out.alloc (.cells #[.int .i64 y] 3)).keep (fun k _ h2 => hb4.block k (by omega))); have B4 := hide ((B3.out.alloc B3.out.size (.cells #[.int .i64 y] 3)).trans (hb4.mono (Nat.le_succ _))); clear hown4 hb4)
      go_roundw
      case rel => exact ⟨j + 1, zs ++ [y], by omega, by go_num, hide (by rw [List.length_append, hz.out]; rfl), hide (fun z h => by rcases List.mem_append.1 h with h | h; exact hv.out z h; simp at h; omega), K4.out, B4.out, by have := O4.out; simpa [ints] using this⟩
      case measure => simp [intOf]; omega
    · have hj12 : j = 12 := by omega
      subst hj12
      obtain ⟨A', c', rfl, ho⟩ := OR.out.shape
      rw [length_ints, hz.out] at ho ⊢
      go_wp2
      go_ret
      exact ⟨A', c', rfl, zs, hz.out, hv.out, BR.out, ho.wide (Nat.le_succ _) (Nat.le_refl _)⟩
end Go.Proofs.Ytcebpfhokacccaa

/-
  The walks of the laws' helpers on slices of strings: equal, mark, held, copy.
-/
import Derived.Test.YticpedlcfakaeaaBase
import Derived.Test.YticpedlcfakaeaaRows
import Derived.WalkKit
import Derived.WalkLawsBesides
import Derived.WalkSpells
import Derived.LoopTactic
import Derived.Deep.QuietTactic
import Derived.BigQuiet
import Derived.IntWalk
namespace Go.Proofs.Yticpedlcfakaeaa
set_option linter.unusedVariables false
open Go.RowKit

set_option maxHeartbeats 400000 in
theorem l_eqStringS (zs : List ByteArray) (A A' : Option Addr) (c c' L H L' H' : Nat) (w : World) (h : Rd w L H A (strs zs)) (h' : Rd w L' H' A' (strs zs)) (hn : zs.length ≤ 9223372036854775807) :
    Calls Try.prog 94 #[.slice A zs.length c, .slice A' zs.length c'] w fun e w' => e = .returned (.bool true) ∧ ∃ n, w.drewN n = w' := by
  have H1 := hide h
  have H2 := hide h'
  clear h h'
  go_enter Try.func94, Try.ntmps94
  go_wp2
  go_loopw [5] (fun i wr => ∃ j : Nat, j ≤ zs.length ∧ i = .int .i64 j ∧ ∃ n, w.drewN n = wr) (fun i _ => zs.length - (intOf i).toNat)
  case atStart => exact ⟨0, Nat.zero_le _, rfl, 0, rfl⟩
  case round =>
    obtain ⟨j, hj, rfl, n, rfl⟩ := hrel
    by_cases hlt : j < zs.length
    · have hlt' : (j : Int) < (zs.length : Int) := by omega
      have hl2 : j < (strs zs).length := by rw [length_strs]; exact hlt
      obtain ⟨ad, rfl, _, _, hc⟩ := H1.out.at_ hl2
      obtain ⟨ad', rfl, _, _, hc'⟩ := H2.out.at_ hl2
      rw [strs_get] at hc hc'
      go_wp2
      go_quiet (fail)
      go_wp2
      go_roundw
      case rel => exact ⟨j + 1, by omega, by go_num, _, rfl⟩
      case measure => simp [intOf]; omega
    · go_wp2
      go_ret
      exact ⟨rfl, _, rfl⟩
theorem toSetS (zs : List ByteArray) (j : Nat) (h : j < zs.length) : (strs (zs.take j ++ List.replicate (zs.length - j) ByteArray.empty)).set j (.string (zs[j]'h)) = strs (zs.take (j + 1) ++ List.replicate (zs.length - (j + 1)) ByteArray.empty) := by
  have e1 : zs.length - j = (zs.length - (j + 1)) + 1 := by omega
  have e2 : (List.map (Value.string) (zs.take j)).length = j := by rw [List.length_map, List.length_take]; omega
  rw [e1, List.replicate_succ, List.take_succ_eq_append_getElem h]
  unfold strs
  rw [List.map_append, List.map_cons, List.set_append_right _ _ (by omega), e2, Nat.sub_self, List.set_cons_zero, List.append_assoc, List.map_append]
  rfl
theorem infoS : (Try.prog.info? 9).map (fun i => (i.zero, i.size, i.bytes)) = some (some (.string ByteArray.empty), 1, 16) := by kernel_rfl
set_option maxHeartbeats 400000 in
theorem l_toStringS (zs : List ByteArray) (A : Option Addr) (c L H : Nat) (w : World) (h : Rd w L H A (strs zs)) (hn : zs.length ≤ 1048576) :
    Calls Try.prog 90 #[.slice A zs.length c] w fun e w' => ∃ A' c', e = .returned (.slice A' zs.length c') ∧ Below w.heap.size w w' ∧ Own w' w.heap.size w'.heap.size 9 (.slice A' zs.length c') (strs zs) := by
  obtain ⟨i0, hi, hz0, hz1, hz2⟩ := info_parts infoS
  have H1 := hide h
  clear h
  go_enter Try.func90, Try.ntmps90
  go_wp2_with (refine wpList_make_full _ rfl (.tmp 6) (.tmp 6) _ rfl w.heap.size 9 i0 (.string ByteArray.empty) 1 Try.underlying63 hi hz0 hz1 .i64 .i64 _ _ zs.length rfl rfl rfl rfl (by rw [hz2]; omega) (by unfold maxLen; omega) (Nat.le_refl _) ?_; intro w1 hown1 hg1)
  have hb1 : Below w.heap.size w w1 := (Below.refl _ _).grown hg1 (Nat.le_refl _) (fun k hk => by cases hk)
  have ho1 : Own w1 w.heap.size (w.heap.size + 1) 9 (.slice (some ⟨w.heap.size, 0, none⟩) zs.length zs.length) (strs (zs.take 0 ++ List.replicate (zs.length - 0) ByteArray.empty)) := by
    refine ⟨?_, fun g hg => by simp [Value.ownBlock] at hg; omega⟩
    have e1 : (madeCells (Value.string ByteArray.empty).cells (zs.length * 1)).toList = strs (zs.take 0 ++ List.replicate (zs.length - 0) ByteArray.empty) := by
      rw [Nat.mul_one, show (Value.string ByteArray.empty).cells = #[Value.string ByteArray.empty] from rfl, toList_madeCells_one]
      simp [strs]
    rw [← e1]
    have e2 : (madeCells (Value.string ByteArray.empty).cells (zs.length * 1)).toList.length = zs.length := by rw [e1]; simp [strs]
    rw [e2]
    exact hown1
  clear hown1 hg1
  go_loopw [4] (fun i wr => ∃ j : Nat, j ≤ zs.length ∧ i = .int .i64 j ∧ Below w.heap.size w wr ∧ Own wr w.heap.size (w.heap.size + 1) 9 (.slice (some ⟨w.heap.size, 0, none⟩) zs.length zs.length) (strs (zs.take j ++ List.replicate (zs.length - j) ByteArray.empty))) (fun i _ => zs.length - (intOf i).toNat)
  case atStart => exact ⟨0, Nat.zero_le _, rfl, hb1, ho1⟩
  case round =>
    clear ho1 hb1
    obtain ⟨j, hj, rfl, hb, hown⟩ := hrel
    have Hown := hide hown
    clear hown
    by_cases hlt : j < zs.length
    · have hlt' : (j : Int) < (zs.length : Int) := by omega
      have hl0 : j < (strs zs).length := by rw [length_strs]; exact hlt
      obtain ⟨ad, rfl, _, hH, hc0⟩ := (H1.out.top.below hb).at_ hl0
      rw [strs_get] at hc0
      have hlen : (strs (zs.take j ++ List.replicate (zs.length - j) ByteArray.empty)).length = zs.length := by rw [length_strs, List.length_append, List.length_take, List.length_replicate]; omega
      have hl2 : j < (strs (zs.take j ++ List.replicate (zs.length - j) ByteArray.empty)).length := by rw [hlen]; exact hlt
      obtain ⟨hB, hC, hg, hc, hf⟩ := Hown.out.at3 hl2
      have Hnew := hide (Own.set_ (cap := zs.length) (by rw [hlen]; exact Hown.out) hl2 (.string (zs[j]'hlt)))
      have HL := hide hlen
      clear hlen
      go_wp2
      go_roundw
      case rel =>
        refine ⟨j + 1, by omega, by go_num, hb.setCell (Nat.le_refl _) _, ?_⟩
        have hx := Hnew.out
        rw [toSetS zs j hlt] at hx
        have hl3 : (strs (zs.take (j + 1) ++ List.replicate (zs.length - (j + 1)) ByteArray.empty)).length = zs.length := by rw [length_strs, List.length_append, List.length_take, List.length_replicate]; omega
        rw [hl3] at hx
        exact hx
      case measure => simp [intOf]; omega
    · have e : j = zs.length := by omega
      have He := hide e
      have hge : zs.length ≤ j := by omega
      clear e
      go_wp2
      go_ret
      refine ⟨_, _, rfl, hb, ?_⟩
      have hx := Hown.out.top
      rw [He.out, Nat.sub_self, List.replicate_zero, List.append_nil, List.take_length] at hx
      exact hx
/-- The lengths of texts, summed. -/
def sumLen : List ByteArray → Nat
  | [] => 0
  | s :: r => s.size + sumLen r
theorem sumLen_take (zs : List ByteArray) (j : Nat) (h : j < zs.length) : sumLen (zs.take (j + 1)) = sumLen (zs.take j) + (zs[j]'h).size := by
  induction zs generalizing j with
  | nil => simp at h
  | cons s r ih =>
    cases j with
    | zero => simp [sumLen]
    | succ j =>
      have hj : j < r.length := by simpa using h
      simp only [List.take_succ_cons, sumLen, List.getElem_cons_succ]
      rw [ih j hj]
      omega
theorem sumLen_take_le (zs : List ByteArray) (j : Nat) : sumLen (zs.take j) ≤ sumLen zs := by
  induction zs generalizing j with
  | nil => simp [sumLen]
  | cons s r ih =>
    cases j with
    | zero => simp [sumLen]
    | succ j =>
      simp only [List.take_succ_cons, sumLen]
      have := ih j
      omega
theorem size_le_sumLen {zs : List ByteArray} {s : ByteArray} (h : s ∈ zs) : s.size ≤ sumLen zs := by
  induction zs with
  | nil => simp at h
  | cons a r ih =>
    simp only [sumLen]
    rcases List.mem_cons.1 h with rfl | h
    · omega
    · have := ih h; omega
set_option maxHeartbeats 400000 in
theorem l_szStringS_in (zs : List ByteArray) (A : Option Addr) (c L H : Nat) (l : Int) (w : World) (h : Rd w L H A (strs zs)) (hl : (zs.length : Int) + sumLen zs ≤ l) (h2 : l ≤ 1048576) :
    Calls Try.prog 87 #[.slice A zs.length c, .int .i64 l] w fun e w' => e = .returned (.int .i64 (l - zs.length - sumLen zs)) ∧ w = w' := by
  have H1 := hide h
  clear h
  have g1 : 0 ≤ l - zs.length := by omega
  go_enter Try.func87, Try.ntmps87
  go_wp2
  go_loop [1, 5] (fun q i => ∃ j : Nat, j ≤ zs.length ∧ i = .int .i64 j ∧ q = .int .i64 (l - zs.length - sumLen (zs.take j))) (fun _ i => zs.length - (intOf i).toNat)
  case atStart => exact ⟨0, Nat.zero_le _, rfl, by simp [sumLen]⟩
  case round =>
    obtain ⟨j, hj, rfl, rfl⟩ := hrel
    by_cases hlt : j < zs.length
    · have hlt' : (j : Int) < (zs.length : Int) := by omega
      have hl2 : j < (strs zs).length := by rw [length_strs]; exact hlt
      obtain ⟨ad, rfl, _, _, hc⟩ := H1.out.at_ hl2
      rw [strs_get] at hc
      have hs1 := sumLen_take zs j hlt
      have hs2 := sumLen_take_le zs (j + 1)
      have g2 : 0 ≤ l - zs.length - sumLen (zs.take j) - (zs[j]'hlt).size := by omega
      have HS := hide hs1
      clear hs1 hs2
      go_wp2
      go_round
      case rel => exact ⟨j + 1, by omega, by go_num, by rw [HS.out]; congr 1; omega⟩
      case measure => simp [intOf]; omega
    · have e : j = zs.length := by omega
      have He := hide e
      have hge : zs.length ≤ j := by omega
      clear e
      have hsl := sumLen_take_le zs j
      go_wp2
      go_ret
      exact ⟨ret_int (by rw [He.out, List.take_length]), rfl⟩
set_option maxHeartbeats 400000 in
theorem l_szStringS_out (zs : List ByteArray) (A : Option Addr) (c L H : Nat) (l : Int) (w : World) (h : Rd w L H A (strs zs)) (hl : l < (zs.length : Int) + sumLen zs) (h0 : 0 ≤ l) (h2 : l ≤ 1048576) (hn : zs.length ≤ 9223372036854775807) (hs : ∀ s ∈ zs, s.size ≤ 9223372036854775807) :
    Calls Try.prog 87 #[.slice A zs.length c, .int .i64 l] w fun e w' => e = .returned (.int .i64 (-1)) ∧ w = w' := by
  have H1 := hide h
  have HS := hide hs
  clear h hs
  by_cases g1 : l - zs.length < 0
  · go_enter Try.func87, Try.ntmps87
    go_wp2
    go_ret
    exact ⟨rfl, rfl⟩
  · have g1' : 0 ≤ l - zs.length := by omega
    go_enter Try.func87, Try.ntmps87
    go_wp2
    go_loop [1, 5] (fun q i => ∃ j : Nat, j ≤ zs.length ∧ i = .int .i64 j ∧ q = .int .i64 (l - zs.length - sumLen (zs.take j)) ∧ 0 ≤ l - zs.length - sumLen (zs.take j)) (fun _ i => zs.length - (intOf i).toNat)
    case atStart => exact ⟨0, Nat.zero_le _, rfl, by simp [sumLen], by simp [sumLen]; omega⟩
    case round =>
      obtain ⟨j, hj, rfl, rfl, hnn⟩ := hrel
      by_cases hlt : j < zs.length
      · have hlt' : (j : Int) < (zs.length : Int) := by omega
        have hl2 : j < (strs zs).length := by rw [length_strs]; exact hlt
        obtain ⟨ad, rfl, _, _, hc⟩ := H1.out.at_ hl2
        rw [strs_get] at hc
        have hs1 := sumLen_take zs j hlt
        have hb := HS.out _ (List.getElem_mem hlt)
        have HQ := hide hs1
        clear hs1
        by_cases g2 : l - zs.length - sumLen (zs.take j) - (zs[j]'hlt).size < 0
        · go_wp2
          go_ret
          exact ⟨rfl, rfl⟩
        · have g2' : 0 ≤ l - zs.length - sumLen (zs.take j) - (zs[j]'hlt).size := by omega
          go_wp2
          go_round
          case rel => exact ⟨j + 1, by omega, by go_num, by rw [HQ.out]; congr 1; omega, by rw [HQ.out]; omega⟩
          case measure => simp [intOf]; omega
      · exfalso
        have e : j = zs.length := by omega
        rw [e, List.take_length] at hnn
        omega
end Go.Proofs.Yticpedlcfakaeaa

/-
  The walks of the laws' helpers on slices of uint32: equal, mark, held, copy.
-/
import Derived.Test.YticpedlcfakaeaaBase
import Derived.Test.YticpedlcfakaeaaRows
import Derived.WalkKit
import Derived.WalkLawsBesides
import Derived.WalkSpells
import Derived.LoopTactic
import Derived.Deep.QuietTactic
import Derived.BigQuiet
import Derived.IntWalk
namespace Go.Proofs.Yticpedlcfakaeaa
set_option linter.unusedVariables false
open Go.RowKit

/-- The marks k, k + 1, .. , n of them. -/
def marksU (k : Int) (n : Nat) : List Int := (List.range n).map fun i : Nat => k + (i : Int)
theorem length_marksU (k : Int) (n : Nat) : (marksU k n).length = n := by simp [marksU]
theorem marksU_get (k : Int) (n j : Nat) (h : j < n) : (marksU k n)[j]'(by rw [length_marksU]; exact h) = k + (j : Int) := by simp [marksU]
theorem marksU_set (k : Int) (n j : Nat) (zs : List Int) (hz : zs.length = n) (h : j < n) : (ints .u32 (marksU k j ++ zs.drop j)).set j (.int .u32 (k + (j : Int))) = ints .u32 (marksU k (j + 1) ++ zs.drop (j + 1)) := by
  have e1 : zs.drop j = zs[j]'(by omega) :: zs.drop (j + 1) := List.drop_eq_getElem_cons (by omega)
  rw [e1]
  unfold ints
  rw [List.map_append, List.map_cons, List.set_append_right _ _ (by simp [marksU])]
  simp only [List.length_map, length_marksU, Nat.sub_self, List.set_cons_zero]
  rw [List.map_append]
  simp [marksU, List.range_succ]

theorem toSetU (zs : List Int) (j : Nat) (h : j < zs.length) : (ints .u32 (zs.take j ++ List.replicate (zs.length - j) 0)).set j (.int .u32 (zs[j]'h)) = ints .u32 (zs.take (j + 1) ++ List.replicate (zs.length - (j + 1)) 0) := by
  have e1 : zs.length - j = (zs.length - (j + 1)) + 1 := by omega
  have e2 : (List.map (Value.int .u32) (zs.take j)).length = j := by rw [List.length_map, List.length_take]; omega
  rw [e1, List.replicate_succ, List.take_succ_eq_append_getElem h]
  unfold ints
  rw [List.map_append, List.map_cons, List.set_append_right _ _ (by omega), e2, Nat.sub_self, List.set_cons_zero, List.append_assoc, List.map_append]
  rfl
set_option maxHeartbeats 400000 in
theorem l_eqUint32S (zs : List Int) (A A' : Option Addr) (c c' L H L' H' : Nat) (w : World) (h : Rd w L H A (ints .u32 zs)) (h' : Rd w L' H' A' (ints .u32 zs)) (hn : zs.length ≤ 9223372036854775807) :
    Calls Try.prog 17 #[.slice A zs.length c, .slice A' zs.length c'] w fun e w' => e = .returned (.bool true) ∧ ∃ n, w.drewN n = w' := by
  have H1 := hide h
  have H2 := hide h'
  clear h h'
  go_enter Try.func17, Try.ntmps17
  go_wp2
  go_loopw [5] (fun i wr => ∃ j : Nat, j ≤ zs.length ∧ i = .int .i64 j ∧ ∃ n, w.drewN n = wr) (fun i _ => zs.length - (intOf i).toNat)
  case atStart => exact ⟨0, Nat.zero_le _, rfl, 0, rfl⟩
  case round =>
    obtain ⟨j, hj, rfl, n, rfl⟩ := hrel
    by_cases hlt : j < zs.length
    · have hlt' : (j : Int) < (zs.length : Int) := by omega
      have hl2 : j < (ints .u32 zs).length := by rw [length_ints]; exact hlt
      obtain ⟨ad, rfl, _, _, hc⟩ := H1.out.at_ hl2
      obtain ⟨ad', rfl, _, _, hc'⟩ := H2.out.at_ hl2
      rw [ints_get] at hc hc'
      go_wp2
      go_quiet (fail)
      go_wp2
      go_roundw
      case rel => exact ⟨j + 1, by omega, by go_num, _, rfl⟩
      case measure => simp [intOf]; omega
    · go_wp2
      go_ret
      exact ⟨rfl, _, rfl⟩
set_option maxHeartbeats 400000 in
theorem l_heldUint32S (k : Int) (n : Nat) (A : Option Addr) (c L H : Nat) (w : World) (h : Rd w L H A (ints .u32 (marksU k n))) (hk : 0 ≤ k) (hn : k + n ≤ 4294967295) :
    Calls Try.prog 33 #[.slice A n c, .int .i64 k] w fun e w' => e = .returned (.int .i64 (k + n)) ∧ ∃ n, w.drewN n = w' := by
  have H1 := hide h
  clear h
  go_enter Try.func33, Try.ntmps33
  go_wp2
  go_loopw [1, 5] (fun q i wr => ∃ j : Nat, j ≤ n ∧ i = .int .i64 j ∧ q = .int .i64 (k + j) ∧ ∃ n, w.drewN n = wr) (fun _ i _ => n - (intOf i).toNat)
  case atStart => exact ⟨0, Nat.zero_le _, rfl, by simp, 0, rfl⟩
  case round =>
    obtain ⟨j, hj, rfl, rfl, m, rfl⟩ := hrel
    by_cases hlt : j < n
    · have hlt' : (j : Int) < (n : Int) := by omega
      have hl2 : j < (ints .u32 (marksU k n)).length := by rw [length_ints, length_marksU]; exact hlt
      obtain ⟨ad, rfl, _, _, hc⟩ := H1.out.at_ hl2
      rw [ints_get, marksU_get k n j hlt] at hc
      go_wp2
      go_roundw
      case rel => exact ⟨j + 1, by omega, by go_num, by go_num, _, rfl⟩
      case measure => simp [intOf]; omega
    · have e : j = n := by omega
      have He := hide e
      have hge : n ≤ j := by omega
      clear e
      go_wp2
      go_ret
      exact ⟨ret_int (by rw [He.out]), _, rfl⟩
set_option maxHeartbeats 400000 in
theorem l_markUint32S (k : Int) (zs : List Int) (B C : Nat) (v : Value) (w : World) (h : Own w B C 51 v (ints .u32 zs)) (hk : 0 ≤ k) (hn : k + zs.length ≤ 4294967295) :
    Calls Try.prog 32 #[v, .int .i64 k] w fun e w' => e = .returned (.int .i64 (k + zs.length)) ∧ Chg B C w w' ∧ Own w' B C 51 v (ints .u32 (marksU k zs.length)) ∧ w'.heap.size = w.heap.size := by
  obtain ⟨A, cap, rfl, ho⟩ := h.shape
  rw [length_ints] at *
  have H1 := hide ho
  clear h ho
  go_enter Try.func32, Try.ntmps32
  go_wp2
  go_loopw [1, 5] (fun q i wr => ∃ j : Nat, j ≤ zs.length ∧ i = .int .i64 j ∧ q = .int .i64 (k + j) ∧ Chg B C w wr ∧ Own wr B C 51 (.slice A zs.length cap) (ints .u32 (marksU k j ++ zs.drop j)) ∧ Hid (wr.heap.size = w.heap.size)) (fun _ i _ => zs.length - (intOf i).toNat)
  case atStart => exact ⟨0, Nat.zero_le _, rfl, by simp, Chg.refl _ _ _, by simpa [marksU] using H1.out, rfl⟩
  case round =>
    obtain ⟨j, hj, rfl, rfl, hchg, hown, hsz⟩ := hrel
    have Hown := hide hown
    clear hown
    by_cases hlt : j < zs.length
    · have hlt' : (j : Int) < (zs.length : Int) := by omega
      have hlen : (ints .u32 (marksU k j ++ zs.drop j)).length = zs.length := by rw [length_ints, List.length_append, length_marksU, List.length_drop]; omega
      have hl2 : j < (ints .u32 (marksU k j ++ zs.drop j)).length := by rw [hlen]; exact hlt
      obtain ⟨g, rfl, hB, hC, hg, hc, hf⟩ := Hown.out.at2 hl2
      have Hnew := hide (Own.set_ (by rw [hlen]; exact Hown.out) hl2 (.int .u32 (k + (j : Int))))
      rw [ints_get] at hc
      have HL := hide hlen
      clear hlen
      go_wp2
      go_roundw
      case rel =>
        refine ⟨j + 1, by omega, by go_num, by go_num, hchg.setCell (.inl ⟨hB, hC⟩) _, ?_, ?_⟩
        · have hx := Hnew.out
          rw [marksU_set k zs.length j zs rfl hlt] at hx
          have hl3 : (ints .u32 (marksU k (j + 1) ++ zs.drop (j + 1))).length = zs.length := by rw [length_ints, List.length_append, length_marksU, List.length_drop]; omega
          rw [hl3] at hx
          exact hx
        · show Hid _
          have := hsz.out
          simpa [Hid, World.setCell] using this
      case measure => simp [intOf]; omega
    · have e : j = zs.length := by omega
      have He := hide e
      have hge : zs.length ≤ j := by omega
      clear e
      go_wp2
      go_ret
      refine ⟨ret_int (by rw [He.out]), hchg, ?_, hsz.out⟩
      have hx := Hown.out
      rw [He.out, List.drop_length, List.append_nil] at hx
      exact hx
theorem infoU : (Try.prog.info? 51).map (fun i => (i.zero, i.size, i.bytes)) = some (some (.int .u32 0), 1, 4) := by kernel_rfl
set_option maxHeartbeats 400000 in
theorem l_toUint32S (zs : List Int) (A : Option Addr) (c L H : Nat) (w : World) (h : Rd w L H A (ints .u32 zs)) (hn : zs.length ≤ 1048576) :
    Calls Try.prog 15 #[.slice A zs.length c] w fun e w' => ∃ A' c', e = .returned (.slice A' zs.length c') ∧ Below w.heap.size w w' ∧ Own w' w.heap.size w'.heap.size 51 (.slice A' zs.length c') (ints .u32 zs) := by
  obtain ⟨i0, hi, hz0, hz1, hz2⟩ := info_parts infoU
  have H1 := hide h
  clear h
  go_enter Try.func15, Try.ntmps15
  go_wp2_with (refine wpList_make_full _ rfl (.tmp 6) (.tmp 6) _ rfl w.heap.size 51 i0 (.int .u32 0) 1 Try.underlying22 hi hz0 hz1 .i64 .i64 _ _ zs.length rfl rfl rfl rfl (by rw [hz2]; omega) (by unfold maxLen; omega) (Nat.le_refl _) ?_; intro w1 hown1 hg1)
  have hb1 : Below w.heap.size w w1 := (Below.refl _ _).grown hg1 (Nat.le_refl _) (fun k hk => by cases hk)
  have ho1 : Own w1 w.heap.size (w.heap.size + 1) 51 (.slice (some ⟨w.heap.size, 0, none⟩) zs.length zs.length) (ints .u32 (zs.take 0 ++ List.replicate (zs.length - 0) 0)) := by
    refine ⟨?_, fun g hg => by simp [Value.ownBlock] at hg; omega⟩
    have e1 : (madeCells (Value.int .u32 0).cells (zs.length * 1)).toList = ints .u32 (zs.take 0 ++ List.replicate (zs.length - 0) 0) := by
      rw [Nat.mul_one, show (Value.int .u32 0).cells = #[Value.int .u32 0] from rfl, toList_madeCells_one]
      simp [ints]
    rw [← e1]
    have e2 : (madeCells (Value.int .u32 0).cells (zs.length * 1)).toList.length = zs.length := by rw [e1]; simp [ints]
    rw [e2]
    exact hown1
  clear hown1 hg1
  go_loopw [4] (fun i wr => ∃ j : Nat, j ≤ zs.length ∧ i = .int .i64 j ∧ Below w.heap.size w wr ∧ Own wr w.heap.size (w.heap.size + 1) 51 (.slice (some ⟨w.heap.size, 0, none⟩) zs.length zs.length) (ints .u32 (zs.take j ++ List.replicate (zs.length - j) 0))) (fun i _ => zs.length - (intOf i).toNat)
  case atStart => exact ⟨0, Nat.zero_le _, rfl, hb1, ho1⟩
  case round =>
    clear ho1 hb1
    obtain ⟨j, hj, rfl, hb, hown⟩ := hrel
    have Hown := hide hown
    clear hown
    by_cases hlt : j < zs.length
    · have hlt' : (j : Int) < (zs.length : Int) := by omega
      have hl0 : j < (ints .u32 zs).length := by rw [length_ints]; exact hlt
      obtain ⟨ad, rfl, _, hH, hc0⟩ := (H1.out.top.below hb).at_ hl0
      rw [ints_get] at hc0
      have hlen : (ints .u32 (zs.take j ++ List.replicate (zs.length - j) 0)).length = zs.length := by rw [length_ints, List.length_append, List.length_take, List.length_replicate]; omega
      have hl2 : j < (ints .u32 (zs.take j ++ List.replicate (zs.length - j) 0)).length := by rw [hlen]; exact hlt
      obtain ⟨hB, hC, hg, hc, hf⟩ := Hown.out.at3 hl2
      have Hnew := hide (Own.set_ (cap := zs.length) (by rw [hlen]; exact Hown.out) hl2 (.int .u32 (zs[j]'hlt)))
      have HL := hide hlen
      clear hlen
      go_wp2
      go_roundw
      case rel =>
        refine ⟨j + 1, by omega, by go_num, hb.setCell (Nat.le_refl _) _, ?_⟩
        have hx := Hnew.out
        rw [toSetU zs j hlt] at hx
        have hl3 : (ints .u32 (zs.take (j + 1) ++ List.replicate (zs.length - (j + 1)) 0)).length = zs.length := by rw [length_ints, List.length_append, List.length_take, List.length_replicate]; omega
        rw [hl3] at hx
        exact hx
      case measure => simp [intOf]; omega
    · have e : j = zs.length := by omega
      have He := hide e
      have hge : zs.length ≤ j := by omega
      clear e
      go_wp2
      go_ret
      refine ⟨_, _, rfl, hb, ?_⟩
      have hx := Hown.out.top
      rw [He.out, Nat.sub_self, List.replicate_zero, List.append_nil, List.take_length] at hx
      exact hx
end Go.Proofs.Yticpedlcfakaeaa

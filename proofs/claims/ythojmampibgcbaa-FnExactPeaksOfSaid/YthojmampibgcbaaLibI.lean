/-
  The walks of the laws' helpers on slices of int: equal, mark, held, copy.
-/
import Derived.Test.YthojmampibgcbaaBase
import Derived.Test.YthojmampibgcbaaRows
import Derived.WalkKit
import Derived.WalkLawsBesides
import Derived.WalkSpells
import Derived.LoopTactic
import Derived.Deep.QuietTactic
import Derived.BigQuiet
import Derived.IntWalk
namespace Go.Proofs.Ythojmampibgcbaa
open Go.RowKit

/-- The marks k, k + 1, .. , n of them. -/
def marksI (k : Int) (n : Nat) : List Int := (List.range n).map fun i : Nat => k + (i : Int)
theorem length_marksI (k : Int) (n : Nat) : (marksI k n).length = n := by simp [marksI]
theorem marksI_get (k : Int) (n j : Nat) (h : j < n) : (marksI k n)[j]'(by rw [length_marksI]; exact h) = k + (j : Int) := by simp [marksI]
theorem marksI_set (k : Int) (n j : Nat) (zs : List Int) (hz : zs.length = n) (h : j < n) : (ints .i64 (marksI k j ++ zs.drop j)).set j (.int .i64 (k + (j : Int))) = ints .i64 (marksI k (j + 1) ++ zs.drop (j + 1)) := by
  have e1 : zs.drop j = zs[j]'(by omega) :: zs.drop (j + 1) := List.drop_eq_getElem_cons (by omega)
  rw [e1]
  unfold ints
  rw [List.map_append, List.map_cons, List.set_append_right _ _ (by simp [marksI])]
  simp only [List.length_map, length_marksI, Nat.sub_self, List.set_cons_zero]
  rw [List.map_append]
  simp [marksI, List.range_succ]

set_option maxHeartbeats 400000 in
theorem l_eqIntS (zs : List Int) (A A' : Option Addr) (c c' L H L' H' : Nat) (w : World) (h : Rd w L H A (ints .i64 zs)) (h' : Rd w L' H' A' (ints .i64 zs)) (hn : zs.length ≤ 9223372036854775807) :
    Calls Try.prog 31 #[.slice A zs.length c, .slice A' zs.length c'] w fun e w' => e = .returned (.bool true) ∧ ∃ n, w.drewN n = w' := by
  have H1 := hide h
  have H2 := hide h'
  clear h h'
  go_enter Try.func31, Try.ntmps31
  go_wp2
  go_loopw [5] (fun i wr => ∃ j : Nat, j ≤ zs.length ∧ i = .int .i64 j ∧ ∃ n, w.drewN n = wr) (fun i _ => zs.length - (intOf i).toNat)
  case atStart => exact ⟨0, Nat.zero_le _, rfl, 0, rfl⟩
  case round =>
    obtain ⟨j, hj, rfl, n, rfl⟩ := hrel
    by_cases hlt : j < zs.length
    · have hlt' : (j : Int) < (zs.length : Int) := by omega
      have hl2 : j < (ints .i64 zs).length := by rw [length_ints]; exact hlt
      obtain ⟨ad, rfl, _, _, hc⟩ := H1.out.at_ hl2
      obtain ⟨ad', rfl, _, _, hc'⟩ := H2.out.at_ hl2
      rw [ints_get] at hc hc'
      go_wp2
      go_quiet (fail)
      go_wp2
      go_roundw
      case rel => exact ⟨j + 1, by omega, by go_num, _, rfl⟩
      case measure => simp [intOf]; omega
    · go_wp2
      go_ret
      exact ⟨rfl, _, rfl⟩
set_option maxHeartbeats 400000 in
theorem l_heldIntS (k : Int) (n : Nat) (A : Option Addr) (c L H : Nat) (w : World) (h : Rd w L H A (ints .i64 (marksI k n))) (hk : 0 ≤ k) (hn : k + n ≤ 9223372036854775807) :
    Calls Try.prog 33 #[.slice A n c, .int .i64 k] w fun e w' => e = .returned (.int .i64 (k + n)) ∧ ∃ n, w.drewN n = w' := by
  have H1 := hide h
  clear h
  go_enter Try.func33, Try.ntmps33
  go_wp2
  go_loopw [1, 5] (fun q i wr => ∃ j : Nat, j ≤ n ∧ i = .int .i64 j ∧ q = .int .i64 (k + j) ∧ ∃ n, w.drewN n = wr) (fun _ i _ => n - (intOf i).toNat)
  case atStart => exact ⟨0, Nat.zero_le _, rfl, by simp, 0, rfl⟩
  case round =>
    obtain ⟨j, hj, rfl, rfl, m, rfl⟩ := hrel
    by_cases hlt : j < n
    · have hlt' : (j : Int) < (n : Int) := by omega
      have hl2 : j < (ints .i64 (marksI k n)).length := by rw [length_ints, length_marksI]; exact hlt
      obtain ⟨ad, rfl, _, _, hc⟩ := H1.out.at_ hl2
      rw [ints_get, marksI_get k n j hlt] at hc
      go_wp2
      go_roundw
      case rel => exact ⟨j + 1, by omega, by go_num, by go_num, _, rfl⟩
      case measure => simp [intOf]; omega
    · have e : j = n := by omega
      have He := hide e
      have hge : n ≤ j := by omega
      clear e
      go_wp2
      go_ret
      exact ⟨ret_int (by rw [He.out]), _, rfl⟩
set_option maxHeartbeats 400000 in
theorem l_markIntS (k : Int) (zs : List Int) (B C : Nat) (v : Value) (w : World) (h : Own w B C 3 v (ints .i64 zs)) (hk : 0 ≤ k) (hn : k + zs.length ≤ 9223372036854775807) :
    Calls Try.prog 32 #[v, .int .i64 k] w fun e w' => e = .returned (.int .i64 (k + zs.length)) ∧ Chg B C w w' ∧ Own w' B C 3 v (ints .i64 (marksI k zs.length)) ∧ w'.heap.size = w.heap.size := by
  obtain ⟨A, cap, rfl, ho⟩ := h.shape
  rw [length_ints] at *
  have H1 := hide ho
  clear h ho
  go_enter Try.func32, Try.ntmps32
  go_wp2
  go_loopw [1, 5] (fun q i wr => ∃ j : Nat, j ≤ zs.length ∧ i = .int .i64 j ∧ q = .int .i64 (k + j) ∧ Chg B C w wr ∧ Own wr B C 3 (.slice A zs.length cap) (ints .i64 (marksI k j ++ zs.drop j)) ∧ Hid (wr.heap.size = w.heap.size)) (fun _ i _ => zs.length - (intOf i).toNat)
  case atStart => exact ⟨0, Nat.zero_le _, rfl, by simp, Chg.refl _ _ _, by simpa [marksI] using H1.out, rfl⟩
  case round =>
    obtain ⟨j, hj, rfl, rfl, hchg, hown, hsz⟩ := hrel
    have Hown := hide hown
    clear hown
    by_cases hlt : j < zs.length
    · have hlt' : (j : Int) < (zs.length : Int) := by omega
      have hlen : (ints .i64 (marksI k j ++ zs.drop j)).length = zs.length := by rw [length_ints, List.length_append, length_marksI, List.length_drop]; omega
      have hl2 : j < (ints .i64 (marksI k j ++ zs.drop j)).length := by rw [hlen]; exact hlt
      obtain ⟨g, rfl, hB, hC, hg, hc, hf⟩ := Hown.out.at2 hl2
      have Hnew := hide (Own.set_ (by rw [hlen]; exact Hown.out) hl2 (.int .i64 (k + (j : Int))))
      rw [ints_get] at hc
      have HL := hide hlen
      clear hlen
      go_wp2
      go_roundw
      case rel =>
        refine ⟨j + 1, by omega, by go_num, by go_num, hchg.setCell (.inl ⟨hB, hC⟩) _, ?_, ?_⟩
        · have hx := Hnew.out
          rw [marksI_set k zs.length j zs rfl hlt] at hx
          have hl3 : (ints .i64 (marksI k (j + 1) ++ zs.drop (j + 1))).length = zs.length := by rw [length_ints, List.length_append, length_marksI, List.length_drop]; omega
          rw [hl3] at hx
          exact hx
        · show Hid _
          have := hsz.out
          simpa [Hid, World.setCell] using this
      case measure => simp [intOf]; omega
    · have e : j = zs.length := by omega
      have He := hide e
      have hge : zs.length ≤ j := by omega
      clear e
      go_wp2
      go_ret
      refine ⟨ret_int (by rw [He.out]), hchg, ?_, hsz.out⟩
      have hx := Hown.out
      rw [He.out, List.drop_length, List.append_nil] at hx
      exact hx
end Go.Proofs.Ythojmampibgcbaa

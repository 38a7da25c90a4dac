/-
  The walks of the checks on lists of hashes: areHashes, LeavesOk.
-/
import Derived.Test.YtcebpfhokacccaaLibS
import Derived.Test.YtcebpfhokacccaaFeed
namespace Go.Proofs.Ytcebpfhokacccaa
set_option linter.unusedVariables false
open Go.RowKit

/-- Are all texts of this length? -/
def hashesOk (width : Int) (zs : List ByteArray) : Bool := zs.all fun s => ((s.size : Int) == width)
theorem hashesOk_false {width : Int} {zs : List ByteArray} {j : Nat} (hj : j < zs.length) (h : (((zs[j]'hj).size : Int) == width) = false) : hashesOk width zs = false := by
  unfold hashesOk
  rw [List.all_eq_false]
  exact ⟨zs[j], List.getElem_mem hj, ne_true_of_eq_false h⟩
theorem hashesOk_take {width : Int} {zs : List ByteArray} {j : Nat} (hj : j < zs.length) (h : hashesOk width (zs.take j) = true) (hb : (((zs[j]'hj).size : Int) == width) = true) : hashesOk width (zs.take (j + 1)) = true := by
  unfold hashesOk at *
  rw [List.take_succ_eq_append_getElem hj, List.all_append, h, Bool.true_and, List.all_cons, List.all_nil, Bool.and_true]
  exact hb
theorem hashesOk_mem {width : Int} {zs : List ByteArray} (h : hashesOk width zs = true) : ∀ s ∈ zs, (s.size : Int) = width := by
  intro s hs
  unfold hashesOk at h
  rw [List.all_eq_true] at h
  simpa using h s hs
theorem hashesOk_of {width : Int} {zs : List ByteArray} (h : ∀ s ∈ zs, (s.size : Int) = width) : hashesOk width zs = true := by
  unfold hashesOk
  rw [List.all_eq_true]
  intro s hs
  simpa using h s hs
/-- LeavesOk. -/
def leavesOk (width : Int) (zs : List ByteArray) : Bool := inR width 1 32 && decide ((zs.length : Int) ≤ 512) && hashesOk width zs

set_option maxHeartbeats 400000 in
theorem i_areHashes (width : Int) (zs : List ByteArray) (A : Option Addr) (c L H : Nat) (w : World) (h : Rd w L H A (strs zs)) (hn : zs.length ≤ 9223372036854775807) :
    Calls Try.prog 25 #[.int .i64 width, .slice A zs.length c] w fun e w' => e = .returned (.bool (hashesOk width zs)) ∧ w = w' := by
  have H1 := hide h
  clear h
  go_enter Try.func25, Try.ntmps25
  go_wp2
  go_loop [9] (fun i => ∃ j : Nat, j ≤ zs.length ∧ i = .int .i64 j ∧ Hid (hashesOk width (zs.take j) = true)) (fun i => zs.length - (intOf i).toNat)
  case atStart => exact ⟨0, Nat.zero_le _, rfl, rfl⟩
  case round =>
    obtain ⟨j, hj, rfl, hk⟩ := hrel
    by_cases hlt : j < zs.length
    · have hlt' : (j : Int) < (zs.length : Int) := by omega
      have hl2 : j < (strs zs).length := by rw [length_strs]; exact hlt
      obtain ⟨ad, rfl, _, _, hc⟩ := H1.out.at_ hl2
      rw [strs_get] at hc
      rcases hb : (((zs[j]'hlt).size : Int) == width)
      · have F1 := hide (hashesOk_false hlt hb)
        have hb' : (((zs[j]'hlt).size : Int) != width) = true := by rw [bne, hb]; rfl
        go_wp2
        go_ret
        exact ⟨ret_bool F1.out.symm, rfl⟩
      · have F2 := hide (hashesOk_take hlt hk.out hb)
        have hb' : (((zs[j]'hlt).size : Int) != width) = false := by rw [bne, hb]; rfl
        go_wp2
        go_round
        case rel => exact ⟨j + 1, by omega, by go_num, F2⟩
        case measure => simp [intOf]; omega
    · have e : j = zs.length := by omega
      have He := hide e
      have hge : zs.length ≤ j := by omega
      clear e
      go_wp2
      go_ret
      exact ⟨ret_bool (by have := hk.out; rw [He.out, List.take_length] at this; exact this.symm), rfl⟩
set_option maxHeartbeats 400000 in
theorem s_l04Hashes (width : Int) (zs : List ByteArray) (A : Option Addr) (c L H : Nat) (w : World) (h : Rd w L H A (strs zs)) (hn : zs.length ≤ 9223372036854775807) :
    Calls Try.prog 22 #[.int .i64 width, .slice A zs.length c] w fun e w' => e = .returned (.bool (hashesOk width zs && inR width 1 32)) ∧ w = w' := by
  have H1 := hide h
  clear h
  go_enter Try.func22, Try.ntmps22
  go_wp2
  go_loop [5] (fun i => ∃ j : Nat, j ≤ zs.length ∧ i = .int .i64 j ∧ Hid (hashesOk width (zs.take j) = true)) (fun i => zs.length - (intOf i).toNat)
  case atStart => exact ⟨0, Nat.zero_le _, rfl, rfl⟩
  case round =>
    obtain ⟨j, hj, rfl, hk⟩ := hrel
    by_cases hlt : j < zs.length
    · have hlt' : (j : Int) < (zs.length : Int) := by omega
      have hl2 : j < (strs zs).length := by rw [length_strs]; exact hlt
      obtain ⟨ad, rfl, _, _, hc⟩ := H1.out.at_ hl2
      rw [strs_get] at hc
      rcases hb : (((zs[j]'hlt).size : Int) == width)
      · have F1 := hide (hashesOk_false hlt hb)
        have hb' : (((zs[j]'hlt).size : Int) != width) = true := by rw [bne, hb]; rfl
        go_wp2
        go_ret
        exact ⟨ret_bool (by rw [F1.out]; rfl), rfl⟩
      · have F2 := hide (hashesOk_take hlt hk.out hb)
        have hb' : (((zs[j]'hlt).size : Int) != width) = false := by rw [bne, hb]; rfl
        go_wp2
        go_round
        case rel => exact ⟨j + 1, by omega, by go_num, F2⟩
        case measure => simp [intOf]; omega
    · have e : j = zs.length := by omega
      have He := hide e
      have hge : zs.length ≤ j := by omega
      clear e
      go_wp2_with (go_at_call 43; refine (s_l02Width _ _).mono ?_; rintro e w1 ⟨rfl, rfl⟩)
      go_ret
      exact ⟨ret_bool (by have := hk.out; rw [He.out, List.take_length] at this; rw [this]; rfl), rfl⟩
theorem i_LeavesOk (width : Int) (zs : List ByteArray) (A : Option Addr) (c L H : Nat) (w : World) (h : Rd w L H A (strs zs)) (hn : zs.length ≤ 9223372036854775807) :
    Calls Try.prog 34 #[.int .i64 width, .slice A zs.length c] w fun e w' => e = .returned (.bool (leavesOk width zs)) ∧ w = w' := by
  have H1 := hide h
  clear h
  cases h1 : inR width 1 32
  · go_enter Try.func34, Try.ntmps34
    go_wp2_with (go_at_call 30; refine (i_isWidth _ _).mono ?_; rintro e w1 ⟨rfl, rfl⟩)
    go_ret
    exact ⟨ret_bool (by simp [leavesOk, h1]), rfl⟩
  · by_cases h2 : (zs.length : Int) ≤ 512
    · go_enter Try.func34, Try.ntmps34
      go_wp2_with (first | (go_at_call 30; refine (i_isWidth _ _).mono ?_; rintro e w1 ⟨rfl, rfl⟩) | (go_at_call 25; refine (i_areHashes _ _ _ _ _ _ _ H1.out hn).mono ?_; rintro e w1 ⟨rfl, rfl⟩))
      go_ret
      exact ⟨ret_bool (by simp [leavesOk, h1]; omega), rfl⟩
    · have d2 : decide ((zs.length : Int) ≤ 512) = false := by simp; omega
      go_enter Try.func34, Try.ntmps34
      go_wp2_with (go_at_call 30; refine (i_isWidth _ _).mono ?_; rintro e w1 ⟨rfl, rfl⟩)
      go_ret
      exact ⟨ret_bool (by simp [leavesOk, h1]; omega), rfl⟩
theorem s_LeavesOk (width : Int) (zs : List ByteArray) (A : Option Addr) (c L H : Nat) (w : World) (h : Rd w L H A (strs zs)) (hn : zs.length ≤ 9223372036854775807) :
    Calls Try.prog 7 #[.int .i64 width, .slice A zs.length c] w fun e w' => e = .returned (.bool (leavesOk width zs)) ∧ w = w' := by
  have H1 := hide h
  clear h
  by_cases h2 : (zs.length : Int) ≤ 512
  · have he := hide (show (hashesOk width zs && inR width 1 32) = leavesOk width zs by simp [leavesOk, h2, Bool.and_comm])
    go_enter Try.func7, Try.ntmps7
    go_wp2_with (go_at_call 22; refine (s_l04Hashes _ _ _ _ _ _ _ H1.out hn).mono ?_; rintro e w1 ⟨rfl, rfl⟩)
    go_ret
    exact ⟨ret_bool he.out, rfl⟩
  · have d2 : decide ((zs.length : Int) ≤ 512) = false := by simp; omega
    have he := hide (show leavesOk width zs = false by simp [leavesOk, d2])
    go_enter Try.func7, Try.ntmps7
    go_wp2
    go_ret
    exact ⟨ret_bool he.out.symm, rfl⟩
end Go.Proofs.Ytcebpfhokacccaa

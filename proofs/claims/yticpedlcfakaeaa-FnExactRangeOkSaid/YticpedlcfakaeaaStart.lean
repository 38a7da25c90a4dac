/-
  The walks of StartOf and firstState, and of slices.Clone at []uint32.
-/
import Derived.Test.YticpedlcfakaeaaApp
import Derived.Test.YticpedlcfakaeaaFeed
import Derived.Outline
import Derived.Handy
namespace Go.Proofs.Yticpedlcfakaeaa
set_option linter.unusedVariables false
open Go.RowKit

/-- The eight words of the first state of a tag. -/
def start8 (t : Int) : List Int := [(t + 1) * 3 * 2246822519 % 4294967296, (t + 1) * 5 * 2246822519 % 4294967296, (t + 1) * 7 * 2246822519 % 4294967296, (t + 1) * 9 * 2246822519 % 4294967296,
  (t + 1) * 11 * 2246822519 % 4294967296, (t + 1) * 13 * 2246822519 % 4294967296, (t + 1) * 15 * 2246822519 % 4294967296, (t + 1) * 17 * 2246822519 % 4294967296]
def startI (t : Int) : List Int := if 0 ≤ t ∧ t ≤ 255 then start8 t else []
theorem startI_len (t : Int) : (startI t).length ≤ 8 := by unfold startI; split <;> simp [start8]
/-- A list of words as an array's value. -/
def chainV (zs : List Int) : Value := .agg (ints .u32 zs).toArray
theorem start8_bd (t : Int) : ∀ x ∈ start8 t, 0 ≤ x ∧ x ≤ 4294967295 := by
  intro x hx
  simp only [start8, List.mem_cons, List.not_mem_nil, or_false] at hx
  omega

set_option maxHeartbeats 2000000 in
theorem i_firstState (t : Int) (h0 : 0 ≤ t) (h1 : t ≤ 255) (w : World) :
    Calls Try.prog 108 #[.int .i64 t] w fun e w' => e = .returned (chainV (start8 t)) ∧ ∃ o1 o2, (w.alloc o1).alloc o2 = w' := by
  go_enter Try.func108, Try.ntmps108
  go_wp2
  go_rounds 9
  exact bodyPost_ret (v := chainV (start8 t)) (by simp [results, Try.results108, go_sem, chainV, start8, ints]) rfl ⟨rfl, _, _, rfl⟩
theorem infoU32c : (Try.prog.info? 51).map (fun i => (i.zero, i.size, i.bytes)) = some (some (.int .u32 0), 1, 4) := by kernel_rfl
theorem c_Clone (zs : List Int) (ad : Addr) (c L H : Nat) (w : World) (h : Rd w L H (some ad) (ints .u32 zs)) (h0 : 0 < zs.length) (hn : zs.length ≤ 1048576) :
    Calls Try.prog 74 #[.slice (some ad) zs.length c] w fun e w' => ∃ v, e = .returned v ∧ Below w.heap.size w w' ∧ Own w' w.heap.size w'.heap.size 51 v (ints .u32 zs) := by
  have H1 := hide h
  clear h
  have hk := fun (W : World) => Lib.run_eql_slice_nil (P := Try.prog) W
  go_enter Try.func74, Try.ntmps74
  go_wp2_with (at_builtin; refine wpList_app rfl _ _ _ rfl 51 (.int .u32 0) 4 Try.underlying22 infoU32c rfl w.heap.size _ _ rfl (Own.made #[] _ _ (Nat.le_refl _) (by simp [maxLen])).top ad zs.length c (ints .u32 zs) rfl (length_ints _ _) (H1.out.alloc _).cells (ints_one .u32 zs) (by simp; omega) (by omega) (by simp) ?_; intro v' w1 hown1 hb1 _)
  go_ret
  exact ⟨_, rfl, ((Below.refl _ _).alloc (Nat.le_refl _) _).trans hb1, by simpa using hown1⟩
theorem startI_in {t : Int} (h0 : 0 ≤ t) (h1 : t ≤ 255) : startI t = start8 t := by unfold startI; rw [if_pos ⟨h0, h1⟩]
set_option maxHeartbeats 1000000 in
theorem i_StartOf_in (t : Int) (h0 : 0 ≤ t) (h1 : t ≤ 255) (w : World) :
    Calls Try.prog 85 #[.int .i64 t] w fun e w' => ∃ v, e = .returned (.tuple #[v, .bool true]) ∧ Below w.heap.size w w' ∧ Own w' w.heap.size w'.heap.size 51 v (ints .u32 (start8 t)) := by
  have hin := inR_true h0 h1
  go_enter Try.func85, Try.ntmps85
  go_wp2_with (first
    | (go_at_call 107; refine (i_isTag _ _).mono ?_; rintro e w1 ⟨rfl, rfl⟩)
    | (go_at_call 108; refine (i_firstState t h0 h1 _).mono ?_; rintro e w1 ⟨rfl, o1, o2, rfl⟩; unfold chainV start8 ints; simp only [List.map_cons, List.map_nil, List.toArray])
    | (go_at_call 74; refine (c_Clone (start8 t) ⟨w.heap.size + 1 + 1, 0, none⟩ 8 _ _ _ (Rd.made _ _ _ (by simp)) (by simp [start8]) (by simp [start8])).mono ?_; rintro e w3 ⟨v, rfl, hb3, ho3⟩; have B3 := hide (bel_new ((((Below.refl _ w).alloc (Nat.le_refl _) o1).alloc (by simp) o2).alloc (by simp; omega) _) hb3 (by simp; omega)); have O3 := hide ho3; clear hb3 ho3))
  go_ret2
  exact ⟨_, rfl, B3.out, O3.out.wide (by simp; omega) (Nat.le_refl _)⟩
theorem i_StartOf (t : Int) (w : World) :
    Calls Try.prog 85 #[.int .i64 t] w fun e w' => ∃ A c, e = .returned (.tuple #[.slice A (startI t).length c, .bool (inR t 0 255)]) ∧ Below w.heap.size w w' ∧ Own w' w.heap.size w'.heap.size 51 (.slice A (startI t).length c) (ints .u32 (startI t)) := by
  by_cases hl : 0 ≤ t ∧ t ≤ 255
  · rw [startI_in hl.1 hl.2, inR_true hl.1 hl.2]
    refine (i_StartOf_in t hl.1 hl.2 w).mono ?_
    rintro e w' ⟨v, rfl, hb, ho⟩
    obtain ⟨A, c, rfl, ho'⟩ := ho.shape
    rw [length_ints] at ho' ⊢
    exact ⟨A, c, rfl, hb, ho'⟩
  · have hin : inR t 0 255 = false := by unfold inR; simp; omega
    have he : startI t = [] := by unfold startI; rw [if_neg hl]
    rw [he, hin]
    go_enter Try.func85, Try.ntmps85
    go_wp2_with (go_at_call 107; refine (i_isTag _ _).mono ?_; rintro e w1 ⟨rfl, rfl⟩)
    go_ret2
    exact ⟨none, 0, rfl, Below.refl _ _, Own.nil _ _ _ _⟩
theorem infoU32s : (Try.prog.info? 51).map (fun i => (i.zero, i.size, i.bytes)) = some (some (.int .u32 0), 1, 4) := by kernel_rfl
theorem start_word (t : Int) (j : Nat) (hj : j < 8) (h : j < (start8 t).length) : (start8 t)[j] = (t + 1) * (2 * (j : Int) + 3) * 2246822519 % 4294967296 := by
  have : j = 0 ∨ j = 1 ∨ j = 2 ∨ j = 3 ∨ j = 4 ∨ j = 5 ∨ j = 6 ∨ j = 7 := by omega
  rcases this with rfl | rfl | rfl | rfl | rfl | rfl | rfl | rfl <;> rfl
theorem start_take (t : Int) (j : Nat) (h0 : 0 ≤ t) (h1 : t ≤ 255) (hj : j < 8) : ints .u32 ((start8 t).take j) ++ [.int .u32 ((t + 1) * (2 * (j : Int) + 3) % 4294967296 * 2246822519 % 4294967296)] = ints .u32 ((start8 t).take (j + 1)) := by
  have hl : j < (start8 t).length := by simp [start8]; omega
  have e : (t + 1) * (2 * (j : Int) + 3) % 4294967296 * 2246822519 % 4294967296 = (t + 1) * (2 * (j : Int) + 3) * 2246822519 % 4294967296 := by
    have : j = 0 ∨ j = 1 ∨ j = 2 ∨ j = 3 ∨ j = 4 ∨ j = 5 ∨ j = 6 ∨ j = 7 := by omega
    rcases this with rfl | rfl | rfl | rfl | rfl | rfl | rfl | rfl <;> omega
  rw [e, List.take_succ_eq_append_getElem hl, start_word t j hj hl]
  simp [ints]
set_option maxHeartbeats 1000000 in
theorem s_StartOf_in (t : Int) (h0 : 0 ≤ t) (h1 : t ≤ 255) (w : World) :
    Calls Try.prog 83 #[.int .i64 t] w fun e w' => ∃ v, e = .returned (.tuple #[v, .bool true]) ∧ Below w.heap.size w w' ∧ Own w' w.heap.size w'.heap.size 51 v (ints .u32 (start8 t)) := by
  have hin := inR_true h0 h1
  go_enter Try.func83, Try.ntmps83
  go_wp2_with (go_at_call 66; refine (s_l01In _ _ _ _).mono ?_; rintro e w1 ⟨rfl, rfl⟩)
  go_loopw [4, 5] (fun v i wr => ∃ j : Nat, j ≤ 8 ∧ i = .int .i64 (j : Int) ∧ Below w.heap.size w wr ∧ Own wr w.heap.size wr.heap.size 51 v (ints .u32 ((start8 t).take j))) (fun _ i _ => 8 - (intOf i).toNat)
  case atStart => exact ⟨0, Nat.zero_le _, rfl, (Below.refl _ _).alloc (Nat.le_refl _) _, (Own.made #[] _ _ (Nat.le_refl _) (by simp [maxLen])).top⟩
  case round =>
    obtain ⟨j, hj, rfl, hb, ho⟩ := hrel
    have HB := hide hb
    have HO := hide ho
    clear hb ho
    by_cases hlt : j < 8
    · have hst := hide (start_take t j h0 h1 hlt)
      have HL := hide (show ((start8 t).take j).length ≤ 8 by simp [start8]; omega)
      go_wp2_with (at_builtin; refine wpList_app rfl _ _ _ rfl 51 (.int .u32 0) 4 Try.underlying22 infoU32s rfl w.heap.size _ _ rfl ((HO.out.alloc _).top) ⟨wr.heap.size, 0, none⟩ 1 1 [.int .u32 ((t + 1) * (2 * (j : Int) + 3) % 4294967296 * 2246822519 % 4294967296)] rfl rfl (new_cells #[.int .u32 ((t + 1) * (2 * (j : Int) + 3) % 4294967296 * 2246822519 % 4294967296)] _) (ints_one .u32 [(t + 1) * (2 * (j : Int) + 3) % 4294967296 * 2246822519 % 4294967296]) (by rw [length_ints]; have := HL.out; omega) (by omega) (by have := HB.out.size; simp; omega) ?_; intro v' w2 hown2 hb2 _; have O2 := hide hown2; have B2 := hide ((HB.out.alloc HB.out.size _).trans hb2); clear hown2 hb2)
      go_roundw
      case rel => exact ⟨j + 1, by omega, by congr 1, B2.out, by have := O2.out; rw [hst.out] at this; exact this⟩
      case measure => simp [intOf]; omega
    · have e : j = 8 := by omega
      have He := hide e
      clear e
      go_wp2
      go_ret2
      exact ⟨_, rfl, HB.out, by have := HO.out; rw [He.out] at this; exact this⟩
theorem s_StartOf (t : Int) (w : World) :
    Calls Try.prog 83 #[.int .i64 t] w fun e w' => ∃ A c, e = .returned (.tuple #[.slice A (startI t).length c, .bool (inR t 0 255)]) ∧ Below w.heap.size w w' ∧ Own w' w.heap.size w'.heap.size 51 (.slice A (startI t).length c) (ints .u32 (startI t)) := by
  by_cases hl : 0 ≤ t ∧ t ≤ 255
  · have he : startI t = start8 t := by unfold startI; rw [if_pos hl]
    rw [he, inR_true hl.1 hl.2]
    refine (s_StartOf_in t hl.1 hl.2 w).mono ?_
    rintro e w' ⟨v, rfl, hb, ho⟩
    obtain ⟨A, c, rfl, ho'⟩ := ho.shape
    rw [length_ints] at ho' ⊢
    exact ⟨A, c, rfl, hb, ho'⟩
  · have hin : inR t 0 255 = false := by unfold inR; simp; omega
    have he : startI t = [] := by unfold startI; rw [if_neg hl]
    rw [he, hin]
    go_enter Try.func83, Try.ntmps83
    go_wp2_with (go_at_call 66; refine (s_l01In _ _ _ _).mono ?_; rintro e w1 ⟨rfl, rfl⟩)
    go_ret2
    exact ⟨_, _, rfl, (Below.refl _ _).alloc (Nat.le_refl _) _, (Own.made #[] _ _ (Nat.le_refl _) (by simp [maxLen])).top⟩
end Go.Proofs.Yticpedlcfakaeaa

/-
  The walks of PeaksOf, the program's and the reference's.
-/
import Derived.Test.YtcebpfhokacccaaApp
import Derived.Test.YtcebpfhokacccaaNumPlain
import Derived.Test.YtcebpfhokacccaaSmall
import Derived.Laws.BitsAllLaws
import Derived.LoopTactic
import Derived.Outline
import Derived.IntWalk
namespace Go.Proofs.Ytcebpfhokacccaa
set_option linter.unusedVariables false
open Go.RowKit

def peakSize (j : Nat) : Nat := 512 / 2 ^ j
theorem peakSize_succ (j : Nat) : peakSize j / 2 = peakSize (j + 1) := by unfold peakSize; rw [Nat.div_div_eq_div_mul, Nat.pow_succ]
theorem peakSize_cases (j : Nat) (h : j ≤ 10) : (j ≤ 9 ∧ 0 < peakSize j ∧ peakSize j ≤ 512 ∧ peakSize j = 2 ^ (9 - j)) ∨ (j = 10 ∧ peakSize j = 0) := by
  have : j = 0 ∨ j = 1 ∨ j = 2 ∨ j = 3 ∨ j = 4 ∨ j = 5 ∨ j = 6 ∨ j = 7 ∨ j = 8 ∨ j = 9 ∨ j = 10 := by omega
  rcases this with rfl | rfl | rfl | rfl | rfl | rfl | rfl | rfl | rfl | rfl | rfl <;> decide
def peaksToI (n j : Nat) : List Int := (peaksTo n j).map fun x : Nat => (x : Int)
theorem peaksToI_yes {n j : Nat} (h : n / 2 ^ (9 - j) % 2 = 1) (hs : peakSize j = 2 ^ (9 - j)) : ints .i64 (peaksToI n j) ++ [.int .i64 (peakSize j : Int)] = ints .i64 (peaksToI n (j + 1)) := by
  simp [peaksToI, peaksTo, h, ints, hs]
theorem peaksToI_no {n j : Nat} (h : ¬ n / 2 ^ (9 - j) % 2 = 1) : ints .i64 (peaksToI n j) = ints .i64 (peaksToI n (j + 1)) := by
  simp [peaksToI, peaksTo, h, ints]
theorem length_peaksToI (n j : Nat) (h : j ≤ 10) : (ints .i64 (peaksToI n j)).length ≤ 10 := by
  rw [length_ints, peaksToI, List.length_map]
  have := peaksTo_len n j
  omega
theorem peaksI_of (n : Nat) (h : n ≤ 512) : peaksI (n : Int) = peaksToI n 10 := by
  unfold peaksI peaksToI
  rw [if_pos (by omega), peaksTo_ten, Int.toNat_natCast]

theorem infoI64 : (Try.prog.info? 3).map (fun i => (i.zero, i.size, i.bytes)) = some (some (.int .i64 0), 1, 8) := by kernel_rfl
theorem peak_bits (n s j : Nat) (hn : n ≤ 512) (hs : s = 2 ^ (9 - j)) (hs2 : s ≤ 512) : bits .and .i64 (n : Int) (s : Int) = ((n / s % 2 * s : Nat) : Int) := by
  have h1 : (BitVec.ofInt 64 (n : Int)).toNat = n := by rw [BitVec.ofInt_natCast, BitVec.toNat_ofNat]; exact Nat.mod_eq_of_lt (by omega)
  have h2 : (BitVec.ofInt 64 (s : Int)).toNat = s := by rw [BitVec.ofInt_natCast, BitVec.toNat_ofNat]; exact Nat.mod_eq_of_lt (by omega)
  show IntKind.i64.wrap ((BitVec.ofInt 64 (n : Int) &&& BitVec.ofInt 64 (s : Int)).toNat : Int) = _
  rw [BitVec.toNat_and, h1, h2, hs, nat_bit, IntKind.wrap_i64, ← hs]
  have : n / s % 2 * s ≤ 512 := by
    rcases Nat.mod_two_eq_zero_or_one (n / s) with h | h <;> rw [h] <;> omega
  omega
set_option maxHeartbeats 1000000 in
theorem i_PeaksOf_in (n : Nat) (hn : n ≤ 512) (w : World) :
    Calls Try.prog 32 #[.int .i64 (n : Int)] w fun e w' => ∃ v, e = .returned v ∧ Below w.heap.size w w' ∧ Own w' w.heap.size w'.heap.size 3 v (ints .i64 (peaksToI n 10)) := by
  have hin := inR_true (x := (n : Int)) (a := 0) (b := 512) (by omega) (by omega)
  go_enter Try.func32, Try.ntmps32
  go_wp2_with (go_at_call 31; refine (i_isSize _ _).mono ?_; rintro e w1 ⟨rfl, rfl⟩)
  go_loopw [3, 4] (fun v q wr => ∃ j : Nat, j ≤ 10 ∧ q = .int .i64 (peakSize j) ∧ Below w.heap.size w wr ∧ Own wr w.heap.size wr.heap.size 3 v (ints .i64 (peaksToI n j))) (fun _ q _ => (intOf q).toNat)
  case atStart => exact ⟨0, by omega, rfl, Below.refl _ _, Own.nil _ _ _ _⟩
  case round =>
    obtain ⟨j, hj, rfl, hb, ho⟩ := hrel
    have HB := hide hb
    have HO := hide ho
    clear hb ho
    rcases peakSize_cases j hj with ⟨h9, hp, hp2, he⟩ | ⟨h10, h0⟩
    · have hbit := peak_bits n (peakSize j) j hn he hp2
      have hdiv : ((peakSize j : Int) / 2) = ((peakSize (j + 1) : Nat) : Int) := by rw [← peakSize_succ]; simp
      have hlt : peakSize (j + 1) < peakSize j := by rw [← peakSize_succ]; omega
      have HE := hide he
      by_cases hy : n / peakSize j % 2 = 1
      · have hz := hide (peaksToI_yes (n := n) (j := j) (by rw [← he]; exact hy) he)
        rw [hy, Nat.one_mul] at hbit
        have hne : (((peakSize j : Nat) : Int) != 0) = true := by rw [bne_iff_ne]; omega
        have hy' := hide hy
        clear he hy
        have hl10 := length_peaksToI n j hj
        have HL := hide hl10
        clear hl10
        generalize hs' : peakSize (j + 1) = s' at *
        generalize hs : peakSize j = s at *
        have HS := hide hs
        have HS' := hide hs'
        clear hs hs'
        go_wp2_with (at_builtin; refine wpList_app rfl _ _ _ rfl 3 (.int .i64 0) 8 Try.underlying28 infoI64 rfl w.heap.size _ _ rfl ((HO.out.alloc _).top) ⟨wr.heap.size, 0, none⟩ 1 1 [.int .i64 (s : Int)] rfl rfl (new_cells #[.int .i64 (s : Int)] _) (ints_one .i64 [(s : Int)]) (by have := HL.out; omega) (by omega) (by have := HB.out.size; simp; omega) ?_; intro v' w1 hown1 hb1 _; have O1 := hide hown1; have b1 := hide ((HB.out.alloc HB.out.size _).trans hb1); clear hown1 hb1)
        go_roundw
        case rel => exact ⟨j + 1, by omega, by rw [HS'.out], b1.out, by have := O1.out; rw [hz.out] at this; exact this⟩
        case measure => simp [intOf]; omega
      · have hz := hide (peaksToI_no (n := n) (j := j) (by rw [← he]; exact hy))
        have hy0 : n / peakSize j % 2 = 0 := by omega
        rw [hy0, Nat.zero_mul] at hbit
        have hy' := hide hy0
        clear he hy hy0
        generalize hs' : peakSize (j + 1) = s' at *
        generalize hs : peakSize j = s at *
        have HS := hide hs
        have HS' := hide hs'
        clear hs hs'
        go_wp2
        go_roundw
        case rel => exact ⟨j + 1, by omega, by rw [HS'.out], HB.out, by have := HO.out; rw [hz.out] at this; exact this⟩
        case measure => simp [intOf]; omega
    · have He := hide h10
      clear h10
      generalize hs : peakSize j = s at *
      clear hs
      subst h0
      go_wp2
      go_ret
      exact ⟨_, rfl, HB.out, by have := HO.out; rw [He.out] at this; exact this⟩
theorem i_PeaksOf (n : Int) (w : World) :
    Calls Try.prog 32 #[.int .i64 n] w fun e w' => ∃ A c, e = .returned (.slice A (peaksI n).length c) ∧ Below w.heap.size w w' ∧ Own w' w.heap.size w'.heap.size 3 (.slice A (peaksI n).length c) (ints .i64 (peaksI n)) := by
  by_cases hl : 0 ≤ n ∧ n ≤ 512
  · obtain ⟨N, rfl⟩ := Int.eq_ofNat_of_zero_le hl.1
    refine (i_PeaksOf_in N (by omega) w).mono ?_
    rintro e w' ⟨v, rfl, hb, ho⟩
    rw [peaksI_of N (by omega)]
    obtain ⟨A, c, rfl, ho'⟩ := ho.shape
    rw [length_ints] at ho' ⊢
    exact ⟨A, c, rfl, hb, ho'⟩
  · have hin : inR n 0 512 = false := by unfold inR; simp; omega
    have he : peaksI n = [] := by unfold peaksI; rw [if_neg hl]
    rw [he]
    go_enter Try.func32, Try.ntmps32
    go_wp2_with (go_at_call 31; refine (i_isSize _ _).mono ?_; rintro e w1 ⟨rfl, rfl⟩)
    go_ret
    exact ⟨none, 0, rfl, Below.refl _ _, Own.nil _ _ _ _⟩
end Go.Proofs.Ytcebpfhokacccaa

/-
  The walks of WordsOf, the program's and the reference's.
-/
import Derived.Test.YtejhpkcoeakegaaDoorApp
import Derived.Test.YtejhpkcoeakegaaDoorWord
import Derived.Outline
namespace Go.Proofs.YtejhpkcoeakegaaDoor
set_option linter.unusedVariables false
open Go.RowKit

/-- The words of a text, from its beginning on: j of them. -/
def wordsTo (s : ByteArray) (j : Nat) : List Int := (List.range j).map fun i : Nat => wordAtI s (4 * (i : Int))
theorem length_wordsTo (s : ByteArray) (j : Nat) : (wordsTo s j).length = j := by simp [wordsTo]
theorem wordsTo_succ (s : ByteArray) (j : Nat) : ints .u32 (wordsTo s j) ++ [.int .u32 (wordAtI s (4 * (j : Int)))] = ints .u32 (wordsTo s (j + 1)) := by
  simp [wordsTo, ints, List.range_succ]
def wordsGood (s : ByteArray) : Bool := decide (s.size ≤ 4000) && decide (s.size % 4 = 0)
/-- The words of a text that WordsOf takes. -/
def wordsOf (s : ByteArray) : List Int := if wordsGood s then wordsTo s (s.size / 4) else []
theorem wordsOf_len (s : ByteArray) : (wordsOf s).length ≤ 1000 := by
  unfold wordsOf wordsGood
  split
  · rename_i h
    simp at h
    rw [length_wordsTo]; omega
  · simp
theorem wordsGood_not {s : ByteArray} (h : wordsGood s = false) : ((decide ((4000 : Int) < s.size) = true) ∨ (decide ((4000 : Int) < s.size) = false ∧ ((s.size : Int) % 4 != 0) = true)) := by
  unfold wordsGood at h
  by_cases h1 : s.size ≤ 4000
  · right
    simp [h1] at h
    refine ⟨by simp; omega, by rw [bne_iff_ne]; omega⟩
  · left; simp; omega

theorem infoU32w : (Tryd.prog.info? 48).map (fun i => (i.zero, i.size, i.bytes)) = some (some (.int .u32 0), 1, 4) := by kernel_rfl
set_option maxHeartbeats 1000000 in
theorem i_WordsOf_in (s : ByteArray) (h1 : s.size ≤ 4000) (h2 : s.size % 4 = 0) (w : World) :
    Calls Tryd.prog 18 #[.string s] w fun e w' => ∃ v, e = .returned (.tuple #[v, .bool true]) ∧ Below w.heap.size w w' ∧ Own w' w.heap.size w'.heap.size 48 v (ints .u32 (wordsTo s (s.size / 4))) := by
  have d1 : decide ((4000 : Int) < s.size) = false := by simp; omega
  have d2 : ((s.size : Int) % 4 != 0) = false := by rw [bne_eq_false_iff_eq]; omega
  have hs : s.size ≤ 9223372036854775807 := by omega
  have H2 := hide h2
  clear h2
  go_enter Tryd.func18, Tryd.ntmps18
  go_wp2
  go_loopw [4, 5] (fun v i wr => ∃ j : Nat, j ≤ s.size / 4 ∧ i = .int .i64 (4 * (j : Int)) ∧ Below w.heap.size w wr ∧ Own wr w.heap.size wr.heap.size 48 v (ints .u32 (wordsTo s j))) (fun _ i _ => s.size - (intOf i).toNat)
  case atStart => exact ⟨0, Nat.zero_le _, rfl, Below.refl _ _, Own.nil _ _ _ _⟩
  case round =>
    obtain ⟨j, hj, rfl, hb, ho⟩ := hrel
    have HB := hide hb
    have HO := hide ho
    have HL := hide (length_wordsTo s j)
    clear hb ho
    by_cases hlt : 4 * (j : Int) < s.size
    · have hst := hide (wordsTo_succ s j)
      go_wp2_with (first
        | (go_at_call 31; refine (i_WordAt s _ hs _).mono ?_; rintro e w1 ⟨rfl, hb1⟩; have B1 := hide (bel_new HB.out hb1 HB.out.size); have O1 := hide (HO.out.below hb1).top; clear hb1)
        | (at_builtin; refine wpList_app rfl _ _ _ rfl 48 (.int .u32 0) 4 Tryd.underlying35 infoU32w rfl w.heap.size _ _ rfl ((O1.out.alloc _).top) ⟨w1.heap.size, 0, none⟩ 1 1 [.int .u32 (wordAtI s (4 * (j : Int)))] rfl rfl (new_cells #[.int .u32 (wordAtI s (4 * (j : Int)))] _) (ints_one .u32 [wordAtI s (4 * (j : Int))]) (by rw [length_ints, HL.out]; omega) (by omega) (by have := B1.out.size; simp; omega) ?_; intro v' w2 hown2 hb2 _; have O2 := hide hown2; have B2 := hide ((B1.out.alloc B1.out.size _).trans hb2); clear hown2 hb2))
      go_roundw
      case rel => exact ⟨j + 1, by have := H2.out; omega, by congr 1, B2.out, by have := O2.out; rw [hst.out] at this; exact this⟩
      case measure => simp [intOf]; omega
    · have e : j = s.size / 4 := by have := H2.out; omega
      have He := hide e
      clear e
      go_wp2
      go_ret2
      exact ⟨_, rfl, HB.out, by have := HO.out; rw [He.out] at this; exact this⟩
theorem i_WordsOf (s : ByteArray) (hs : s.size ≤ 9223372036854775807) (w : World) :
    Calls Tryd.prog 18 #[.string s] w fun e w' => ∃ A c, e = .returned (.tuple #[.slice A (wordsOf s).length c, .bool (wordsGood s)]) ∧ Below w.heap.size w w' ∧ Own w' w.heap.size w'.heap.size 48 (.slice A (wordsOf s).length c) (ints .u32 (wordsOf s)) := by
  cases hg : wordsGood s
  · have he : wordsOf s = [] := by simp [wordsOf, hg]
    rw [he]
    rcases wordsGood_not hg with d1 | ⟨d1, d2⟩
    all_goals
      clear hg
      go_enter Tryd.func18, Tryd.ntmps18
      go_wp2
      go_ret2
      exact ⟨none, 0, rfl, Below.refl _ _, Own.nil _ _ _ _⟩
  · have h := hg
    unfold wordsGood at h
    simp at h
    refine (i_WordsOf_in s h.1 (by omega) w).mono ?_
    rintro e w' ⟨v, rfl, hb, ho⟩
    have he : wordsOf s = wordsTo s (s.size / 4) := by simp [wordsOf, hg]
    rw [he]
    obtain ⟨A, c, rfl, ho'⟩ := ho.shape
    rw [length_ints] at ho' ⊢
    exact ⟨A, c, rfl, hb, ho'⟩
end Go.Proofs.YtejhpkcoeakegaaDoor

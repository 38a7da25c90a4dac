/-
  The walks of StartOf and firstState, and of slices.Clone at []uint32.
-/
import Derived.Test.YtceeaejhlpdalaaApp
import Derived.Test.YtceeaejhlpdalaaFeed
import Derived.Outline
import Derived.Handy
namespace Go.Proofs.Ytceeaejhlpdalaa
set_option linter.unusedVariables false
open Go.RowKit

/-- The eight words of the first state of a tag. -/
def start8 (t : Int) : List Int := [(t + 1) * 3 * 2246822519 % 4294967296, (t + 1) * 5 * 2246822519 % 4294967296, (t + 1) * 7 * 2246822519 % 4294967296, (t + 1) * 9 * 2246822519 % 4294967296,
  (t + 1) * 11 * 2246822519 % 4294967296, (t + 1) * 13 * 2246822519 % 4294967296, (t + 1) * 15 * 2246822519 % 4294967296, (t + 1) * 17 * 2246822519 % 4294967296]
def startI (t : Int) : List Int := if 0 ≤ t ∧ t ≤ 255 then start8 t else []
theorem startI_len (t : Int) : (startI t).length ≤ 8 := by unfold startI; split <;> simp [start8]
/-- A list of words as an array's value. -/
def chainV (zs : List Int) : Value := .agg (ints .u32 zs).toArray
theorem start8_bd (t : Int) : ∀ x ∈ start8 t, 0 ≤ x ∧ x ≤ 4294967295 := by
  intro x hx
  simp only [start8, List.mem_cons, List.not_mem_nil, or_false] at hx
  omega

set_option maxHeartbeats 2000000 in
theorem i_firstState (t : Int) (h0 : 0 ≤ t) (h1 : t ≤ 255) (w : World) :
    Calls Try.prog 24 #[.int .i64 t] w fun e w' => e = .returned (chainV (start8 t)) ∧ ∃ o1 o2, (w.alloc o1).alloc o2 = w' := by
  go_enter Try.func24, Try.ntmps24
  go_wp2
  go_rounds 9
  exact bodyPost_ret (v := chainV (start8 t)) (by simp [results, Try.results24, go_sem, chainV, start8, ints]) rfl ⟨rfl, _, _, rfl⟩
theorem infoU32c : (Try.prog.info? 47).map (fun i => (i.zero, i.size, i.bytes)) = some (some (.int .u32 0), 1, 4) := by kernel_rfl
theorem c_Clone (zs : List Int) (ad : Addr) (c L H : Nat) (w : World) (h : Rd w L H (some ad) (ints .u32 zs)) (h0 : 0 < zs.length) (hn : zs.length ≤ 1048576) :
    Calls Try.prog 30 #[.slice (some ad) zs.length c] w fun e w' => ∃ v, e = .returned v ∧ Below w.heap.size w w' ∧ Own w' w.heap.size w'.heap.size 47 v (ints .u32 zs) := by
  have H1 := hide h
  clear h
  have hk := fun (W : World) => Lib.run_eql_slice_nil (P := Try.prog) W
  go_enter Try.func30, Try.ntmps30
  go_wp2_with (at_builtin; refine wpList_app rfl _ _ _ rfl 47 (.int .u32 0) 4 Try.underlying33 infoU32c rfl w.heap.size _ _ rfl (Own.made #[] _ _ (Nat.le_refl _) (by simp [maxLen])).top ad zs.length c (ints .u32 zs) rfl (length_ints _ _) (H1.out.alloc _).cells (ints_one .u32 zs) (by simp; omega) (by omega) (by simp) ?_; intro v' w1 hown1 hb1 _)
  go_ret
  exact ⟨_, rfl, ((Below.refl _ _).alloc (Nat.le_refl _) _).trans hb1, by simpa using hown1⟩
theorem startI_in {t : Int} (h0 : 0 ≤ t) (h1 : t ≤ 255) : startI t = start8 t := by unfold startI; rw [if_pos ⟨h0, h1⟩]
set_option maxHeartbeats 1000000 in
theorem i_StartOf_in (t : Int) (h0 : 0 ≤ t) (h1 : t ≤ 255) (w : World) :
    Calls Try.prog 29 #[.int .i64 t] w fun e w' => ∃ v, e = .returned (.tuple #[v, .bool true]) ∧ Below w.heap.size w w' ∧ Own w' w.heap.size w'.heap.size 47 v (ints .u32 (start8 t)) := by
  have hin := inR_true h0 h1
  go_enter Try.func29, Try.ntmps29
  go_wp2_with (first
    | (go_at_call 21; refine (i_isTag _ _).mono ?_; rintro e w1 ⟨rfl, rfl⟩)
    | (go_at_call 24; refine (i_firstState t h0 h1 _).mono ?_; rintro e w1 ⟨rfl, o1, o2, rfl⟩; unfold chainV start8 ints; simp only [List.map_cons, List.map_nil, List.toArray])
    | (go_at_call 30; refine (c_Clone (start8 t) ⟨w.heap.size + 1 + 1, 0, none⟩ 8 _ _ _ (Rd.made _ _ _ (by simp)) (by simp [start8]) (by simp [start8])).mono ?_; rintro e w3 ⟨v, rfl, hb3, ho3⟩; have B3 := hide (bel_new ((((Below.refl _ w).alloc (Nat.le_refl _) o1).alloc (by simp) o2).alloc (by simp; omega) _) hb3 (by simp; omega)); have O3 := hide ho3; clear hb3 ho3))
  go_ret2
  exact ⟨_, rfl, B3.out, O3.out.wide (by simp; omega) (Nat.le_refl _)⟩
theorem i_StartOf (t : Int) (w : World) :
    Calls Try.prog 29 #[.int .i64 t] w fun e w' => ∃ A c, e = .returned (.tuple #[.slice A (startI t).length c, .bool (inR t 0 255)]) ∧ Below w.heap.size w w' ∧ Own w' w.heap.size w'.heap.size 47 (.slice A (startI t).length c) (ints .u32 (startI t)) := by
  by_cases hl : 0 ≤ t ∧ t ≤ 255
  · rw [startI_in hl.1 hl.2, inR_true hl.1 hl.2]
    refine (i_StartOf_in t hl.1 hl.2 w).mono ?_
    rintro e w' ⟨v, rfl, hb, ho⟩
    obtain ⟨A, c, rfl, ho'⟩ := ho.shape
    rw [length_ints] at ho' ⊢
    exact ⟨A, c, rfl, hb, ho'⟩
  · have hin : inR t 0 255 = false := by unfold inR; simp; omega
    have he : startI t = [] := by unfold startI; rw [if_neg hl]
    rw [he, hin]
    go_enter Try.func29, Try.ntmps29
    go_wp2_with (go_at_call 21; refine (i_isTag _ _).mono ?_; rintro e w1 ⟨rfl, rfl⟩)
    go_ret2
    exact ⟨none, 0, rfl, Below.refl _ _, Own.nil _ _ _ _⟩
end Go.Proofs.Ytceeaejhlpdalaa

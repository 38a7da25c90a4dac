/-
  The walks of Hex, the program's and the reference's.
-/
import Derived.Test.YticpedlcfakaeaaHex
import Derived.Deep.RegionLaw
namespace Go.Proofs.Yticpedlcfakaeaa
set_option linter.unusedVariables false
open Go.RowKit

/-- The first j bytes of a text, in figures of base sixteen. -/
def hexTo (s : ByteArray) (j : Nat) : List Int := (List.range j).flatMap fun i : Nat => [hexFig (byteAt s i / 16), hexFig (byteAt s i % 16)]
theorem length_hexTo (s : ByteArray) (j : Nat) : (hexTo s j).length = 2 * j := by
  induction j with
  | zero => rfl
  | succ j ih =>
    unfold hexTo at *
    rw [List.range_succ, List.flatMap_append, List.length_append, ih]
    simp
    omega
theorem hexTo_succ (s : ByteArray) (j : Nat) : ints .u8 (hexTo s j) ++ [.int .u8 (hexFig (byteAt s j / 16)), .int .u8 (hexFig (byteAt s j % 16))] = ints .u8 (hexTo s (j + 1)) := by
  simp [hexTo, ints, List.range_succ]
/-- Hex. -/
def hexOf (s : ByteArray) : ByteArray := if s.size ≤ 4000 then strOfNums (hexTo s s.size) else ByteArray.empty

theorem hex_digits : ∀ k : Fin 16, ((⟨#[48, 49, 50, 51, 52, 53, 54, 55, 56, 57, 97, 98, 99, 100, 101, 102]⟩ : ByteArray).data.toList.getD k.val 0).toNat = hexFig (k.val : Int) := by decide
theorem hex_digit (k : Int) (h0 : 0 ≤ k) (h1 : k < 16) (W : World) : (Instr.index 9 (.string ⟨#[48, 49, 50, 51, 52, 53, 54, 55, 56, 57, 97, 98, 99, 100, 101, 102]⟩) (.int .u8 k)).run Try.prog W = .ok (.int .u8 (hexFig k)) W := by
  obtain ⟨K, rfl⟩ := Int.eq_ofNat_of_zero_le h0
  have e := hex_digits ⟨K, by omega⟩
  have hK : K < (⟨#[48, 49, 50, 51, 52, 53, 54, 55, 56, 57, 97, 98, 99, 100, 101, 102]⟩ : ByteArray).size := by show K < 16; omega
  have hb := byteAt_of _ K hK
  rw [run_index_string _ _ _ _ _ Try.underlying9, dif_pos ⟨h0, by omega⟩]
  congr 2
  exact hb.trans e
set_option maxRecDepth 100000 in
set_option maxHeartbeats 2000000 in
theorem i_Hex_in (s : ByteArray) (h1 : s.size ≤ 4000) (w : World) :
    Calls Try.prog 36 #[.string s] w fun e w' => e = .returned (.tuple #[.string (hexOf s), .bool true]) ∧ Below w.heap.size w w' := by
  have d1 : decide ((4000 : Int) < s.size) = false := by simp; omega
  have hg := hide (show hexOf s = strOfNums (hexTo s s.size) by unfold hexOf; rw [if_pos h1])
  go_enter Try.func36, Try.ntmps36
  go_wp2_with (refine wpList_mk0 rfl _ _ _ rfl 5 (.int .u8 0) 1 Try.underlying47 infoU8 .i64 .i64 _ (2 * s.size) rfl rfl (by omega) (by omega) (by omega) ?_; intro w1 ho1 hb1; have O1 := hide ho1; have B1 := hide hb1; clear ho1 hb1)
  go_loopw [5, 6] (fun v i wr => ∃ j : Nat, j ≤ s.size ∧ i = .int .i64 (j : Int) ∧ Below w.heap.size w wr ∧ Own wr w.heap.size wr.heap.size 5 v (ints .u8 (hexTo s j))) (fun _ i _ => s.size - (intOf i).toNat)
  case atStart => exact ⟨0, Nat.zero_le _, rfl, B1.out, O1.out⟩
  case round =>
    obtain ⟨j, hj, rfl, hb, ho⟩ := hrel
    have HB := hide hb
    have HO := hide ho
    clear hb ho
    by_cases hlt : j < s.size
    · have g0 : (j : Int) < s.size := by omega
      have c0 := (s[j]'hlt).toNat_lt
      have k1 := hex_digit (((s[j]'hlt).toNat : Int) / 16) (by omega) (by omega)
      have k2 := hex_digit (((s[j]'hlt).toNat : Int) % 16) (by omega) (by omega)
      have k3 : bits .and .u8 ((s[j]'hlt).toNat : Int) 15 = ((s[j]'hlt).toNat : Int) % 16 := by
        have := u8_and ((s[j]'hlt).toNat : Int) 15 (by omega) (by omega) (by decide) (by decide)
        rw [this]
        have e : (15 : Int).toNat = 15 := rfl
        rw [e, Int.toNat_natCast, nat_mask4]
        omega
      have HL := hide (length_hexTo s j)
      have hst := hide (hexTo_succ s j)
      rw [← byteAt_of s j hlt] at hst
      go_wp2_with fail
      go_region_law (first | (refine step_app rfl _ _ _ rfl 5 (.int .u8 0) 1 Try.underlying47 infoU8 rfl w.heap.size _ _ rfl ((HO.out.drew.alloc _).top) ⟨wr.heap.size, 0, none⟩ 2 2 [.int .u8 (hexFig (((s[j]'hlt).toNat : Int) / 16)), .int .u8 (hexFig (((s[j]'hlt).toNat : Int) % 16))] rfl rfl (new_cells #[.int .u8 (hexFig (((s[j]'hlt).toNat : Int) / 16)), .int .u8 (hexFig (((s[j]'hlt).toNat : Int) % 16))] _) (ints_one .u8 [hexFig (((s[j]'hlt).toNat : Int) / 16), hexFig (((s[j]'hlt).toNat : Int) % 16)]) (by rw [length_ints, HL.out]; omega) (by omega) (by have := HB.out.size; simp; omega) ?_; intro v' w2 hown2 hb2 _; have O2 := hide hown2; have B2 := hide ((HB.out.drew.alloc HB.out.size _).trans hb2); clear hown2 hb2))
      all_goals
        go_wp2
        go_roundw
        case rel => exact ⟨j + 1, by omega, by go_num, B2.out, by have := O2.out; rw [hst.out] at this; exact this⟩
        case measure => simp [intOf]; omega
    · have e : j = s.size := by omega
      have He := hide e
      have hge : s.size ≤ j := by omega
      clear e
      have kc := run_str_own (P := Try.prog) (w := wr) _ _ _ Try.underlying47 Try.underlying5 Try.underlying9 _ _ HO.out
      go_wp2
      go_ret2
      exact ⟨by rw [hg.out, ← He.out]; rfl, HB.out⟩
theorem i_Hex (s : ByteArray) (hs : s.size ≤ 9223372036854775807) (w : World) :
    Calls Try.prog 36 #[.string s] w fun e w' => e = .returned (.tuple #[.string (hexOf s), .bool (decide (s.size ≤ 4000))]) ∧ Below w.heap.size w w' := by
  by_cases h : s.size ≤ 4000
  · rw [decide_eq_true h]
    exact i_Hex_in s h w
  · have he : hexOf s = ByteArray.empty := by unfold hexOf; rw [if_neg h]
    have hx : decide (s.size ≤ 4000) = false := by simp; omega
    have h2 : (4000 : Int) < s.size := by omega
    rw [he, hx]
    clear he hx h
    go_enter Try.func36, Try.ntmps36
    go_wp2
    go_ret2
    exact ⟨rfl, Below.refl _ _⟩
end Go.Proofs.Yticpedlcfakaeaa

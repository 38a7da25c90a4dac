/-
  The walks of Decimal, the program's and the reference's.
-/
import Derived.Test.YtejhpkcoeakegaaDoorDecPlain
import Derived.Test.YtejhpkcoeakegaaDoorHex2
import Derived.Test.YtejhpkcoeakegaaDoorText
import Derived.Test.YtejhpkcoeakegaaDoorShelf
import Derived.Outline
import Derived.Lib.AppendIntMem
namespace Go.Proofs.YtejhpkcoeakegaaDoor
set_option linter.unusedVariables false
open Go.RowKit

/-- The decimal numeral of n. -/
def dec (n : Int) : ByteArray := ⟨(Lib.itoa n).toArray⟩
theorem one_cons {d : Nat} (h : d < 10) (L : List UInt8) : one (hexFig (d : Int)) ++ (⟨L.toArray⟩ : ByteArray) = ⟨(UInt8.ofNat (48 + d) :: L).toArray⟩ := by
  apply ByteArray.ext
  have e : (hexFig (d : Int)).toNat = 48 + d := by unfold hexFig; rw [if_pos (by omega)]; omega
  simp [one, strOfNums, e]
theorem minus_cons (L : List UInt8) : (⟨#[45]⟩ : ByteArray) ++ ⟨L.toArray⟩ = ⟨(45 :: L).toArray⟩ := by
  apply ByteArray.ext
  simp

theorem i_Decimal (n : Int) (h0 : -9223372036854775808 ≤ n) (h1 : n ≤ 9223372036854775807) (w : World) (htab : Lib.TabIs Tryd.prog w "internal/strconv.uint64pow10" .u64 Lib.pow10Tab) :
    Calls Tryd.prog 11 #[.int .i64 n] w fun e w' => e = .returned (.string (dec n)) ∧ Below w.heap.size w w' := by
  go_enter Tryd.func11, Tryd.ntmps11
  go_wp2_with (go_at_call 26; refine (Tryd.strconv_Itoa n h0 h1 _ htab).mono ?_; rintro e w' ⟨rfl, k, os, rfl⟩)
  go_ret
  exact ⟨rfl, Lib.below_grow _ _ (Nat.le_refl _) _ _⟩
set_option maxRecDepth 100000 in
set_option maxHeartbeats 4000000 in
theorem s_Decimal (n : Int) (h0 : -9223372036854775808 ≤ n) (h1 : n ≤ 9223372036854775807) (w : World) :
    Calls Tryd.prog 22 #[.int .i64 n] w fun e w' => e = .returned (.string (dec n)) ∧ Below w.heap.size w w' := by
  go_enter Tryd.func22, Tryd.ntmps22
  by_cases hz : n = 0
  · subst hz
    go_wp2
    go_ret
    refine ⟨?_, Below.refl _ _⟩
    rw [dec, itoa_zero]; rfl
  · have kc := run_one (P := Tryd.prog) _ _ _ Tryd.underlying5 Tryd.underlying9 Tryd.underlying25
    by_cases hn : n < 0
    · have hz0 : (n == 0) = false := by simp [hz]
      go_wp2
      go_loopw [0, 4] (fun x v wr => ∃ (m k : Nat) (L : List UInt8), x = .int .i64 (-(m : Int)) ∧ v = .string ⟨L.toArray⟩ ∧ Below w.heap.size w wr ∧ figs m ++ L = figs n.natAbs ∧ m < 10 ^ k ∧ L.length + k ≤ 20 ∧ m ≤ n.natAbs) (fun x _ _ => (intOf x).natAbs)
      case atStart => exact ⟨n.natAbs, 20, [], by congr 1; omega, rfl, Below.refl _ _, List.append_nil _, by have : (10:Nat)^20 = 100000000000000000000 := rfl; omega, by simp, Nat.le_refl _⟩
      case round =>
        obtain ⟨m, k, L, rfl, rfl, hb, hf, hm, hl, hle⟩ := hrel
        have HF := hide hf
        have HM := hide hm
        have HL := hide hl
        have HB := hide hb
        clear hf hm hl hb
        by_cases hz' : m = 0
        · subst hz'
          have hL : L = figs n.natAbs := HF.out
          have gs : ¬ 9223372036854775807 < (⟨#[45]⟩ : ByteArray).size + (⟨L.toArray⟩ : ByteArray).size := by have := HL.out; simp [ByteArray.size]; omega
          have hD := hide (show (⟨#[45]⟩ : ByteArray) ++ ⟨L.toArray⟩ = dec n by rw [dec, itoa_neg hn, hL]; exact minus_cons _)
          clear hL
          go_wp2
          go_ret
          exact ⟨ret_str hD.out, HB.out⟩
        · have gs : ¬ 9223372036854775807 < (one (hexFig ((m % 10 : Nat) : Int))).size + (⟨L.toArray⟩ : ByteArray).size := by have := HL.out; rw [one_size]; simp [ByteArray.size]; omega
          have hst := hide (show one (hexFig ((m % 10 : Nat) : Int)) ++ (⟨L.toArray⟩ : ByteArray) = ⟨(UInt8.ofNat (48 + m % 10) :: L).toArray⟩ from one_cons (by omega) L)
          have hF2 := hide (show figs (m / 10) ++ (UInt8.ofNat (48 + m % 10) :: L) = figs n.natAbs by have := HF.out; rw [figs_step hz', List.append_assoc] at this; exact this)
          have hlt10 := Nat.mod_lt m (show 0 < 10 by omega)
          have y3 : (-(m : Int)).tmod 10 = -((m % 10 : Nat) : Int) := by rw [Int.neg_tmod, Int.tmod_eq_emod_of_nonneg (by omega)]; omega
          have y4 : (-(m : Int)).tdiv 10 = -((m / 10 : Nat) : Int) := by rw [Int.neg_tdiv, Int.tdiv_eq_ediv_of_nonneg (by omega)]; omega
          have y5 : IntKind.i64.wrap (-((m % 10 : Nat) : Int)) = -((m % 10 : Nat) : Int) := IntWalk.i64_in _ (by omega)
          have y6 : IntKind.i64.wrap (-((m / 10 : Nat) : Int)) = -((m / 10 : Nat) : Int) := IntWalk.i64_in _ (by omega)
          generalize hd : m % 10 = d at *
          generalize he : m / 10 = e at *
          have y7 : IntKind.i64.wrap (d : Int) = (d : Int) := IntWalk.i64_in _ (by omega)
          by_cases hd0 : d = 0
          · subst hd0
            go_wp2_with (go_at_call 38; refine (s_l01Figure _ (by omega) (by omega) _).mono ?_; rintro e w3 ⟨rfl, rfl⟩)
            go_roundw
            case rel =>
              obtain ⟨k', rfl⟩ : ∃ k', k = k' + 1 := by
                cases k with
                | zero => have := HM.out; simp at this; omega
                | succ k' => exact ⟨k', rfl⟩
              refine ⟨e, k', _, by go_num, congrArg Value.string hst.out, ?_, hF2.out, ?_, ?_, by omega⟩
              · exact HB.out.alloc HB.out.size _
              · have := HM.out; rw [Nat.pow_succ] at this; omega
              · have := HL.out; simp; omega
            case measure => simp [intOf]; omega
          · go_wp2_with (go_at_call 38; refine (s_l01Figure _ (by omega) (by omega) _).mono ?_; rintro e w3 ⟨rfl, rfl⟩)
            go_roundw
            case rel =>
              obtain ⟨k', rfl⟩ : ∃ k', k = k' + 1 := by
                cases k with
                | zero => have := HM.out; simp at this; omega
                | succ k' => exact ⟨k', rfl⟩
              refine ⟨e, k', _, by go_num, congrArg Value.string hst.out, ?_, hF2.out, ?_, ?_, by omega⟩
              · exact HB.out.alloc HB.out.size _
              · have := HM.out; rw [Nat.pow_succ] at this; omega
              · have := HL.out; simp; omega
            case measure => simp [intOf]; omega
    · have hz0 : (n == 0) = false := by simp [hz]
      go_wp2
      go_loopw [0, 4] (fun x v wr => ∃ (m k : Nat) (L : List UInt8), x = .int .i64 ((m : Int)) ∧ v = .string ⟨L.toArray⟩ ∧ Below w.heap.size w wr ∧ figs m ++ L = figs n.natAbs ∧ m < 10 ^ k ∧ L.length + k ≤ 20 ∧ m ≤ n.natAbs) (fun x _ _ => (intOf x).natAbs)
      case atStart => exact ⟨n.natAbs, 20, [], by congr 1; omega, rfl, Below.refl _ _, List.append_nil _, by have : (10:Nat)^20 = 100000000000000000000 := rfl; omega, by simp, Nat.le_refl _⟩
      case round =>
        obtain ⟨m, k, L, rfl, rfl, hb, hf, hm, hl, hle⟩ := hrel
        have HF := hide hf
        have HM := hide hm
        have HL := hide hl
        have HB := hide hb
        clear hf hm hl hb
        by_cases hz' : m = 0
        · subst hz'
          have hL : L = figs n.natAbs := HF.out
          have gs : ¬ 9223372036854775807 < (⟨#[45]⟩ : ByteArray).size + (⟨L.toArray⟩ : ByteArray).size := by have := HL.out; simp [ByteArray.size]; omega
          have hD := hide (show (⟨L.toArray⟩ : ByteArray) = dec n by rw [dec, itoa_pos (by omega), hL])
          clear hL
          go_wp2
          go_ret
          exact ⟨ret_str hD.out, HB.out⟩
        · have gs : ¬ 9223372036854775807 < (one (hexFig ((m % 10 : Nat) : Int))).size + (⟨L.toArray⟩ : ByteArray).size := by have := HL.out; rw [one_size]; simp [ByteArray.size]; omega
          have hst := hide (show one (hexFig ((m % 10 : Nat) : Int)) ++ (⟨L.toArray⟩ : ByteArray) = ⟨(UInt8.ofNat (48 + m % 10) :: L).toArray⟩ from one_cons (by omega) L)
          have hF2 := hide (show figs (m / 10) ++ (UInt8.ofNat (48 + m % 10) :: L) = figs n.natAbs by have := HF.out; rw [figs_step hz', List.append_assoc] at this; exact this)
          have hlt10 := Nat.mod_lt m (show 0 < 10 by omega)
          have y3 : ((m : Int)).tmod 10 = ((m % 10 : Nat) : Int) := by rw [Int.tmod_eq_emod_of_nonneg (by omega)]; omega
          have y4 : ((m : Int)).tdiv 10 = ((m / 10 : Nat) : Int) := by rw [Int.tdiv_eq_ediv_of_nonneg (by omega)]; omega
          have y5 : IntKind.i64.wrap ((m % 10 : Nat) : Int) = ((m % 10 : Nat) : Int) := IntWalk.i64_in _ (by omega)
          have y6 : IntKind.i64.wrap ((m / 10 : Nat) : Int) = ((m / 10 : Nat) : Int) := IntWalk.i64_in _ (by omega)
          generalize hd : m % 10 = d at *
          generalize he : m / 10 = e at *
          go_wp2_with (go_at_call 38; refine (s_l01Figure _ (by omega) (by omega) _).mono ?_; rintro e w3 ⟨rfl, rfl⟩)
          go_roundw
          case rel =>
            obtain ⟨k', rfl⟩ : ∃ k', k = k' + 1 := by
              cases k with
              | zero => have := HM.out; simp at this; omega
              | succ k' => exact ⟨k', rfl⟩
            refine ⟨e, k', _, by go_num, congrArg Value.string hst.out, ?_, hF2.out, ?_, ?_, by omega⟩
            · exact HB.out.alloc HB.out.size _
            · have := HM.out; rw [Nat.pow_succ] at this; omega
            · have := HL.out; simp; omega
          case measure => simp [intOf]; omega
end Go.Proofs.YtejhpkcoeakegaaDoor

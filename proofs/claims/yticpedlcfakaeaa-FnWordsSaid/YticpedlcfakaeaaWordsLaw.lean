/-
  Plain laws of words: figures of base sixteen read back are the text, a word turned there and back is the word; and the draw of a word and of a number of places.
-/
import Derived.Test.YticpedlcfakaeaaHex2
import Derived.Test.YticpedlcfakaeaaDraw
import Derived.Test.YticpedlcfakaeaaTurn
namespace Go.Proofs.Yticpedlcfakaeaa
set_option linter.unusedVariables false
open Go.RowKit

theorem byteAt_nums (zs : List Int) (i : Nat) (h : i < zs.length) (h0 : 0 ≤ zs[i]) (h1 : zs[i] ≤ 255) : byteAt (strOfNums zs) i = zs[i] := by
  unfold byteAt
  rw [strOfNums_data, List.getD_eq_getElem?_getD, List.getElem?_map, List.getElem?_eq_getElem h]
  simp only [Option.map_some, Option.getD_some]
  have : (UInt8.ofNat zs[i].toNat).toNat = zs[i].toNat := by
    rw [UInt8.toNat_ofNat']
    omega
  rw [this]
  omega
theorem strOf_bytes (s : ByteArray) : strOfNums ((List.range s.size).map fun i => byteAt s i) = s := by
  apply ByteArray.ext
  apply Array.ext'
  rw [strOfNums_data]
  apply List.ext_getElem
  · simp
  · intro i h1 h2
    simp only [List.getElem_map, List.getElem_range, byteAt, Int.toNat_natCast]
    rw [List.getD_eq_getElem?_getD, List.getElem?_eq_getElem h2]
    simp
theorem hexVal_fig {x : Int} (h0 : 0 ≤ x) (h1 : x ≤ 15) : hexVal (hexFig x) = x := by
  unfold hexVal hexFig
  by_cases h : x < 10
  · rw [if_pos h, if_pos (by omega)]; omega
  · rw [if_neg h, if_neg (by omega), if_pos (by omega)]; omega
theorem hexFig_bd {x : Int} (h0 : 0 ≤ x) (h1 : x ≤ 15) : 0 ≤ hexFig x ∧ hexFig x ≤ 255 := by
  unfold hexFig
  split <;> omega
theorem hexTo_more (s : ByteArray) (n : Nat) : hexTo s (n + 1) = hexTo s n ++ [hexFig (byteAt s n / 16), hexFig (byteAt s n % 16)] := by
  simp [hexTo, List.range_succ]
theorem hexTo_at (s : ByteArray) : ∀ (n i : Nat), i < n → (hexTo s n)[2 * i]? = some (hexFig (byteAt s i / 16)) ∧ (hexTo s n)[2 * i + 1]? = some (hexFig (byteAt s i % 16))
  | 0, i, h => by omega
  | n + 1, i, h => by
    rw [hexTo_more]
    have hl := length_hexTo s n
    by_cases hi : i < n
    · rw [List.getElem?_append_left (by omega), List.getElem?_append_left (by omega)]
      exact hexTo_at s n i hi
    · have : i = n := by omega
      subst this
      rw [List.getElem?_append_right (by omega), List.getElem?_append_right (by omega), hl]
      simp
theorem hex_back (s : ByteArray) (h : s.size ≤ 4000) : unhexGood (hexOf s) = true ∧ unhex (hexOf s) = s ∧ (hexOf s).size = 2 * s.size := by
  have e : hexOf s = strOfNums (hexTo s s.size) := by unfold hexOf; rw [if_pos h]
  have hz : (hexOf s).size = 2 * s.size := by rw [e, strOfNums_size, length_hexTo]
  have at0 : ∀ i, i < s.size → byteAt (hexOf s) (2 * i) = hexFig (byteAt s i / 16) ∧ byteAt (hexOf s) (2 * i + 1) = hexFig (byteAt s i % 16) := by
    intro i hi
    obtain ⟨a0, a1⟩ := hexTo_at s s.size i hi
    have lo := byteAt_lo s i
    have hi2 := byteAt_hi s i
    obtain ⟨l0, e0⟩ := List.getElem?_eq_some_iff.1 a0
    obtain ⟨l1, e1⟩ := List.getElem?_eq_some_iff.1 a1
    have b0 := hexFig_bd (x := byteAt s i / 16) (by omega) (by omega)
    have b1 := hexFig_bd (x := byteAt s i % 16) (by omega) (by omega)
    rw [e]
    exact ⟨by rw [byteAt_nums _ _ l0 (by rw [e0]; exact b0.1) (by rw [e0]; exact b0.2), e0], by rw [byteAt_nums _ _ l1 (by rw [e1]; exact b1.1) (by rw [e1]; exact b1.2), e1]⟩
  have vals : ∀ i, i < s.size → hexVal (byteAt (hexOf s) (2 * i)) = byteAt s i / 16 ∧ hexVal (byteAt (hexOf s) (2 * i + 1)) = byteAt s i % 16 := by
    intro i hi
    have lo := byteAt_lo s i
    have hi2 := byteAt_hi s i
    rw [(at0 i hi).1, (at0 i hi).2]
    exact ⟨hexVal_fig (by omega) (by omega), hexVal_fig (by omega) (by omega)⟩
  have hd : (hexOf s).size / 2 = s.size := by omega
  have hg : unhexGood (hexOf s) = true := by
    rw [pairsOk_good (by omega) (by omega), hd]
    unfold pairsOk
    rw [List.all_eq_true]
    intro i hi
    have hi' := List.mem_range.1 hi
    have lo := byteAt_lo s i
    rw [(vals i hi').1, (vals i hi').2]
    simp
    omega
  refine ⟨hg, ?_, hz⟩
  unfold unhex
  rw [if_pos hg, hd]
  have : unhexTo (hexOf s) s.size = (List.range s.size).map fun i => byteAt s i := by
    unfold unhexTo
    apply List.map_congr_left
    intro i hi
    have hi' := List.mem_range.1 hi
    rw [(vals i hi').1, (vals i hi').2]
    omega
  rw [this, strOf_bytes]
theorem rotl_back (x k : Nat) (hx : x < 4294967296) (hk : k < 32) : rotl (rotl x k) ((32 - k) % 32) = x := by
  by_cases h0 : k = 0
  · subst h0
    rw [rotl_zero x hx]
    exact rotl_zero x hx
  have e1 : (32 - k) % 32 = 32 - k := by omega
  rw [e1]
  unfold rotl
  have e2 : 32 - (32 - k) = k := by omega
  rw [e2]
  obtain ⟨A, hA⟩ : ∃ A, 2 ^ k = A := ⟨_, rfl⟩
  obtain ⟨B, hB⟩ : ∃ B, 2 ^ (32 - k) = B := ⟨_, rfl⟩
  have hAB : A * B = 4294967296 := by rw [← hA, ← hB, ← Nat.pow_add, show k + (32 - k) = 32 by omega]
  have hA0 : 0 < A := hA ▸ Nat.two_pow_pos _
  have hB0 : 0 < B := hB ▸ Nat.two_pow_pos _
  rw [hA, hB, ← hAB]
  have hxq : x / B < A := Nat.div_lt_of_lt_mul (by rw [Nat.mul_comm, hAB]; exact hx)
  have hr : x % B < B := Nat.mod_lt _ hB0
  have hx' : B * (x / B) + x % B = x := Nat.div_add_mod x B
  generalize x / B = q at *
  generalize x % B = r at *
  have m1 : x * A % (A * B) = r * A := by
    rw [Nat.mul_comm A B, Nat.mul_mod_mul_right, ← hx', Nat.mul_add_mod, Nat.mod_eq_of_lt hr]
  rw [m1]
  have d1 : (r * A + q) / A = r := by
    rw [Nat.add_comm, Nat.add_mul_div_right _ _ hA0, Nat.div_eq_of_lt hxq, Nat.zero_add]
  have m2 : (r * A + q) * B % (A * B) = q * B := by
    rw [Nat.mul_mod_mul_right, Nat.add_comm, Nat.add_mul_mod_self_right, Nat.mod_eq_of_lt hxq]
  rw [d1, m2, ← hx', Nat.mul_comm]
theorem word_back {x : Int} (h0 : 0 ≤ x) (h1 : x ≤ 4294967295) : wordAtI (wordText x) 0 = x := by
  have hs : (wordText x).size = 4 := strOfNums_size _
  unfold wordAtI
  rw [if_pos (by rw [hs]; omega)]
  show wordAt (wordText x) 0 = x
  unfold wordAt wordText
  rw [byteAt_nums _ 0 (by simp) (by simp; omega) (by simp; omega), byteAt_nums _ 1 (by simp) (by simp; omega) (by simp; omega), byteAt_nums _ 2 (by simp) (by simp; omega) (by simp; omega), byteAt_nums _ 3 (by simp) (by simp; omega) (by simp; omega)]
  simp
  omega
theorem l_big (code : List Int) (A : Option Addr) (c : Nat) (w : World) :
    Calls Try.prog 34 #[.slice A code.length c] w fun e w' => e = .returned (.bool (decide ((1048576 : Int) < (code.length : Int)))) ∧ w = w' := by
  go_enter Try.func34, Try.ntmps34
  go_wp2
  go_ret
  exact ⟨rfl, rfl⟩
set_option maxRecDepth 100000 in
theorem s_DrawTurn (code : List Int) (A : Option Addr) (c L H : Nat) (w : World) (h : Rd w L H A (ints .u8 code)) (hc : ∀ b ∈ code, 0 ≤ b ∧ b ≤ 255) (hn : code.length ≤ 1048576) :
    Calls Try.prog 38 #[.slice A code.length c] w fun e w' => ∃ x n : Int, e = .returned (.tuple #[.int .u32 x, .int .i64 n]) ∧ 0 ≤ x ∧ x ≤ 4294967295 ∧ Below w.heap.size w w' := by
  have HR := hide h
  have HC := hide hc
  clear h hc
  go_enter Try.func38, Try.ntmps38
  go_wp2_with fail
  refine (s_l01New code A c L H _ HR.out HC.out hn).mono ?_
  rintro e w1 ⟨rfl, hk, hb⟩
  have K1 := hide hk
  have B1 := hide hb
  clear hk hb
  go_wp2_with fail
  refine (s_l01Below _ _ _ K1.out).mono ?_
  rintro e w2 ⟨x, rfl, x0, x1, -, hk, hg⟩
  have K2 := hide hk
  have B2 := hide (bel_chg B1.out hg B1.out.size (.inl (Nat.le_refl _)))
  clear hk hg
  replace x1 := x1 (by omega)
  go_wp2_with fail
  refine (s_l01Once _ _ _ K2.out).mono ?_
  rintro e w3 ⟨b, rfl, hk, hg⟩
  have K3 := hide hk
  have L3 := hk.lt
  have B3 := hide (bel_chg B2.out hg B2.out.size (.inl (Nat.le_refl _)))
  clear hk hg
  cases b
  · go_wp2_with fail
    refine (s_l01Word _ _ K3.out).mono ?_
    rintro e w4 ⟨y, rfl, y0, y1, hk, hg⟩
    have B4 := hide (bel_chg B3.out hg B3.out.size (.inl (Nat.le_refl _)))
    clear hk hg
    go_wp2
    go_ret2
    exact ⟨_, _, rfl, y0, y1, B4.out⟩
  · go_wp2_with fail
    refine (s_l01PickInt _ [-9223372036854775808, 9223372036854775807, 32, -32, 31] _ _ _ _ _ (K3.out.alloc _) (Rd.made _ _ _ rfl) L3 (by simp) (by simp)).mono ?_
    rintro e w4 ⟨v, rfl, -, hk, hg⟩
    have K4 := hide hk
    have B4 := hide (bel_chg (B3.out.alloc B3.out.size _) hg (by have := B3.out.size; simp; omega) (.inl (Nat.le_refl _)))
    clear hk hg
    go_wp2_with fail
    refine (s_l01Word _ _ K4.out).mono ?_
    rintro e w5 ⟨y, rfl, y0, y1, hk, hg⟩
    have B5 := hide (bel_chg B4.out hg B4.out.size (.inl (Nat.le_refl _)))
    clear hk hg
    go_wp2
    go_ret2
    exact ⟨_, _, rfl, y0, y1, B5.out⟩
end Go.Proofs.Yticpedlcfakaeaa

/-
  The walks of Unhex and Hex, the program's and the reference's.
-/
import Derived.Test.YticpedlcfakaeaaApp
import Derived.Test.YticpedlcfakaeaaWord
import Derived.Test.YticpedlcfakaeaaShelf
import Derived.Outline
import Derived.StillTailTactics
import Derived.Deep.RegionWith
namespace Go.Proofs.Yticpedlcfakaeaa
set_option linter.unusedVariables false
open Go.RowKit

/-- A figure of base sixteen. -/
def hexFig (x : Int) : Int := if x < 10 then 48 + x else 87 + x
/-- What such a figure stands for; -1 if it is none. -/
def hexVal (x : Int) : Int := if 48 ≤ x ∧ x ≤ 57 then x - 48 else if 97 ≤ x ∧ x ≤ 102 then x - 87 else -1
theorem hexVal_bd (x : Int) : hexVal x = -1 ∨ (0 ≤ hexVal x ∧ hexVal x ≤ 15) := by
  unfold hexVal
  split
  · right; omega
  · split
    · right; omega
    · left; rfl

/-- 'string(v)' of a slice of bytes that the call owns. -/
theorem run_str_own {P : Program} {w : World} {B C : Nat} (src dst e : TypeId) (hs : P.underlying src = some (.slice e)) (he : P.underlying e = some (.int .u8)) (hd : P.underlying dst = some .string) (v : Value) (zs : List Int) (h : Own w B C e v (ints .u8 zs)) :
    (convert src dst v).run P w = .ok (.string (strOfNums zs)) w := by
  rcases h.cases with ⟨rfl, h0⟩ | ⟨g, cap, cur, rfl, h1, h2, h3, h4, h5, h6, h7, h8⟩
  · have : zs = [] := by
      have := congrArg List.length h0
      rw [length_ints] at this
      exact List.eq_nil_of_length_eq_zero this
    subst this
    exact run_convert_bytes_nil w src e hs he 0 0 dst hd
  · rw [length_ints] at *
    refine run_convert_bytes_arg w src e hs he g 0 zs.length cap zs rfl ?_ dst hd
    intro i hi
    have hi' : i < (ints .u8 zs).length := by rw [length_ints]; exact hi
    obtain ⟨_, _, _, hc, _⟩ := h.at3 hi'
    rw [Nat.zero_add, hc, ints_get]
    simp [List.getD, List.getElem?_eq_getElem hi]

/-- The first j pairs of figures, read. -/
def unhexTo (s : ByteArray) (j : Nat) : List Int := (List.range j).map fun i : Nat => 16 * hexVal (byteAt s (2 * i)) + hexVal (byteAt s (2 * i + 1))
def pairsOk (s : ByteArray) (j : Nat) : Bool := (List.range j).all fun i => decide (0 ≤ hexVal (byteAt s (2 * i))) && decide (0 ≤ hexVal (byteAt s (2 * i + 1)))
def unhexGood (s : ByteArray) : Bool := decide (s.size ≤ 8000) && decide (s.size % 2 = 0) && pairsOk s (s.size / 2)
/-- Unhex. -/
def unhex (s : ByteArray) : ByteArray := if unhexGood s then strOfNums (unhexTo s (s.size / 2)) else ByteArray.empty
theorem unhexTo_succ (s : ByteArray) (j : Nat) : ints .u8 (unhexTo s j) ++ [.int .u8 (16 * hexVal (byteAt s (2 * j)) + hexVal (byteAt s (2 * j + 1)))] = ints .u8 (unhexTo s (j + 1)) := by
  simp [unhexTo, ints, List.range_succ]
theorem length_unhexTo (s : ByteArray) (j : Nat) : (unhexTo s j).length = j := by simp [unhexTo]
theorem pairsOk_succ {s : ByteArray} {j : Nat} (h : pairsOk s j = true) (h1 : 0 ≤ hexVal (byteAt s (2 * j))) (h2 : 0 ≤ hexVal (byteAt s (2 * j + 1))) : pairsOk s (j + 1) = true := by
  unfold pairsOk at *
  rw [List.range_succ, List.all_append, h]
  simp [h1, h2]
theorem pairsOk_not {s : ByteArray} {j n : Nat} (hj : j < n) (h : hexVal (byteAt s (2 * j)) = -1 ∨ hexVal (byteAt s (2 * j + 1)) = -1) : pairsOk s n = false := by
  unfold pairsOk
  rw [List.all_eq_false]
  refine ⟨j, List.mem_range.2 hj, ?_⟩
  rcases h with h | h <;> simp [h]
theorem pairsOk_good {s : ByteArray} (h1 : s.size ≤ 8000) (h2 : s.size % 2 = 0) : unhexGood s = pairsOk s (s.size / 2) := by simp [unhexGood, h1, h2]
theorem unhexGood_not {s : ByteArray} (h : ¬ (s.size ≤ 8000 ∧ s.size % 2 = 0)) : unhexGood s = false := by
  unfold unhexGood
  by_cases h1 : s.size ≤ 8000
  · have h2 : ¬ s.size % 2 = 0 := fun h2 => h ⟨h1, h2⟩
    simp [h2]
  · simp [h1]

theorem hex_index : ∀ c : Fin 256, Lib.indexByte [48, 49, 50, 51, 52, 53, 54, 55, 56, 57, 97, 98, 99, 100, 101, 102] (UInt8.ofNat c.val) = hexVal (c.val : Int) := by decide +kernel
theorem i_IndexHex (x : Int) (h0 : 0 ≤ x) (h1 : x ≤ 255) (w : World) :
    Calls Try.prog 79 #[.string ⟨#[48, 49, 50, 51, 52, 53, 54, 55, 56, 57, 97, 98, 99, 100, 101, 102]⟩, .int .u8 x] w fun e w' => e = .returned (.int .i64 (hexVal x)) ∧ w = w' := by
  refine (Try.strings_IndexByte _ x w).mono ?_
  rintro e w' ⟨rfl, rfl⟩
  refine ⟨ret_int ?_, rfl⟩
  obtain ⟨X, rfl⟩ := Int.eq_ofNat_of_zero_le h0
  exact hex_index ⟨X, by omega⟩
theorem infoU8 : (Try.prog.info? 5).map (fun i => (i.zero, i.size, i.bytes)) = some (some (.int .u8 0), 1, 1) := by kernel_rfl
theorem hex_or (x y : Int) (h0 : 0 ≤ x) (h1 : x ≤ 15) (h2 : 0 ≤ y) (h3 : y ≤ 15) : bits .or .i64 (x * 16) y = 16 * x + y := by
  obtain ⟨X, rfl⟩ := Int.eq_ofNat_of_zero_le h0
  obtain ⟨Y, rfl⟩ := Int.eq_ofNat_of_zero_le h2
  have e1 : ((X : Int) * 16) = ((X * 16 : Nat) : Int) := by omega
  have g1 : (BitVec.ofInt 64 ((X * 16 : Nat) : Int)).toNat = X * 16 := by rw [BitVec.ofInt_natCast, BitVec.toNat_ofNat]; exact Nat.mod_eq_of_lt (by omega)
  have g2 : (BitVec.ofInt 64 (Y : Int)).toNat = Y := by rw [BitVec.ofInt_natCast, BitVec.toNat_ofNat]; exact Nat.mod_eq_of_lt (by omega)
  rw [e1]
  show IntKind.i64.wrap ((BitVec.ofInt 64 ((X * 16 : Nat) : Int) ||| BitVec.ofInt 64 (Y : Int)).toNat : Int) = _
  rw [BitVec.toNat_or, g1, g2, nat_join 4 _ _ (by omega) (by omega), IntKind.wrap_i64]
  omega
set_option maxRecDepth 100000 in
set_option maxHeartbeats 2000000 in
theorem i_Unhex_in (s : ByteArray) (h1 : s.size ≤ 8000) (h2 : s.size % 2 = 0) (w : World) :
    Calls Try.prog 37 #[.string s] w fun e w' => e = .returned (.tuple #[.string (unhex s), .bool (unhexGood s)]) ∧ Below w.heap.size w w' := by
  have d1 : decide ((8000 : Int) < s.size) = false := by simp; omega
  have d2 : ((s.size : Int) % 2 != 0) = false := by rw [bne_eq_false_iff_eq]; omega
  have hg := hide (pairsOk_good h1 h2)
  obtain ⟨n, hn⟩ : ∃ n, s.size / 2 = n := ⟨_, rfl⟩
  have hn2 : s.size = 2 * n := by omega
  have HN := hide hn
  have HN2 := hide hn2
  clear h2 hn hn2
  go_enter Try.func37, Try.ntmps37
  go_wp2_with (refine wpList_mk0 rfl _ _ _ rfl 5 (.int .u8 0) 1 Try.underlying47 infoU8 .i64 .i64 _ n rfl rfl (by have := HN.out; omega) (by omega) (by have := HN2.out; omega) ?_; intro w1 ho1 hb1; have O1 := hide ho1; have B1 := hide hb1; clear ho1 hb1)
  go_loopw [4, 5, 6, 7] (fun v i _ _ wr => ∃ j : Nat, j ≤ n ∧ i = .int .i64 (2 * (j : Int)) ∧ Hid (pairsOk s j = true) ∧ Below w.heap.size w wr ∧ Own wr w.heap.size wr.heap.size 5 v (ints .u8 (unhexTo s j))) (fun _ i _ _ _ => s.size - (intOf i).toNat)
  case atStart => exact ⟨0, Nat.zero_le _, rfl, rfl, B1.out, O1.out⟩
  case round =>
    obtain ⟨j, hj, rfl, hp, hb, ho⟩ := hrel
    have HB := hide hb
    have HO := hide ho
    clear hb ho
    by_cases hlt : j < n
    · have g0 : 2 * (j : Int) < s.size := by have := HN2.out; omega
      have g1 : 2 * (j : Int) + 1 < s.size := by have := HN2.out; omega
      have q0 : 2 * j < s.size := by have := HN2.out; omega
      have q1 : 2 * j + 1 < s.size := by have := HN2.out; omega
      have c0 := (s[2 * j]'q0).toNat_lt
      have c1 := (s[2 * j + 1]'q1).toNat_lt
      have E0 := hide (byteAt_of s (2 * j) q0)
      have E1 := hide (byteAt_of s (2 * j + 1) q1)
      obtain ⟨x, hx⟩ : ∃ x, hexVal ((s[2 * j]'q0).toNat : Int) = x := ⟨_, rfl⟩
      obtain ⟨y, hy⟩ : ∃ y, hexVal ((s[2 * j + 1]'q1).toNat : Int) = y := ⟨_, rfl⟩
      have HX := hide hx
      have HY := hide hy
      have bx := hexVal_bd ((s[2 * j]'q0).toNat : Int)
      have bY := hexVal_bd ((s[2 * j + 1]'q1).toNat : Int)
      rw [hx] at bx
      rw [hy] at bY
      rcases bx with hx1 | hx0
      · have Hf := hide (pairsOk_not (s := s) hlt (.inl (by rw [← E0.out, HX.out]; exact hx1)))
        have hneg : x < 0 := by omega
        clear hx1 bY
        go_wp2_with (go_at_call 79; refine (i_IndexHex _ (by omega) (by omega) _).mono ?_; rintro e w2 ⟨rfl, rfl⟩)
        go_ret2
        exact ⟨by rw [unhex, hg.out, HN.out, Hf.out]; rfl, HB.out⟩
      rcases bY with hy1 | hy0
      · have Hf := hide (pairsOk_not (s := s) hlt (.inr (by rw [← E1.out, HY.out]; exact hy1)))
        have hneg : y < 0 := by omega
        obtain ⟨k0, k1⟩ := hx0
        clear hy1
        go_wp2_with (go_at_call 79; refine (i_IndexHex _ (by omega) (by omega) _).mono ?_; rintro e w2 ⟨rfl, rfl⟩)
        go_ret2
        exact ⟨by rw [unhex, hg.out, HN.out, Hf.out]; rfl, HB.out⟩
      have hor : bits .or .i64 (x * 16) y = 16 * x + y := hex_or x y hx0.1 hx0.2 hy0.1 hy0.2
      have hpp := hide (pairsOk_succ hp.out (by rw [← E0.out, HX.out]; exact hx0.1) (by rw [← E1.out, HY.out]; exact hy0.1))
      have hst := hide (show ints .u8 (unhexTo s j) ++ [.int .u8 (16 * x + y)] = ints .u8 (unhexTo s (j + 1)) by rw [← unhexTo_succ, ← E0.out, ← E1.out, HX.out, HY.out])
      have HL := hide (length_unhexTo s j)
      obtain ⟨k0, k1⟩ := hx0
      obtain ⟨k2, k3⟩ := hy0
      go_wp2_with (first | (go_at_call 79; refine (i_IndexHex _ (by omega) (by omega) _).mono ?_; rintro e w2 ⟨rfl, rfl⟩) | (at_builtin; refine wpList_app rfl _ _ _ rfl 5 (.int .u8 0) 1 Try.underlying47 infoU8 rfl w.heap.size _ _ rfl ((HO.out.alloc _).top) ⟨wr.heap.size, 0, none⟩ 1 1 [.int .u8 (16 * x + y)] rfl rfl (new_cells #[.int .u8 (16 * x + y)] _) (ints_one .u8 [16 * x + y]) (by rw [length_ints, HL.out]; omega) (by omega) (by have := HB.out.size; simp; omega) ?_; intro v' w2 hown2 hb2 _; have O2 := hide hown2; have B2 := hide ((HB.out.alloc HB.out.size _).trans hb2); clear hown2 hb2))
      go_roundw
      case rel => exact ⟨j + 1, by omega, by congr 1, hpp.out, B2.out, by have := O2.out; rw [hst.out] at this; exact this⟩
      case measure => simp [intOf]; omega
    · have e : j = n := by omega
      have He := hide e
      have hge : s.size ≤ 2 * j := by have := HN2.out; omega
      clear e
      have kc := run_str_own (P := Try.prog) (w := wr) _ _ _ Try.underlying47 Try.underlying5 Try.underlying9 _ _ HO.out
      go_wp2
      go_ret2
      exact ⟨by rw [unhex, hg.out, HN.out, ← He.out, hp.out]; rfl, HB.out⟩
theorem i_Unhex (s : ByteArray) (hs : s.size ≤ 9223372036854775807) (w : World) :
    Calls Try.prog 37 #[.string s] w fun e w' => e = .returned (.tuple #[.string (unhex s), .bool (unhexGood s)]) ∧ Below w.heap.size w w' := by
  by_cases h : s.size ≤ 8000 ∧ s.size % 2 = 0
  · exact i_Unhex_in s h.1 h.2 w
  · have hg := unhexGood_not h
    have he : unhex s = ByteArray.empty := by simp [unhex, hg]
    rw [he, hg]
    clear he hg
    by_cases h2 : (s.size : Int) % 2 = 0
    · have d2 : ((s.size : Int) % 2 != 0) = false := by rw [bne_eq_false_iff_eq]; exact h2
      have d1 : decide ((8000 : Int) < s.size) = true := by simp; omega
      clear h h2
      go_enter Try.func37, Try.ntmps37
      go_wp2
      go_ret2
      exact ⟨rfl, Below.refl _ _⟩
    · have d2 : ((s.size : Int) % 2 != 0) = true := by rw [bne_iff_ne]; exact h2
      clear h h2
      go_enter Try.func37, Try.ntmps37
      go_wp2
      go_ret2
      exact ⟨rfl, Below.refl _ _⟩
end Go.Proofs.Yticpedlcfakaeaa

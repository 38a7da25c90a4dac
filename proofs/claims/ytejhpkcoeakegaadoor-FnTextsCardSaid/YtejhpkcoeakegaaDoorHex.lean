/-
  The walks of Unhex and Hex, the program's and the reference's.
-/
import Derived.Test.YtejhpkcoeakegaaDoorApp
import Derived.Test.YtejhpkcoeakegaaDoorWord
import Derived.Test.YtejhpkcoeakegaaDoorShelf
import Derived.Outline
import Derived.StillTailTactics
import Derived.Deep.RegionWith
namespace Go.Proofs.YtejhpkcoeakegaaDoor
set_option linter.unusedVariables false
open Go.RowKit

/-- A figure of base sixteen. -/
def hexFig (x : Int) : Int := if x < 10 then 48 + x else 87 + x
/-- What such a figure stands for; -1 if it is none. -/
def hexVal (x : Int) : Int := if 48 ≤ x ∧ x ≤ 57 then x - 48 else if 97 ≤ x ∧ x ≤ 102 then x - 87 else -1
theorem hexVal_bd (x : Int) : hexVal x = -1 ∨ (0 ≤ hexVal x ∧ hexVal x ≤ 15) := by
  unfold hexVal
  split
  · right; omega
  · split
    · right; omega
    · left; rfl

/-- 'string(v)' of a slice of bytes that the call owns. -/
theorem run_str_own {P : Program} {w : World} {B C : Nat} (src dst e : TypeId) (hs : P.underlying src = some (.slice e)) (he : P.underlying e = some (.int .u8)) (hd : P.underlying dst = some .string) (v : Value) (zs : List Int) (h : Own w B C e v (ints .u8 zs)) :
    (convert src dst v).run P w = .ok (.string (strOfNums zs)) w := by
  rcases h.cases with ⟨rfl, h0⟩ | ⟨g, cap, cur, rfl, h1, h2, h3, h4, h5, h6, h7, h8⟩
  · have : zs = [] := by
      have := congrArg List.length h0
      rw [length_ints] at this
      exact List.eq_nil_of_length_eq_zero this
    subst this
    exact run_convert_bytes_nil w src e hs he 0 0 dst hd
  · rw [length_ints] at *
    refine run_convert_bytes_arg w src e hs he g 0 zs.length cap zs rfl ?_ dst hd
    intro i hi
    have hi' : i < (ints .u8 zs).length := by rw [length_ints]; exact hi
    obtain ⟨_, _, _, hc, _⟩ := h.at3 hi'
    rw [Nat.zero_add, hc, ints_get]
    simp [List.getD, List.getElem?_eq_getElem hi]

/-- The first j pairs of figures, read. -/
def unhexTo (s : ByteArray) (j : Nat) : List Int := (List.range j).map fun i : Nat => 16 * hexVal (byteAt s (2 * i)) + hexVal (byteAt s (2 * i + 1))
def pairsOk (s : ByteArray) (j : Nat) : Bool := (List.range j).all fun i => decide (0 ≤ hexVal (byteAt s (2 * i))) && decide (0 ≤ hexVal (byteAt s (2 * i + 1)))
def unhexGood (s : ByteArray) : Bool := decide (s.size ≤ 8000) && decide (s.size % 2 = 0) && pairsOk s (s.size / 2)
/-- Unhex. -/
def unhex (s : ByteArray) : ByteArray := if unhexGood s then strOfNums (unhexTo s (s.size / 2)) else ByteArray.empty
theorem unhexTo_succ (s : ByteArray) (j : Nat) : ints .u8 (unhexTo s j) ++ [.int .u8 (16 * hexVal (byteAt s (2 * j)) + hexVal (byteAt s (2 * j + 1)))] = ints .u8 (unhexTo s (j + 1)) := by
  simp [unhexTo, ints, List.range_succ]
theorem length_unhexTo (s : ByteArray) (j : Nat) : (unhexTo s j).length = j := by simp [unhexTo]
theorem pairsOk_succ {s : ByteArray} {j : Nat} (h : pairsOk s j = true) (h1 : 0 ≤ hexVal (byteAt s (2 * j))) (h2 : 0 ≤ hexVal (byteAt s (2 * j + 1))) : pairsOk s (j + 1) = true := by
  unfold pairsOk at *
  rw [List.range_succ, List.all_append, h]
  simp [h1, h2]
theorem pairsOk_not {s : ByteArray} {j n : Nat} (hj : j < n) (h : hexVal (byteAt s (2 * j)) = -1 ∨ hexVal (byteAt s (2 * j + 1)) = -1) : pairsOk s n = false := by
  unfold pairsOk
  rw [List.all_eq_false]
  refine ⟨j, List.mem_range.2 hj, ?_⟩
  rcases h with h | h <;> simp [h]
theorem pairsOk_good {s : ByteArray} (h1 : s.size ≤ 8000) (h2 : s.size % 2 = 0) : unhexGood s = pairsOk s (s.size / 2) := by simp [unhexGood, h1, h2]
theorem unhexGood_not {s : ByteArray} (h : ¬ (s.size ≤ 8000 ∧ s.size % 2 = 0)) : unhexGood s = false := by
  unfold unhexGood
  by_cases h1 : s.size ≤ 8000
  · have h2 : ¬ s.size % 2 = 0 := fun h2 => h ⟨h1, h2⟩
    simp [h2]
  · simp [h1]

end Go.Proofs.YtejhpkcoeakegaaDoor

/-
  Mixing the blocks of a text into a state, as plain functions. No program in sight.
-/
import Derived.Test.YtcebpfhokacccaaMixPlain
import Derived.Test.YtcebpfhokacccaaWord
import Derived.Test.YtcebpfhokacccaaWords
import Derived.Test.YtcebpfhokacccaaTextOf
import Derived.Test.YtcebpfhokacccaaStart
namespace Go.Proofs.Ytcebpfhokacccaa
set_option linter.unusedVariables false
open Go.RowKit

/-- The sixteen words of a text from a place on. -/
def blkW (t : ByteArray) (a : Nat) : List Int := (List.range 16).map fun j => wordAt t (a + 4 * j)
theorem length_blkW (t : ByteArray) (a : Nat) : (blkW t a).length = 16 := by simp [blkW]
theorem blkW_get (t : ByteArray) (a j : Nat) (h : j < (blkW t a).length) : (blkW t a)[j] = wordAt t (a + 4 * j) := by simp [blkW]
/-- The state behind k blocks. -/
def mixN (t : ByteArray) (s : List Int) : Nat → List Int
  | 0 => s
  | k + 1 => mixL (mixN t s k) (blkW t (64 * k))
theorem length_mixN (t : ByteArray) (s : List Int) (k : Nat) (h : s.length = 8) : (mixN t s k).length = 8 := by
  cases k with
  | zero => exact h
  | succ k => exact length_mixL _ _
theorem mixN_ok (t : ByteArray) (s : List Int) (k : Nat) (h : wordsOk s) : wordsOk (mixN t s k) := by
  cases k with
  | zero => exact h
  | succ k => exact mixL_bd _ _
/-- The state behind all whole blocks. -/
def mixT (s : List Int) (t : ByteArray) : List Int := mixN t s (t.size / 64)
theorem length_mixT (s : List Int) (t : ByteArray) (h : s.length = 8) : (mixT s t).length = 8 := length_mixN _ _ _ h
theorem mixT_ok (s : List Int) (t : ByteArray) (h : wordsOk s) : wordsOk (mixT s t) := mixN_ok _ _ _ h
theorem start8_ok (t : Int) : wordsOk (start8 t) := start8_bd t

/-! The rest of a text. -/
theorem byteAt_extract (u : ByteArray) (a b i : Nat) (h : i < b - a) : byteAt (u.extract a b) i = byteAt u (a + i) := by
  unfold byteAt
  congr 2
  rw [ByteArray.data_extract, Array.toList_extract, List.extract_eq_take_drop, List.getD_eq_getElem?_getD, List.getD_eq_getElem?_getD, List.getElem?_take, if_pos h, List.getElem?_drop]
theorem byteAt_rest (u : ByteArray) (a i : Nat) : byteAt (u.extract a u.size) i = byteAt u (a + i) := by
  by_cases h : i < u.size - a
  · exact byteAt_extract u a u.size i h
  · unfold byteAt
    rw [List.getD_eq_getElem?_getD, List.getD_eq_getElem?_getD, List.getElem?_eq_none (by simp; omega), List.getElem?_eq_none (by simp; omega)]
/-- u is t from place a on. -/
def RestOf (t u : ByteArray) (a : Nat) : Prop := ∀ i, byteAt u i = byteAt t (a + i)
theorem RestOf.zero (t : ByteArray) : RestOf t t 0 := fun i => by rw [Nat.zero_add]
theorem RestOf.step {t u : ByteArray} {a : Nat} (h : RestOf t u a) (b : Nat) : RestOf t (u.extract b u.size) (a + b) := fun i => by
  rw [byteAt_rest, h, Nat.add_assoc]
theorem RestOf.word {t u : ByteArray} {a : Nat} (h : RestOf t u a) (j : Nat) : wordAt u j = wordAt t (a + j) := by
  unfold wordAt
  rw [h, h, h, h, Nat.add_assoc, Nat.add_assoc, Nat.add_assoc]
theorem RestOf.wordI {t u : ByteArray} {a : Nat} (h : RestOf t u a) {j : Nat} (hj : j < 16) (hs : 64 ≤ u.size) (hl : j < (blkW t a).length) : wordAtI u (4 * (j : Int)) = (blkW t a)[j] := by
  rw [blkW_get]
  unfold wordAtI
  rw [if_pos ⟨by omega, by omega⟩, show (4 * (j : Int)).toNat = 4 * j by omega, h.word]
theorem words_window (t : ByteArray) (a : Nat) (h : a + 64 ≤ t.size) : wordsTo (t.extract a (a + 64)) 16 = blkW t a := by
  unfold wordsTo blkW
  refine List.map_congr_left fun j hj => ?_
  rw [List.mem_range] at hj
  have hsz : (t.extract a (a + 64)).size = 64 := by simp; omega
  unfold wordAtI
  rw [if_pos ⟨by omega, by omega⟩, show (4 * (j : Int)).toNat = 4 * j by omega]
  unfold wordAt
  rw [byteAt_extract _ _ _ _ (by omega), byteAt_extract _ _ _ _ (by omega), byteAt_extract _ _ _ _ (by omega), byteAt_extract _ _ _ _ (by omega), Nat.add_assoc, Nat.add_assoc, Nat.add_assoc]
theorem words_window_good (t : ByteArray) (a : Nat) (h : a + 64 ≤ t.size) : wordsGood (t.extract a (a + 64)) = true ∧ wordsOf (t.extract a (a + 64)) = blkW t a := by
  have hsz : (t.extract a (a + 64)).size = 64 := by simp; omega
  have hg : wordsGood (t.extract a (a + 64)) = true := by unfold wordsGood; rw [hsz]; decide
  refine ⟨hg, ?_⟩
  unfold wordsOf
  rw [hg, if_pos rfl, hsz]
  exact words_window t a h
end Go.Proofs.Ytcebpfhokacccaa

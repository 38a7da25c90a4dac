/-
  Plain laws of feeding a text in pieces: what is fed piece by piece leads to the state, and the rest, of the whole.
-/
import Derived.Test.YtceeaejhlpdalaaFeedMore
import Derived.Test.YtceeaejhlpdalaaNew
import Derived.Test.YtceeaejhlpdalaaWider
import Derived.Deep.Cut
import Derived.Deep.CutRange
namespace Go.Proofs.Ytceeaejhlpdalaa
set_option linter.unusedVariables false
open Go.RowKit

theorem byteAt_left (a b : ByteArray) (i : Nat) (h : i < a.size) : byteAt (a ++ b) i = byteAt a i := by
  unfold byteAt
  have h' : i < a.data.toList.length := by simpa using h
  rw [ByteArray.data_append, Array.toList_append, List.getD_eq_getElem?_getD, List.getD_eq_getElem?_getD, List.getElem?_append_left h']
theorem wordAt_left (a b : ByteArray) (i : Nat) (h : i + 3 < a.size) : wordAt (a ++ b) i = wordAt a i := by
  unfold wordAt
  rw [byteAt_left a b i (by omega), byteAt_left a b (i + 1) (by omega), byteAt_left a b (i + 2) (by omega), byteAt_left a b (i + 3) (by omega)]
theorem blkW_left (a b : ByteArray) (i : Nat) (h : i + 64 ≤ a.size) : blkW (a ++ b) i = blkW a i := by
  unfold blkW
  refine List.map_congr_left fun j hj => ?_
  rw [List.mem_range] at hj
  exact wordAt_left a b _ (by omega)
theorem mixN_left (a b : ByteArray) (s : List Int) : ∀ k, 64 * k ≤ a.size → mixN (a ++ b) s k = mixN a s k
  | 0, _ => rfl
  | k + 1, h => by
    unfold mixN
    rw [mixN_left a b s k (by omega), blkW_left a b _ (by omega)]
theorem blkW_rest {t u : ByteArray} {a : Nat} (h : RestOf t u a) (i : Nat) : blkW u i = blkW t (a + i) := by
  unfold blkW
  refine List.map_congr_left fun j hj => ?_
  rw [h.word, Nat.add_assoc]
theorem mixN_rest {t u : ByteArray} (s : List Int) {k : Nat} (h : RestOf t u (64 * k)) : ∀ j, mixN u (mixN t s k) j = mixN t s (k + j)
  | 0 => rfl
  | j + 1 => by
    show mixL (mixN u (mixN t s k) j) (blkW u (64 * j)) = mixL (mixN t s (k + j)) (blkW t (64 * (k + j)))
    rw [mixN_rest s h j, blkW_rest h, Nat.mul_add]
/-- What is left behind the whole blocks. -/
def restT (t : ByteArray) : ByteArray := t.extract (t.size / 64 * 64) t.size
theorem restT_size (t : ByteArray) : (restT t).size = t.size % 64 := by
  unfold restT
  rw [ByteArray.size_extract]
  omega
theorem rest_append (u y : ByteArray) (q : Nat) (h : q ≤ u.size) : u.extract q u.size ++ y = (u ++ y).extract q (u ++ y).size := by
  apply ByteArray.ext
  apply Array.ext'
  rw [ByteArray.data_append, ByteArray.data_extract, ByteArray.data_extract, Array.toList_append, Array.toList_extract, Array.toList_extract, List.extract_eq_take_drop, List.extract_eq_take_drop, ByteArray.data_append, Array.toList_append]
  have e1 : u.data.toList.length = u.size := by simp
  have e2 : y.data.toList.length = y.size := by simp
  have e3 : (u ++ y).size = u.size + y.size := by simp
  rw [List.take_of_length_le (by rw [List.length_drop]; omega), List.take_of_length_le (by rw [List.length_drop, List.length_append]; omega), List.drop_append_of_le_length (by omega)]
theorem extract_rest (t : ByteArray) (q : Nat) (h : q ≤ t.size) (m : Nat) : (t.extract q t.size).extract m (t.extract q t.size).size = t.extract (q + m) t.size := by
  rw [ByteArray.extract_extract, ByteArray.size_extract]
  congr 1
  omega
/-- A piece more. -/
theorem feed_more (s : List Int) (u y : ByteArray) : mixT (mixT s u) (restT u ++ y) = mixT s (u ++ y) ∧ restT (restT u ++ y) = restT (u ++ y) := by
  have e1 : restT u ++ y = (u ++ y).extract (u.size / 64 * 64) (u ++ y).size := rest_append u y _ (by omega)
  have e2 : (u ++ y).size = u.size + y.size := by simp
  have e3 : (restT u ++ y).size = u.size % 64 + y.size := by rw [ByteArray.size_append, restT_size]
  constructor
  · have hr : RestOf (u ++ y) (restT u ++ y) (64 * (u.size / 64)) := by
      rw [e1, Nat.mul_comm]
      intro i
      exact byteAt_rest _ _ i
    show mixN (restT u ++ y) (mixN u s (u.size / 64)) ((restT u ++ y).size / 64) = mixN (u ++ y) s ((u ++ y).size / 64)
    rw [← mixN_left u y s (u.size / 64) (by omega), mixN_rest s hr, e2, e3]
    congr 1
    omega
  · have e4 : restT (restT u ++ y) = (restT u ++ y).extract ((restT u ++ y).size / 64 * 64) (restT u ++ y).size := rfl
    rw [e4, e1, extract_rest _ _ (by omega)]
    unfold restT
    rw [ByteArray.size_extract, e2]
    congr 1
    omega
theorem append_nil (t : ByteArray) : (⟨#[]⟩ : ByteArray) ++ t = t := by
  apply ByteArray.ext
  rw [ByteArray.data_append]
  simp
theorem three_parts (t : ByteArray) (a b : Nat) (h1 : a ≤ b) (h2 : b ≤ t.size) : t.extract 0 a ++ t.extract a b ++ t.extract b t.size = t := by
  apply ByteArray.ext
  apply Array.ext'
  rw [ByteArray.data_append, ByteArray.data_append, ByteArray.data_extract, ByteArray.data_extract, ByteArray.data_extract, Array.toList_append, Array.toList_append, Array.toList_extract, Array.toList_extract, Array.toList_extract, List.extract_eq_take_drop, List.extract_eq_take_drop, List.extract_eq_take_drop]
  have e1 : t.data.toList.length = t.size := by simp
  generalize t.data.toList = l at *
  rw [List.drop_zero, Nat.sub_zero, List.take_of_length_le (l := l.drop b) (by rw [List.length_drop]; omega)]
  have e2 : l.take a ++ (l.drop a).take (b - a) = l.take b := by
    conv => rhs; rw [show b = a + (b - a) by omega, List.take_add]
  rw [e2, List.take_append_drop]
/-- What a feed is that has been given the text u. -/
theorem feed_ok {a b : Int} {u : ByteArray} (ha : 1 ≤ a ∧ a ≤ 32) (hb : 0 ≤ b ∧ b ≤ 255) (hu : u.size ≤ 4000) : feedOk a b 8 (restT u) (u.size : Int) = true := by
  unfold feedOk inR
  have := restT_size u
  simp
  omega
/-- A piece more is fed: the contract in terms of the text that has been fed. -/
theorem i_More (a b : Int) (ha : 1 ≤ a ∧ a ≤ 32) (hb : 0 ≤ b ∧ b ≤ 255) (s : List Int) (hs : s.length = 8) (u x : ByteArray) (hx : u.size + x.size ≤ 4000) (A : Option Addr) (c B C : Nat) (w : World) (h : Own w B C 47 (.slice A 8 c) (ints .u32 (mixT s u))) :
    Calls Try.prog 13 #[.agg #[.int .i64 a, .int .i64 b, .slice A 8 c, .string (restT u), .int .i64 (u.size : Int)], .string x] w fun e w' => ∃ A' c', e = .returned (.tuple #[.agg #[.int .i64 a, .int .i64 b, .slice A' 8 c', .string (restT (u ++ x)), .int .i64 ((u ++ x).size : Int)], .bool true]) ∧ Below w.heap.size w w' ∧ Own w' w.heap.size w'.heap.size 47 (.slice A' 8 c') (ints .u32 (mixT s (u ++ x))) := by
  obtain ⟨f1, f2⟩ := feed_more s u x
  have hr := restT_size u
  have L : (mixT s u).length = 8 := length_mixT _ _ hs
  have := i_FeedMore_in a b (mixT s u) A c B C (restT u) (u.size : Int) x L (by omega) (by omega) (by omega) (by omega) (feed_ok ha hb (by omega)) w h
  have e1 : (restT u ++ x).extract ((restT u ++ x).size / 64 * 64) (restT u ++ x).size = restT (u ++ x) := f2
  have e2 : ((u.size : Int) + (x.size : Int)) = ((u ++ x).size : Int) := by simp
  rw [e1, f1, e2] at this
  exact this
end Go.Proofs.Ytceeaejhlpdalaa

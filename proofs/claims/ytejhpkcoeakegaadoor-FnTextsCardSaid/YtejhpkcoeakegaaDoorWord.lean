/-
  The walks of WordAt and WordText: four bytes as a word, a word as four bytes.
-/
import Derived.Test.YtejhpkcoeakegaaDoorPlain
import Derived.Test.YtejhpkcoeakegaaDoorRows
import Derived.WalkKit
import Derived.WalkLawsBesides
import Derived.WalkSpells
import Derived.LoopTactic
import Derived.Outline
import Derived.Laws.BytesArg
import Derived.Deep.QuietTactic
import Derived.BigQuiet
import Derived.IntWalk
namespace Go.Proofs.YtejhpkcoeakegaaDoor
set_option linter.unusedVariables false
open Go.RowKit

/-- The four bytes of a word. -/
def wordText (x : Int) : ByteArray := strOfNums [x / 16777216, x / 65536 % 256, x / 256 % 256, x % 256]

theorem run_four {P : Program} (T5 T9 T34 : TypeId) (h5 : P.underlying T5 = some (.int .u8)) (h9 : P.underlying T9 = some .string) (h34 : P.underlying T34 = some (.slice T5)) :
    ∀ (W : World) (a b c d : Int), (convert T34 T9 (.slice (some ⟨W.heap.size, 0, none⟩) 4 4)).run P (W.alloc (.cells #[.int .u8 a, .int .u8 b, .int .u8 c, .int .u8 d] T5)) =
      .ok (.string (strOfNums [a, b, c, d])) (W.alloc (.cells #[.int .u8 a, .int .u8 b, .int .u8 c, .int .u8 d] T5)) := by
  intro W a b c d
  refine run_convert_bytes_arg _ _ _ h34 h5 W.heap.size 0 4 4 [a, b, c, d] rfl ?_ _ h9
  intro i hi
  have : i = 0 ∨ i = 1 ∨ i = 2 ∨ i = 3 := by omega
  rcases this with rfl | rfl | rfl | rfl <;> simp [go_sem]

theorem i_WordText (x : Int) (h0 : 0 ≤ x) (h1 : x ≤ 4294967295) (w : World) :
    Calls Tryd.prog 33 #[.int .u32 x] w fun e w' => e = .returned (.string (wordText x)) ∧ Below w.heap.size w w' := by
  have kc := run_four (P := Tryd.prog) _ _ _ Tryd.underlying5 Tryd.underlying9 Tryd.underlying25
  go_enter Tryd.func33, Tryd.ntmps33
  go_wp2
  go_ret
  exact ⟨rfl, (Below.refl _ _).alloc (Nat.le_refl _) _⟩

/-- Byte i of a text, 0 beyond its end. -/
def byteAt (s : ByteArray) (i : Nat) : Int := ((s.data.toList.getD i 0).toNat : Int)
theorem byteAt_of (s : ByteArray) (i : Nat) (h : i < s.size) : ((s[i]'h).toNat : Int) = byteAt s i := by
  have h' : i < s.data.toList.length := by simpa using h
  unfold byteAt
  rw [List.getD_eq_getElem?_getD, List.getElem?_eq_getElem h']
  rfl
theorem byteAt_lo (s : ByteArray) (i : Nat) : 0 ≤ byteAt s i := by unfold byteAt; omega
theorem byteAt_hi (s : ByteArray) (i : Nat) : byteAt s i ≤ 255 := by
  unfold byteAt
  have := (s.data.toList.getD i 0).toNat_lt
  omega
/-- The word that lies in a text at a place. -/
def wordAt (s : ByteArray) (a : Nat) : Int := byteAt s a * 16777216 + byteAt s (a + 1) * 65536 + byteAt s (a + 2) * 256 + byteAt s (a + 3)
def wordAtI (s : ByteArray) (a : Int) : Int := if 0 ≤ a ∧ a + 4 ≤ s.size then wordAt s a.toNat else 0

/-- Its first j bytes. -/
def wordPre (s : ByteArray) (a : Nat) : Nat → Int
  | 0 => 0
  | j + 1 => wordPre s a j * 256 + byteAt s (a + j)

theorem wordPre_bd (s : ByteArray) (a : Nat) : 0 ≤ wordPre s a 0 ∧ wordPre s a 0 ≤ 0 ∧ 0 ≤ wordPre s a 1 ∧ wordPre s a 1 ≤ 255 ∧ 0 ≤ wordPre s a 2 ∧ wordPre s a 2 ≤ 65535 ∧ 0 ≤ wordPre s a 3 ∧ wordPre s a 3 ≤ 16777215 := by
  have h0 := byteAt_lo s a; have h1 := byteAt_lo s (a + 1); have h2 := byteAt_lo s (a + 2)
  have g0 := byteAt_hi s a; have g1 := byteAt_hi s (a + 1); have g2 := byteAt_hi s (a + 2)
  simp only [wordPre, Nat.add_zero] at *
  omega
theorem wordPre_four (s : ByteArray) (a : Nat) : wordPre s a 4 = wordAt s a := by
  simp only [wordPre, wordAt, Nat.add_zero]
  omega
theorem wordPre_step (s : ByteArray) (a j : Nat) (hj : j < 4) (h : a + j < s.size) : (wordPre s a j * 256 % 4294967296 + ((s[a + j]'h).toNat : Int) % 4294967296) % 4294967296 = wordPre s a (j + 1) := by
  rw [byteAt_of]
  have hb := wordPre_bd s a
  have h0 := byteAt_lo s (a + j); have g0 := byteAt_hi s (a + j)
  have : j = 0 ∨ j = 1 ∨ j = 2 ∨ j = 3 := by omega
  show _ = wordPre s a j * 256 + byteAt s (a + j)
  rcases this with rfl | rfl | rfl | rfl <;> omega

theorem or_bytes (b0 b1 b2 b3 : Nat) (h0 : b0 < 256) (h1 : b1 < 256) (h2 : b2 < 256) (h3 : b3 < 256) :
    bits .or .u32 (bits .or .u32 (bits .or .u32 ((b0 : Int) % 4294967296 * 16777216 % 4294967296) ((b1 : Int) % 4294967296 * 65536 % 4294967296)) ((b2 : Int) % 4294967296 * 256 % 4294967296)) ((b3 : Int) % 4294967296) =
      (b0 : Int) * 16777216 + b1 * 65536 + b2 * 256 + b3 := by
  have w0 : ((b0 : Int) % 4294967296 * 16777216 % 4294967296) = ((b0 * 16777216 : Nat) : Int) := by omega
  have w1 : ((b1 : Int) % 4294967296 * 65536 % 4294967296) = ((b1 * 65536 : Nat) : Int) := by omega
  have w2 : ((b2 : Int) % 4294967296 * 256 % 4294967296) = ((b2 * 256 : Nat) : Int) := by omega
  have w3 : ((b3 : Int) % 4294967296) = (b3 : Int) := by omega
  rw [w0, w1, w2, w3, u32_or_nat _ _ (by omega) (by omega), nat_join 24 _ _ (by omega) (by omega), u32_or_nat _ _ (by omega) (by omega), nat_join 16 _ _ (by omega) (by omega),
    u32_or_nat _ _ (by omega) (by omega), nat_join 8 _ _ (by omega) (by omega)]
  omega

theorem i_WordAt_in (s : ByteArray) (a : Nat) (hs : s.size ≤ 9223372036854775807) (h : a + 4 ≤ s.size) (w : World) :
    Calls Tryd.prog 31 #[.string s, .int .i64 (a : Int)] w fun e w' => e = .returned (.int .u32 (wordAt s a)) ∧ Below w.heap.size w w' := by
  have h2 : (a : Int) ≤ (s.size : Int) - 4 := by omega
  have g0 : (a : Int) < s.size := by omega
  have g1 : (a : Int) + 1 < s.size := by omega
  have g2 : (a : Int) + 2 < s.size := by omega
  have g3 : (a : Int) + 3 < s.size := by omega
  have e1 : IntKind.i64.wrap ((a : Int) + 1) = (a : Int) + 1 := IntWalk.i64_in _ (by omega)
  have e2 : IntKind.i64.wrap ((a : Int) + 2) = (a : Int) + 2 := IntWalk.i64_in _ (by omega)
  have e3 : IntKind.i64.wrap ((a : Int) + 3) = (a : Int) + 3 := IntWalk.i64_in _ (by omega)
  have z1 : 0 ≤ (a : Int) + 1 := by omega
  have z2 : 0 ≤ (a : Int) + 2 := by omega
  have z3 : 0 ≤ (a : Int) + 3 := by omega
  have t1 : ((a : Int) + 1).toNat = a + 1 := by omega
  have t2 : ((a : Int) + 2).toNat = a + 2 := by omega
  have t3 : ((a : Int) + 3).toNat = a + 3 := by omega
  go_enter Tryd.func31, Tryd.ntmps31
  go_wp2
  go_quiet (fail)
  go_wp2
  go_ret
  refine ⟨ret_int ?_, bel_drewN (Below.refl _ _) _⟩
  rw [or_bytes _ _ _ _ (UInt8.toNat_lt _) (UInt8.toNat_lt _) (UInt8.toNat_lt _) (UInt8.toNat_lt _), byteAt_of, byteAt_of, byteAt_of, byteAt_of]
  rfl
theorem i_WordAt_out (s : ByteArray) (a : Int) (hs : s.size ≤ 9223372036854775807) (h : a < 0 ∨ (s.size : Int) < a + 4) (w : World) :
    Calls Tryd.prog 31 #[.string s, .int .i64 a] w fun e w' => e = .returned (.int .u32 0) ∧ Below w.heap.size w w' := by
  by_cases h1 : a < 0
  · go_enter Tryd.func31, Tryd.ntmps31
    go_wp2
    go_ret
    exact ⟨rfl, Below.refl _ _⟩
  · have h2 : (s.size : Int) - 4 < a := by omega
    go_enter Tryd.func31, Tryd.ntmps31
    go_wp2
    go_ret
    exact ⟨rfl, Below.refl _ _⟩
theorem i_WordAt (s : ByteArray) (a : Int) (hs : s.size ≤ 9223372036854775807) (w : World) :
    Calls Tryd.prog 31 #[.string s, .int .i64 a] w fun e w' => e = .returned (.int .u32 (wordAtI s a)) ∧ Below w.heap.size w w' := by
  unfold wordAtI
  by_cases h : 0 ≤ a ∧ a + 4 ≤ s.size
  · rw [if_pos h]
    obtain ⟨A, rfl⟩ := Int.eq_ofNat_of_zero_le h.1
    exact i_WordAt_in s A hs (by omega) w
  · rw [if_neg h]
    exact i_WordAt_out s a hs (by omega) w
end Go.Proofs.YtejhpkcoeakegaaDoor

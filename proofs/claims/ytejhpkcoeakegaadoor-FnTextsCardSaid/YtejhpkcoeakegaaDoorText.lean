/-
  The texts that are hashed: an octet, a pair, a short text; the receipt's text and the leaf's.
-/
import Derived.Test.YtejhpkcoeakegaaDoorWord
import Derived.Test.YtejhpkcoeakegaaDoorRec
import Derived.Test.YtejhpkcoeakegaaDoorBase
import Derived.Deep.RegionHeld3
import Derived.Handy
namespace Go.Proofs.YtejhpkcoeakegaaDoor
set_option linter.unusedVariables false
open Go.RowKit

def one (a : Int) : ByteArray := strOfNums [a]
theorem one_size (a : Int) : (one a).size = 1 := strOfNums_size _
def oct (x : Int) : ByteArray := one (x % 256)
theorem oct_size (a : Int) : (oct a).size = 1 := one_size _
theorem big_not {n : Nat} (h : n ≤ 1000000) : ¬ 9223372036854775807 < n := by omega
def pairT (x : Int) : ByteArray := oct (x / 256) ++ oct x
def shortT (s : ByteArray) : ByteArray := oct s.size ++ s
theorem pairT_size (x : Int) : (pairT x).size = 2 := by simp [pairT, oct_size]
theorem shortT_size (s : ByteArray) : (shortT s).size = s.size + 1 := by simp [shortT, oct_size, Nat.add_comm]
theorem str_empty (s : ByteArray) : s ++ (⟨#[]⟩ : ByteArray) = s := ByteArray.append_empty
theorem run_one {P : Program} (T5 T9 T34 : TypeId) (h5 : P.underlying T5 = some (.int .u8)) (h9 : P.underlying T9 = some .string) (h34 : P.underlying T34 = some (.slice T5)) :
    ∀ (W : World) (a : Int) (b : Nat), b = W.heap.size → (convert T34 T9 (.slice (some ⟨b, 0, none⟩) 1 1)).run P (W.alloc (.cells #[.int .u8 a] T5)) =
      .ok (.string (one a)) (W.alloc (.cells #[.int .u8 a] T5)) := by
  rintro W a b rfl
  refine run_convert_bytes_arg _ _ _ h34 h5 W.heap.size 0 1 1 [a] rfl ?_ _ h9
  intro i hi
  have : i = 0 := by omega
  rcases this with rfl; simp [go_sem]

theorem name_size {s : ByteArray} (h : nameOk s = true) : s.size ≤ 20 := by
  simp only [nameOk, inR, Bool.and_eq_true, decide_eq_true_eq] at h
  omega
theorem bel_drew {B : Nat} {a w : World} (h : Below B a w) : Below B a w.drew := h.trans ⟨rfl, rfl, rfl, Nat.le_refl _, fun _ _ => rfl⟩
theorem keep3 {W w w1 : World} {N : Nat} {c0 c1 c2 : Value} (h : w.cell? ⟨N, 0, none⟩ = some c0 ∧ w.cell? ⟨N, 1, none⟩ = some c1 ∧ w.cell? ⟨N, 2, none⟩ = some c2 ∧ Below N W w) (hb : Below w.heap.size w w1) (hN : N ≤ W.heap.size) :
    w1.cell? ⟨N, 0, none⟩ = some c0 ∧ w1.cell? ⟨N, 1, none⟩ = some c1 ∧ w1.cell? ⟨N, 2, none⟩ = some c2 ∧ Below N W w1 := by
  have hl := cell_lt h.1
  have k := (bcell hb).1
  exact ⟨by rw [k _ _ hl]; exact h.1, by rw [k _ _ hl]; exact h.2.1, by rw [k _ _ hl]; exact h.2.2.1, bel_new h.2.2.2 hb (by simp at hl; omega)⟩
theorem keep5 {W w w1 : World} {N : Nat} {c0 c1 c2 c3 c4 : Value} (h : w.cell? ⟨N, 0, none⟩ = some c0 ∧ w.cell? ⟨N, 1, none⟩ = some c1 ∧ w.cell? ⟨N, 2, none⟩ = some c2 ∧ w.cell? ⟨N, 3, none⟩ = some c3 ∧ w.cell? ⟨N, 4, none⟩ = some c4 ∧ Below N W w) (hb : Below w.heap.size w w1) :
    w1.cell? ⟨N, 0, none⟩ = some c0 ∧ w1.cell? ⟨N, 1, none⟩ = some c1 ∧ w1.cell? ⟨N, 2, none⟩ = some c2 ∧ w1.cell? ⟨N, 3, none⟩ = some c3 ∧ w1.cell? ⟨N, 4, none⟩ = some c4 ∧ Below N W w1 := by
  have hl := cell_lt h.1
  have k := (bcell hb).1
  exact ⟨by rw [k _ _ hl]; exact h.1, by rw [k _ _ hl]; exact h.2.1, by rw [k _ _ hl]; exact h.2.2.1, by rw [k _ _ hl]; exact h.2.2.2.1, by rw [k _ _ hl]; exact h.2.2.2.2.1, bel_new h.2.2.2.2.2 hb (by simp at hl; omega)⟩
/-- The receipt's text. -/
def receiptText (r t : ByteArray) (n : Int) : ByteArray := if receiptOk r t n then ⟨#[82]⟩ ++ shortT r ++ shortT t ++ pairT n else ByteArray.empty
theorem ret_two {a b c d : Value} (h1 : a = c) (h2 : b = d) : Ending.returned (.tuple #[a, b]) = .returned (.tuple #[c, d]) := by rw [h1, h2]
theorem keep5d {W w : World} {N : Nat} {c0 c1 c2 c3 c4 : Value} (h : w.cell? ⟨N, 0, none⟩ = some c0 ∧ w.cell? ⟨N, 1, none⟩ = some c1 ∧ w.cell? ⟨N, 2, none⟩ = some c2 ∧ w.cell? ⟨N, 3, none⟩ = some c3 ∧ w.cell? ⟨N, 4, none⟩ = some c4 ∧ Below N W w) :
    w.drew.cell? ⟨N, 0, none⟩ = some c0 ∧ w.drew.cell? ⟨N, 1, none⟩ = some c1 ∧ w.drew.cell? ⟨N, 2, none⟩ = some c2 ∧ w.drew.cell? ⟨N, 3, none⟩ = some c3 ∧ w.drew.cell? ⟨N, 4, none⟩ = some c4 ∧ Below N W w.drew :=
  ⟨h.1, h.2.1, h.2.2.1, h.2.2.2.1, h.2.2.2.2.1, bel_drew h.2.2.2.2.2⟩
theorem wordText_size (x : Int) : (wordText x).size = 4 := strOfNums_size _
/-- The leaf's text. -/
def leafText (t : ByteArray) (i tm : Int) (k b : ByteArray) : ByteArray := if entryOk t i tm k b then ⟨#[69]⟩ ++ shortT t ++ pairT i ++ wordText tm ++ shortT k ++ pairT b.size ++ b else ByteArray.empty
end Go.Proofs.YtejhpkcoeakegaaDoor

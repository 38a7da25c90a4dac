/-
  The walks of NameOk: each byte is a letter, a figure or a dash, and there are 1 to 20 of them.
-/
import Derived.Test.YtejhpkcoeakegaaDoorSmall
import Derived.LoopTactic
namespace Go.Proofs.YtejhpkcoeakegaaDoor
set_option linter.unusedVariables false
open Go.RowKit

/-- May this byte stand in a name? -/
def okByte (b : Int) : Bool := decide (97 ≤ b ∧ b ≤ 122) || decide (48 ≤ b ∧ b ≤ 57) || decide (b = 45)
def bytesOk (l : List UInt8) : Bool := l.all fun b => okByte (b.toNat : Int)
/-- NameOk. -/
def nameOk (s : ByteArray) : Bool := bytesOk s.data.toList && inR s.size 1 20

theorem bytesOk_false {s : ByteArray} {j : Nat} (hj : j < s.size) (h : okByte ((s[j]'hj).toNat : Int) = false) : nameOk s = false := by
  have h' : j < s.data.toList.length := by simpa using hj
  have hb : bytesOk s.data.toList = false := by
    unfold bytesOk
    rw [List.all_eq_false]
    exact ⟨s.data.toList[j], List.getElem_mem h', ne_true_of_eq_false h⟩
  simp [nameOk, hb]
theorem bytesOk_take {s : ByteArray} {j : Nat} (hj : j < s.size) (h : bytesOk (s.data.toList.take j) = true) (hb : okByte ((s[j]'hj).toNat : Int) = true) : bytesOk (s.data.toList.take (j + 1)) = true := by
  have h' : j < s.data.toList.length := by simpa using hj
  rw [List.take_succ_eq_append_getElem h']
  unfold bytesOk at *
  rw [List.all_append, h, Bool.true_and, List.all_cons, List.all_nil, Bool.and_true]
  exact hb
theorem nameOk_end {s : ByteArray} (h : bytesOk (s.data.toList.take s.size) = true) : nameOk s = inR s.size 1 20 := by
  rw [List.take_of_length_le (by simp)] at h
  simp [nameOk, h]

theorem okCases (b : Int) : (okByte b = true ∧ ((97 ≤ b ∧ b ≤ 122 ∧ (b == 45) = false) ∨ (48 ≤ b ∧ b ≤ 57 ∧ (b == 45) = false) ∨ (b ≤ 47 ∧ True ∧ (b == 45) = true))) ∨
    (okByte b = false ∧ (b == 45) = false ∧ ((b < 48 ∧ decide (b ≤ 57) = true ∧ decide (b ≤ 122) = true) ∨ (57 < b ∧ b < 97 ∧ decide (b ≤ 57) = false ∧ decide (b ≤ 122) = true) ∨ (122 < b ∧ decide (b ≤ 57) = false ∧ decide (b ≤ 122) = false))) := by
  by_cases h1 : 97 ≤ b ∧ b ≤ 122
  · exact .inl ⟨by simp [okByte, h1], .inl ⟨h1.1, h1.2, by simp; omega⟩⟩
  by_cases h2 : 48 ≤ b ∧ b ≤ 57
  · exact .inl ⟨by simp [okByte, h2], .inr (.inl ⟨h2.1, h2.2, by simp; omega⟩)⟩
  by_cases h3 : b = 45
  · exact .inl ⟨by simp [okByte, h3], .inr (.inr ⟨by omega, trivial, by simp [h3]⟩)⟩
  · refine .inr ⟨by simp [okByte, h1, h2, h3], by simp [h3], ?_⟩
    simp
    omega

end Go.Proofs.YtejhpkcoeakegaaDoor

/-
  The walks of NodeHash, EmptyRoot, LeafHash, ReceiptHash.
-/
import Derived.Test.YtceeaejhlpdalaaDigest
namespace Go.Proofs.Ytceeaejhlpdalaa
set_option linter.unusedVariables false
open Go.RowKit

/-- The hash of two hashes, and that of no leaf. -/
def nodeT (w : Nat) (l r : ByteArray) : ByteArray := digT w 1 (l ++ r)
def emptyT (w : Nat) : ByteArray := digT w 5 ⟨#[]⟩
theorem nodeT_size (w : Nat) (l r : ByteArray) (h : w ≤ 32) : (nodeT w l r).size = w := digT_size _ _ _ h
theorem emptyT_size (w : Nat) (h : w ≤ 32) : (emptyT w).size = w := digT_size _ _ _ h
def nodeOk (w : Int) (l r : ByteArray) : Bool := inR w 1 32 && ((l.size : Int) == w) && ((r.size : Int) == w)
def nodeI (w : Int) (l r : ByteArray) : ByteArray := if nodeOk w l r then nodeT w.toNat l r else ⟨#[]⟩
theorem nodeCases (w : Int) (l r : ByteArray) : (nodeOk w l r = true ∧ inR w 1 32 = true ∧ (l.size : Int) = w ∧ (r.size : Int) = w) ∨
    (nodeOk w l r = false ∧ (inR w 1 32 = false ∨ (inR w 1 32 = true ∧ ((l.size : Int) != w) = true) ∨ (inR w 1 32 = true ∧ ((l.size : Int) != w) = false ∧ ((r.size : Int) != w) = true))) := by
  unfold nodeOk
  cases h1 : inR w 1 32
  · exact .inr ⟨rfl, .inl rfl⟩
  · by_cases h2 : (l.size : Int) = w
    · by_cases h3 : (r.size : Int) = w
      · exact .inl ⟨by simp [h2, h3], rfl, h2, h3⟩
      · exact .inr ⟨by simp [h3], .inr (.inr ⟨rfl, by simp [h2], by simpa using h3⟩)⟩
    · exact .inr ⟨by simp [h2], .inr (.inl ⟨rfl, by simpa using h2⟩)⟩
theorem digI_in (w : Nat) (h1 : 1 ≤ w) (h32 : w ≤ 32) (tag : Int) (ht0 : 0 ≤ tag) (ht1 : tag ≤ 255) (t : ByteArray) (ht : t.size ≤ 4000) : digOk (w : Int) tag t.size = true ∧ digI (w : Int) tag t = digT w tag t := by
  have h : digOk (w : Int) tag t.size = true := by
    unfold digOk
    rw [inR_true (by omega) (by omega), inR_true ht0 ht1]
    simp [ht]
  refine ⟨h, ?_⟩
  unfold digI
  rw [h, if_pos rfl, Int.toNat_natCast]
/-- LeafHash and ReceiptHash. -/
def leafHashOk (w : Int) (t : ByteArray) (i tm : Int) (k b : ByteArray) : Bool := entryOk t i tm k b && digOk w 0 (leafText t i tm k b).size
def leafHashI (w : Int) (t : ByteArray) (i tm : Int) (k b : ByteArray) : ByteArray := if entryOk t i tm k b then digI w 0 (leafText t i tm k b) else ⟨#[]⟩
def receiptHashOk (w : Int) (r t : ByteArray) (n : Int) : Bool := receiptOk r t n && digOk w 2 (receiptText r t n).size
def receiptHashI (w : Int) (r t : ByteArray) (n : Int) : ByteArray := if receiptOk r t n then digI w 2 (receiptText r t n) else ⟨#[]⟩
theorem leafText_size (t : ByteArray) (i tm : Int) (k b : ByteArray) : (leafText t i tm k b).size ≤ 9223372036854775807 := by
  unfold leafText
  split
  · rename_i h
    simp only [entryOk, Bool.and_eq_true, decide_eq_true_eq] at h
    obtain ⟨⟨⟨⟨h1, h2⟩, h3⟩, h4⟩, h5⟩ := h
    have := name_size h1
    simp only [ByteArray.size_append, shortT_size, pairT_size, wordText_size]
    have : (⟨#[69]⟩ : ByteArray).size = 1 := rfl
    omega
  · exact Nat.zero_le _
theorem receiptText_size (r t : ByteArray) (n : Int) : (receiptText r t n).size ≤ 9223372036854775807 := by
  unfold receiptText
  split
  · rename_i h
    simp only [receiptOk, Bool.and_eq_true] at h
    obtain ⟨⟨h1, h2⟩, h3⟩ := h
    have := name_size h1
    have := name_size h2
    simp only [ByteArray.size_append, shortT_size, pairT_size]
    have : (⟨#[82]⟩ : ByteArray).size = 1 := rfl
    omega
  · exact Nat.zero_le _
end Go.Proofs.Ytceeaejhlpdalaa

/-
  The walks of NodeHash, EmptyRoot, LeafHash, ReceiptHash.
-/
import Derived.Test.YtcebpfhokacccaaDigest
namespace Go.Proofs.Ytcebpfhokacccaa
set_option linter.unusedVariables false
open Go.RowKit

/-- The hash of two hashes, and that of no leaf. -/
def nodeT (w : Nat) (l r : ByteArray) : ByteArray := digT w 1 (l ++ r)
def emptyT (w : Nat) : ByteArray := digT w 5 ⟨#[]⟩
theorem nodeT_size (w : Nat) (l r : ByteArray) (h : w ≤ 32) : (nodeT w l r).size = w := digT_size _ _ _ h
theorem emptyT_size (w : Nat) (h : w ≤ 32) : (emptyT w).size = w := digT_size _ _ _ h
def nodeOk (w : Int) (l r : ByteArray) : Bool := inR w 1 32 && ((l.size : Int) == w) && ((r.size : Int) == w)
def nodeI (w : Int) (l r : ByteArray) : ByteArray := if nodeOk w l r then nodeT w.toNat l r else ⟨#[]⟩
theorem nodeCases (w : Int) (l r : ByteArray) : (nodeOk w l r = true ∧ inR w 1 32 = true ∧ (l.size : Int) = w ∧ (r.size : Int) = w) ∨
    (nodeOk w l r = false ∧ (inR w 1 32 = false ∨ (inR w 1 32 = true ∧ ((l.size : Int) != w) = true) ∨ (inR w 1 32 = true ∧ ((l.size : Int) != w) = false ∧ ((r.size : Int) != w) = true))) := by
  unfold nodeOk
  cases h1 : inR w 1 32
  · exact .inr ⟨rfl, .inl rfl⟩
  · by_cases h2 : (l.size : Int) = w
    · by_cases h3 : (r.size : Int) = w
      · exact .inl ⟨by simp [h2, h3], rfl, h2, h3⟩
      · exact .inr ⟨by simp [h3], .inr (.inr ⟨rfl, by simp [h2], by simpa using h3⟩)⟩
    · exact .inr ⟨by simp [h2], .inr (.inl ⟨rfl, by simpa using h2⟩)⟩
theorem i_node (w : Nat) (h1 : 1 ≤ w) (h32 : w ≤ 32) (l r : ByteArray) (hl : l.size + r.size ≤ 4000) (W : World) :
    Calls Try.prog 38 #[.int .i64 (w : Int), .string l, .string r] W fun e w' => e = .returned (.string (nodeT w l r)) ∧ Below W.heap.size W w' := by
  have g : ¬ 9223372036854775807 < l.size + r.size := by omega
  have C0 := hide (i_Digest_in w h1 h32 1 (by omega) (by omega) (l ++ r) (by simpa using hl))
  go_enter Try.func38, Try.ntmps38
  go_wp2_with (go_at_call 48; refine (C0.out _).mono ?_; rintro e w1 ⟨rfl, hb1⟩; have B1 := hide hb1; clear hb1)
  go_ret
  exact ⟨rfl, B1.out⟩
theorem i_NodeHash (w : Int) (l r : ByteArray) (W : World) :
    Calls Try.prog 18 #[.int .i64 w, .string l, .string r] W fun e w' => e = .returned (.tuple #[.string (nodeI w l r), .bool (nodeOk w l r)]) ∧ Below W.heap.size W w' := by
  rcases nodeCases w l r with ⟨h, h1, h2, h3⟩ | ⟨h, hc⟩
  · unfold nodeI
    rw [h, if_pos rfl]
    obtain ⟨a1, a2⟩ := inR_spec h1
    obtain ⟨N, rfl⟩ := Int.eq_ofNat_of_zero_le (show 0 ≤ w by omega)
    have d2 : ((l.size : Int) != (N : Int)) = false := by simpa using h2
    have d3 : ((r.size : Int) != (N : Int)) = false := by simpa using h3
    have C0 := hide (i_node N (by omega) (by omega) l r (by omega))
    rw [Int.toNat_natCast]
    clear h h2 h3
    go_enter Try.func18, Try.ntmps18
    go_wp2_with (first | (go_at_call 30; refine (i_isWidth _ _).mono ?_; rintro e w1 ⟨rfl, rfl⟩) | (go_at_call 38; refine (C0.out _).mono ?_; rintro e w1 ⟨rfl, hb1⟩; have B1 := hide hb1; clear hb1))
    go_ret2
    exact ⟨rfl, B1.out⟩
  · have e1 : nodeI w l r = ⟨#[]⟩ := by unfold nodeI; rw [h]; rfl
    rw [e1, h]
    clear e1 h
    rcases hc with h1 | ⟨h1, d2⟩ | ⟨h1, d2, d3⟩
    all_goals
      go_enter Try.func18, Try.ntmps18
      go_wp2_with (go_at_call 30; refine (i_isWidth _ _).mono ?_; rintro e w1 ⟨rfl, rfl⟩)
      go_ret2
      exact ⟨rfl, Below.refl _ _⟩
theorem i_EmptyRoot (w : Int) (W : World) :
    Calls Try.prog 51 #[.int .i64 w] W fun e w' => e = .returned (.tuple #[.string (digI w 5 ⟨#[]⟩), .bool (digOk w 5 0)]) ∧ Below W.heap.size W w' := by
  have C0 : ∀ W, Calls Try.prog 48 #[.int .i64 w, .int .i64 5, .string ⟨#[]⟩] W fun e w' => e = .returned (.tuple #[.string (digI w 5 ⟨#[]⟩), .bool (digOk w 5 0)]) ∧ Below W.heap.size W w' := i_Digest w 5 ⟨#[]⟩ (Nat.zero_le _)
  replace C0 := hide C0
  go_enter Try.func51, Try.ntmps51
  go_wp2_with (go_at_call 48; refine (C0.out _).mono ?_; rintro e w1 ⟨rfl, hb1⟩; have B1 := hide hb1; clear hb1)
  go_ret2
  exact ⟨rfl, B1.out⟩
theorem digI_in (w : Nat) (h1 : 1 ≤ w) (h32 : w ≤ 32) (tag : Int) (ht0 : 0 ≤ tag) (ht1 : tag ≤ 255) (t : ByteArray) (ht : t.size ≤ 4000) : digOk (w : Int) tag t.size = true ∧ digI (w : Int) tag t = digT w tag t := by
  have h : digOk (w : Int) tag t.size = true := by
    unfold digOk
    rw [inR_true (by omega) (by omega), inR_true ht0 ht1]
    simp [ht]
  refine ⟨h, ?_⟩
  unfold digI
  rw [h, if_pos rfl, Int.toNat_natCast]
theorem i_emptyRoot (w : Nat) (h1 : 1 ≤ w) (h32 : w ≤ 32) (W : World) :
    Calls Try.prog 45 #[.int .i64 (w : Int)] W fun e w' => e = .returned (.string (emptyT w)) ∧ Below W.heap.size W w' := by
  have C0 := i_EmptyRoot (w : Int)
  rw [(digI_in w h1 h32 5 (by omega) (by omega) ⟨#[]⟩ (Nat.zero_le _)).2] at C0
  replace C0 := hide C0
  go_enter Try.func45, Try.ntmps45
  go_wp2_with (go_at_call 51; refine (C0.out _).mono ?_; rintro e w1 ⟨rfl, hb1⟩; have B1 := hide hb1; clear hb1)
  go_ret
  exact ⟨rfl, B1.out⟩
/-- LeafHash and ReceiptHash. -/
def leafHashOk (w : Int) (t : ByteArray) (i tm : Int) (k b : ByteArray) : Bool := entryOk t i tm k b && digOk w 0 (leafText t i tm k b).size
def leafHashI (w : Int) (t : ByteArray) (i tm : Int) (k b : ByteArray) : ByteArray := if entryOk t i tm k b then digI w 0 (leafText t i tm k b) else ⟨#[]⟩
def receiptHashOk (w : Int) (r t : ByteArray) (n : Int) : Bool := receiptOk r t n && digOk w 2 (receiptText r t n).size
def receiptHashI (w : Int) (r t : ByteArray) (n : Int) : ByteArray := if receiptOk r t n then digI w 2 (receiptText r t n) else ⟨#[]⟩
theorem leafText_size (t : ByteArray) (i tm : Int) (k b : ByteArray) : (leafText t i tm k b).size ≤ 9223372036854775807 := by
  unfold leafText
  split
  · rename_i h
    simp only [entryOk, Bool.and_eq_true, decide_eq_true_eq] at h
    obtain ⟨⟨⟨⟨h1, h2⟩, h3⟩, h4⟩, h5⟩ := h
    have := name_size h1
    simp only [ByteArray.size_append, shortT_size, pairT_size, wordText_size]
    have : (⟨#[69]⟩ : ByteArray).size = 1 := rfl
    omega
  · exact Nat.zero_le _
theorem receiptText_size (r t : ByteArray) (n : Int) : (receiptText r t n).size ≤ 9223372036854775807 := by
  unfold receiptText
  split
  · rename_i h
    simp only [receiptOk, Bool.and_eq_true] at h
    obtain ⟨⟨h1, h2⟩, h3⟩ := h
    have := name_size h1
    have := name_size h2
    simp only [ByteArray.size_append, shortT_size, pairT_size]
    have : (⟨#[82]⟩ : ByteArray).size = 1 := rfl
    omega
  · exact Nat.zero_le _
end Go.Proofs.Ytcebpfhokacccaa

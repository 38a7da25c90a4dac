/-
  Plain laws on heights, halves and peaks of a number of leaves. No program in sight.
-/
import Derived.Test.YtcebpfhokacccaaBase
import Derived.Lib.BitFns
namespace Go.Proofs.Ytcebpfhokacccaa
set_option linter.unusedVariables false
open Go.RowKit

/-- The greatest power of two below n (n at least 2). -/
def halfOf (n : Nat) : Nat := 2 ^ Nat.log2 (n - 1)
theorem half_uniq {n p : Nat} (h2 : 2 ≤ n) (hp : ∃ j, p = 2 ^ j) (h : p < n) (h' : n ≤ 2 * p) : p = halfOf n := by
  obtain ⟨j, rfl⟩ := hp
  have : Nat.log2 (n - 1) = j := (Nat.log2_eq_iff (by omega)).2 ⟨by omega, by rw [Nat.pow_succ]; omega⟩
  rw [halfOf, this]
theorem half_spec {n : Nat} (h2 : 2 ≤ n) : 0 < halfOf n ∧ halfOf n < n ∧ n ≤ 2 * halfOf n := by
  obtain ⟨h3, h4⟩ := (Nat.log2_eq_iff (n := n - 1) (k := Nat.log2 (n - 1)) (by omega)).1 rfl
  unfold halfOf
  rw [Nat.pow_succ] at h4
  exact ⟨Nat.two_pow_pos _, by omega, by omega⟩

theorem bitLen_log2 : ∀ (f x : Nat), x ≠ 0 → x < 2 ^ f → Lib.bitLenAux f x = Nat.log2 x + 1 := by
  intro f
  induction f with
  | zero => intro x h0 h; simp at h; exact absurd h h0
  | succ f ih =>
    intro x h0 h
    rw [Lib.bitLenAux, if_neg h0]
    by_cases h1 : x / 2 = 0
    · have : x = 1 := by omega
      subst this
      have hf : Lib.bitLenAux f 0 = 0 := by cases f <;> simp [Lib.bitLenAux]
      have hl : Nat.log2 1 = 0 := by decide
      rw [show 1 / 2 = 0 from rfl, hf, hl]
    · have h2 : 2 ≤ x := by omega
      rw [ih (x / 2) h1 (by rw [Nat.pow_succ] at h; omega), Nat.log2_def x, if_pos h2]
      omega
theorem bitLen_eq (x : Nat) (h0 : x ≠ 0) (h : x < 2 ^ 64) : Lib.bitLen x = Nat.log2 x + 1 := bitLen_log2 64 x h0 h

/-- HalfOf as a function of any number. -/
def halfI (n : Int) : Int := if 2 ≤ n ∧ n ≤ 512 then (halfOf n.toNat : Int) else 0

/-- The least h with n ≤ 2 ^ h. -/
def heightOf (n : Nat) : Nat := if n ≤ 1 then 0 else Nat.log2 (n - 1) + 1
theorem height_uniq {n h : Nat} (h1 : n ≤ 2 ^ h) (h2 : ∀ j, j < h → 2 ^ j < n) : h = heightOf n := by
  unfold heightOf
  split
  · rename_i hn
    rcases Nat.eq_zero_or_pos h with h0 | h0
    · exact h0
    · have := h2 0 h0
      simp at this
      omega
  · rename_i hn
    rcases Nat.eq_zero_or_pos h with h0 | h0
    · subst h0; simp at h1; omega
    · have h3 := h2 (h - 1) (by omega)
      have e : Nat.log2 (n - 1) = h - 1 := (Nat.log2_eq_iff (by omega)).2 ⟨by omega, by rw [show h - 1 + 1 = h by omega]; omega⟩
      omega
def heightI (n : Int) : Int := if 0 ≤ n ∧ n ≤ 512 then (heightOf n.toNat : Int) else -1

/-- The powers of two from 2 ^ (k - 1) down to 1 that n is made of. -/
def peaksBelow (n : Nat) : Nat → List Nat
  | 0 => []
  | k + 1 => if n / 2 ^ k % 2 = 1 then 2 ^ k :: peaksBelow n k else peaksBelow n k
/-- PeaksOf. -/
def peaksOf (n : Nat) : List Nat := peaksBelow n 10
/-- The first rounds: from 2 ^ 9 on, j of them. -/
def peaksTo (n : Nat) : Nat → List Nat
  | 0 => []
  | j + 1 => peaksTo n j ++ (if n / 2 ^ (9 - j) % 2 = 1 then [2 ^ (9 - j)] else [])
theorem peaksTo_split (n : Nat) : ∀ j, j ≤ 10 → peaksTo n j ++ peaksBelow n (10 - j) = peaksOf n
  | 0, _ => rfl
  | j + 1, h => by
    have ih := peaksTo_split n j (by omega)
    rw [show 10 - j = (9 - j) + 1 by omega, peaksBelow] at ih
    rw [peaksTo, show 10 - (j + 1) = 9 - j by omega, ← ih]
    split <;> simp
theorem peaksTo_ten (n : Nat) : peaksTo n 10 = peaksOf n := by
  have := peaksTo_split n 10 (Nat.le_refl _)
  simpa [peaksBelow] using this
theorem peaksTo_len (n : Nat) : ∀ j, (peaksTo n j).length ≤ j
  | 0 => by simp [peaksTo]
  | j + 1 => by
    have := peaksTo_len n j
    rw [peaksTo, List.length_append]
    split <;> simp <;> omega
def peaksI (n : Int) : List Int := if 0 ≤ n ∧ n ≤ 512 then (peaksOf n.toNat).map (fun x : Nat => (x : Int)) else []
theorem peaksI_len (n : Int) : (peaksI n).length ≤ 10 := by
  unfold peaksI
  split
  · rw [List.length_map, ← peaksTo_ten]; exact peaksTo_len _ 10
  · simp
end Go.Proofs.Ytcebpfhokacccaa

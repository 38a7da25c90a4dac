/-
  Plain laws on the lengths of proofs. No program in sight.
-/
import Derived.Test.YtcebpfhokacccaaNumPlain
namespace Go.Proofs.Ytcebpfhokacccaa
set_option linter.unusedVariables false

/-- How many hashes prove the leaf at place a of n leaves (fuel first). -/
def stepsAux : Nat → Nat → Nat → Nat
  | 0, _, _ => 0
  | f + 1, n, a => if n ≤ 1 then 0 else if a < halfOf n then stepsAux f (halfOf n) a + 1 else stepsAux f (n - halfOf n) (a - halfOf n) + 1
theorem stepsAux_fuel : ∀ (f g n a : Nat), n ≤ f → n ≤ g → stepsAux f n a = stepsAux g n a := by
  intro f
  induction f with
  | zero =>
    intro g n a hf hg
    obtain rfl : n = 0 := by omega
    cases g <;> simp [stepsAux]
  | succ f ih =>
    intro g n a hf hg
    cases g with
    | zero =>
      obtain rfl : n = 0 := by omega
      simp [stepsAux]
    | succ g =>
      unfold stepsAux
      by_cases h1 : n ≤ 1
      · rw [if_pos h1, if_pos h1]
      · obtain ⟨k0, k1, k2⟩ := half_spec (n := n) (by omega)
        rw [if_neg h1, if_neg h1, ih g (halfOf n) a (by omega) (by omega), ih g (n - halfOf n) (a - halfOf n) (by omega) (by omega)]
def stepsIn (n a : Nat) : Nat := stepsAux n n a
theorem stepsIn_small {n a : Nat} (h : n ≤ 1) : stepsIn n a = 0 := by
  unfold stepsIn
  cases n with
  | zero => rfl
  | succ n => rw [stepsAux, if_pos h]
theorem stepsIn_left {n a : Nat} (h : 2 ≤ n) (ha : a < halfOf n) : stepsIn n a = stepsIn (halfOf n) a + 1 := by
  obtain ⟨k0, k1, k2⟩ := half_spec h
  unfold stepsIn
  cases n with
  | zero => omega
  | succ m => rw [stepsAux, if_neg (by omega), if_pos ha, stepsAux_fuel m (halfOf (m + 1)) _ _ (by omega) (by omega)]
theorem stepsIn_right {n a : Nat} (h : 2 ≤ n) (ha : ¬ a < halfOf n) : stepsIn n a = stepsIn (n - halfOf n) (a - halfOf n) + 1 := by
  obtain ⟨k0, k1, k2⟩ := half_spec h
  unfold stepsIn
  cases n with
  | zero => omega
  | succ m => rw [stepsAux, if_neg (by omega), if_neg ha, stepsAux_fuel m (m + 1 - halfOf (m + 1)) _ _ (by omega) (by omega)]
theorem stepsIn_le : ∀ (n a : Nat), stepsIn n a ≤ n := by
  intro n
  induction n using Nat.strongRecOn with
  | _ n ih =>
    intro a
    by_cases h : n ≤ 1
    · rw [stepsIn_small h]; omega
    · obtain ⟨k0, k1, k2⟩ := half_spec (n := n) (by omega)
      by_cases ha : a < halfOf n
      · rw [stepsIn_left (by omega) ha]
        have := ih (halfOf n) (by omega) a
        omega
      · rw [stepsIn_right (by omega) ha]
        have := ih (n - halfOf n) (by omega) (a - halfOf n)
        omega
/-- StepsIn. -/
def stepsI (n a : Int) : Int := if 0 ≤ a ∧ a < n ∧ n ≤ 512 then (stepsIn n.toNat a.toNat : Int) else -1

/-- How many hashes show that n leaves go on from m (fuel first; q: is it the whole tree still?). -/
def betweenAux : Nat → Nat → Nat → Bool → Nat
  | 0, _, _, q => if q then 0 else 1
  | f + 1, m, n, q => if m = n then (if q then 0 else 1) else if m ≤ halfOf n then betweenAux f m (halfOf n) q + 1 else betweenAux f (m - halfOf n) (n - halfOf n) false + 1
theorem betweenAux_fuel : ∀ (f g m n : Nat) (q : Bool), n ≤ f → n ≤ g → 0 < m → m ≤ n → betweenAux f m n q = betweenAux g m n q := by
  intro f
  induction f with
  | zero => intro g m n q hf hg h0 hm; omega
  | succ f ih =>
    intro g m n q hf hg h0 hm
    cases g with
    | zero => omega
    | succ g =>
      unfold betweenAux
      by_cases h1 : m = n
      · rw [if_pos h1, if_pos h1]
      · obtain ⟨k0, k1, k2⟩ := half_spec (n := n) (by omega)
        rw [if_neg h1, if_neg h1]
        by_cases h2 : m ≤ halfOf n
        · rw [if_pos h2, if_pos h2, ih g m (halfOf n) q (by omega) (by omega) h0 h2]
        · rw [if_neg h2, if_neg h2, ih g (m - halfOf n) (n - halfOf n) false (by omega) (by omega) (by omega) (by omega)]
def between (m n : Nat) (q : Bool) : Nat := betweenAux n m n q
theorem between_same {n : Nat} {q : Bool} (h : 0 < n) : between n n q = if q then 0 else 1 := by
  unfold between
  cases n with
  | zero => omega
  | succ n => rw [betweenAux, if_pos rfl]
theorem between_left {m n : Nat} {q : Bool} (h0 : 0 < m) (h : m < n) (h2 : m ≤ halfOf n) : between m n q = between m (halfOf n) q + 1 := by
  obtain ⟨k0, k1, k2⟩ := half_spec (n := n) (by omega)
  unfold between
  cases n with
  | zero => omega
  | succ n => rw [betweenAux, if_neg (by omega), if_pos h2, betweenAux_fuel n (halfOf (n + 1)) _ _ _ (by omega) (by omega) h0 h2]
theorem between_right {m n : Nat} {q : Bool} (h0 : 0 < m) (h : m < n) (h2 : ¬ m ≤ halfOf n) : between m n q = between (m - halfOf n) (n - halfOf n) false + 1 := by
  obtain ⟨k0, k1, k2⟩ := half_spec (n := n) (by omega)
  unfold between
  cases n with
  | zero => omega
  | succ n => rw [betweenAux, if_neg (by omega), if_neg h2, betweenAux_fuel n (n + 1 - halfOf (n + 1)) _ _ _ (by omega) (by omega) (by omega) (by omega)]
theorem between_le : ∀ (n m : Nat) (q : Bool), 0 < m → m ≤ n → between m n q ≤ n + 1 := by
  intro n
  induction n using Nat.strongRecOn with
  | _ n ih =>
    intro m q h0 h
    by_cases h1 : m = n
    · subst h1; rw [between_same h0]; split <;> omega
    · obtain ⟨k0, k1, k2⟩ := half_spec (n := n) (by omega)
      by_cases h2 : m ≤ halfOf n
      · rw [between_left h0 (by omega) h2]
        have := ih (halfOf n) (by omega) m q h0 h2
        omega
      · rw [between_right h0 (by omega) h2]
        have := ih (n - halfOf n) (by omega) (m - halfOf n) false (by omega) (by omega)
        omega
/-- StepsBetween. -/
def betweenI (m n : Int) : Int := if 0 ≤ m ∧ m ≤ n ∧ n ≤ 512 then (if m = 0 then 0 else (between m.toNat n.toNat true : Int)) else -1
theorem halfI_nat {n : Nat} (h : 2 ≤ n) (h5 : n ≤ 512) : halfI (n : Int) = (halfOf n : Int) := by
  unfold halfI
  rw [if_pos ⟨by omega, by omega⟩, Int.toNat_natCast]
end Go.Proofs.Ytcebpfhokacccaa

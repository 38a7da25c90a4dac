/-
  Mixing a block into a state, as arithmetic on lists. No program in sight.
-/
import Derived.Test.YtejhpkcoeakegaaDoorPlain
namespace Go.Proofs.YtejhpkcoeakegaaDoor
set_option linter.unusedVariables false
open Go.RowKit

/-- A word of a list, 0 beyond its end. -/
def wd (l : List Int) (i : Nat) : Int := l.getD i 0
theorem wd_get (l : List Int) (i : Nat) (h : i < l.length) : l[i] = wd l i := by simp [wd, h]
/-- Constant k, of a small k. -/
def cst (k : Int) : Int := (k + 1) * 2654435761 % 4294967296
/-- The sum that round r lays on word i. -/
def mixY (b v : List Int) (r i : Nat) : Int :=
  (wd v i + (cst (8 * (r : Int) + (i : Int)) + bits .xor .u32 (wd v ((i + 1) % 8)) (wd b ((8 * r + 5 * i + r / 2) % 16))) % 4294967296) % 4294967296
/-- The word that follows. -/
def mixW (b v : List Int) (r i : Nat) : Int := bits .xor .u32 ((rotl (mixY b v r i).toNat (5 + (i + 3 * r) % 23) : Nat) : Int) (wd v ((i + 3) % 8))
def mixStep (b v : List Int) (r i : Nat) : List Int := v.set i (mixW b v r i)
theorem length_mixStep (b v : List Int) (r i : Nat) : (mixStep b v r i).length = v.length := by simp [mixStep]
/-- Round r up to word i. -/
def mixRow (b v : List Int) (r : Nat) : Nat → List Int
  | 0 => v
  | i + 1 => mixStep b (mixRow b v r i) r i
theorem length_mixRow (b v : List Int) (r i : Nat) : (mixRow b v r i).length = v.length := by
  induction i with
  | zero => rfl
  | succ i ih => rw [mixRow, length_mixStep, ih]
/-- The first r rounds. -/
def mixTo (b v : List Int) : Nat → List Int
  | 0 => v
  | r + 1 => mixRow b (mixTo b v r) r 8
theorem length_mixTo (b v : List Int) (r : Nat) : (mixTo b v r).length = v.length := by
  induction r with
  | zero => rfl
  | succ r ih => rw [mixTo, length_mixRow, ih]
/-- The sum with the old state, the first j words of it. -/
def addTo (s v : List Int) (j : Nat) : List Int := (List.range 8).map fun k => if k < j then (wd v k + wd s k) % 4294967296 else wd v k
theorem length_addTo (s v : List Int) (j : Nat) : (addTo s v j).length = 8 := by simp [addTo]
theorem addTo_zero (s v : List Int) (h : v.length = 8) : addTo s v 0 = v := by
  refine List.ext_getElem (by rw [length_addTo, h]) fun k h1 h2 => ?_
  simp only [addTo, List.getElem_map, List.getElem_range]
  rw [if_neg (by omega), wd_get]
theorem addTo_wd (s v : List Int) (j : Nat) (h : j < 8) : wd (addTo s v j) j = wd v j := by
  rw [← wd_get _ _ (by rw [length_addTo]; exact h)]
  simp [addTo]
theorem addTo_succ (s v : List Int) (j : Nat) (h : j < 8) : (addTo s v j).set j ((wd v j + wd s j) % 4294967296) = addTo s v (j + 1) := by
  refine List.ext_getElem (by rw [List.length_set, length_addTo, length_addTo]) fun k h1 h2 => ?_
  rw [List.getElem_set]
  simp only [addTo, List.getElem_map, List.getElem_range]
  by_cases hk : j = k
  · subst hk; simp
  · rw [if_neg hk]
    by_cases h3 : k < j
    · rw [if_pos h3, if_pos (by omega)]
    · rw [if_neg h3, if_neg (by omega)]
/-- What a block makes of a state. -/
def mixL (s b : List Int) : List Int := addTo s (mixTo b s 12) 8
theorem length_mixL (s b : List Int) : (mixL s b).length = 8 := length_addTo _ _ _
theorem mixL_bd (s b : List Int) : ∀ x ∈ mixL s b, 0 ≤ x ∧ x ≤ 4294967295 := by
  intro x hx
  simp only [mixL, addTo, List.mem_map, List.mem_range] at hx
  obtain ⟨k, hk, rfl⟩ := hx
  rw [if_pos hk]
  omega
theorem mixL_take (s b : List Int) (j : Nat) (h : j < 8) : (mixL s b).take j ++ [(wd s j + wd (mixTo b s 12) j) % 4294967296] = (mixL s b).take (j + 1) := by
  have hl : j < (mixL s b).length := by rw [length_mixL]; exact h
  rw [List.take_succ_eq_append_getElem hl]
  congr 1
  simp only [mixL, addTo, List.getElem_map, List.getElem_range]
  rw [if_pos h, Int.add_comm]
theorem mixY_bd (b v : List Int) (r i : Nat) : 0 ≤ mixY b v r i ∧ mixY b v r i ≤ 4294967295 := by unfold mixY; omega
end Go.Proofs.YtejhpkcoeakegaaDoor

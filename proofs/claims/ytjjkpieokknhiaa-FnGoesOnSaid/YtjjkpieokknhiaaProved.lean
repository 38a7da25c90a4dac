/-
  Plain laws of proofs that a leaf lies in a tree: how long they are, and that they check.
-/
import Derived.Test.YtjjkpieokknhiaaFoldBy
import Derived.Test.YtjjkpieokknhiaaInclusion
import Derived.Test.YtjjkpieokknhiaaDraw3
import Derived.Test.YtjjkpieokknhiaaWider
import Derived.Deep.Cut
import Derived.Deep.CutRange
namespace Go.Proofs.Ytjjkpieokknhiaa
set_option linter.unusedVariables false
open Go.RowKit

theorem half_pow {n k : Nat} (h2 : 2 ≤ n) (h : n ≤ 2 ^ (k + 1)) : halfOf n ≤ 2 ^ k := by
  obtain ⟨k0, k1, k2⟩ := half_spec h2
  unfold halfOf at *
  have h3 : 2 ^ Nat.log2 (n - 1) < 2 ^ (k + 1) := by omega
  have := (Nat.pow_lt_pow_iff_right (a := 2) (by decide)).1 h3
  exact Nat.pow_le_pow_right (by decide) (by omega)
theorem stepsIn_height : ∀ (k n a : Nat), a < n → n ≤ 2 ^ k → stepsIn n a ≤ k
  | 0, n, a, h, hk => by rw [stepsIn_small (by simpa using hk)]; omega
  | k + 1, n, a, h, hk => by
    by_cases h1 : n ≤ 1
    · rw [stepsIn_small h1]; omega
    · have hp := half_pow (by omega) hk
      obtain ⟨k0, k1, k2⟩ := half_spec (n := n) (by omega)
      by_cases hl : a < halfOf n
      · rw [stepsIn_left (by omega) hl]
        have := stepsIn_height k (halfOf n) a hl hp
        omega
      · rw [stepsIn_right (by omega) hl]
        have := stepsIn_height k (n - halfOf n) (a - halfOf n) (by omega) (by omega)
        omega
theorem height_pow (n : Nat) : n ≤ 2 ^ heightOf n := by
  unfold heightOf
  split
  · simpa using ‹n ≤ 1›
  · obtain ⟨h3, h4⟩ := (Nat.log2_eq_iff (n := n - 1) (k := Nat.log2 (n - 1)) (by omega)).1 rfl
    omega
theorem inclA_mem {nd : ByteArray → ByteArray → ByteArray} {em : ByteArray} {wd : Nat} (hn : ∀ l r, (nd l r).size = wd) (he : em.size = wd) : ∀ (f : Nat) (zs : List ByteArray) (a : Nat), (∀ s ∈ zs, s.size = wd) → ∀ s ∈ inclA nd em f zs a, s.size = wd
  | 0, _, _, _, s, h => by simp [inclA] at h
  | f + 1, zs, a, hm, s, h => by
    unfold inclA at h
    split at h
    · simp at h
    · split at h
      · rcases List.mem_append.1 h with h | h
        · exact inclA_mem hn he f _ _ (fun s hs => hm s (List.mem_of_mem_take hs)) s h
        · rw [List.mem_singleton.1 h]; exact rootA_size hn he _ _ (fun s hs => hm s (List.mem_of_mem_drop hs))
      · rcases List.mem_append.1 h with h | h
        · exact inclA_mem hn he f _ _ (fun s hs => hm s (List.mem_of_mem_drop hs)) s h
        · rw [List.mem_singleton.1 h]; exact rootA_size hn he _ _ (fun s hs => hm s (List.mem_of_mem_take hs))
theorem inclW_mem {wd : Nat} (h32 : wd ≤ 32) {zs : List ByteArray} (a : Nat) (hm : ∀ s ∈ zs, s.size = wd) : ∀ s ∈ inclW wd zs a, s.size = wd := inclA_mem (fun l r => nodeT_size wd l r h32) (emptyT_size wd h32) _ zs a hm
/-- What Inclusion tells of a leaf CheckIn takes. -/
theorem proved_check {wd : Nat} (h1 : 1 ≤ wd) (h32 : wd ≤ 32) {zs : List ByteArray} (h512 : zs.length ≤ 512) (hm : ∀ s ∈ zs, s.size = wd) {a : Nat} (ha : a < zs.length) :
    checkI (wd : Int) (rootW wd zs) (zs.length : Int) (a : Int) zs[a] (inclW wd zs a) = true := by
  have hl : (inclW wd zs a).length = stepsIn zs.length a := inclT_len _ _ _ zs a rfl ha
  have hf : foldW wd zs.length a zs[a] (inclW wd zs a) = rootW wd zs := fold_incl _ _ _ zs a ha rfl
  have e1 : stepsI (zs.length : Int) (a : Int) = (stepsIn zs.length a : Int) := by unfold stepsI; rw [if_pos ⟨by omega, by omega, by omega⟩, Int.toNat_natCast, Int.toNat_natCast]
  have ok : foldOk (wd : Int) (zs.length : Int) (a : Int) zs[a] (inclW wd zs a) = true := by
    unfold foldOk
    rw [inR_true (by omega) (by omega), hashesOk_of (fun s hs => by rw [inclW_mem h32 a hm s hs]), e1, hl, hm _ (List.getElem_mem _)]
    simp
  unfold checkI foldI
  rw [ok, if_pos rfl, Int.toNat_natCast, Int.toNat_natCast, Int.toNat_natCast, hf]
  simp
theorem leavesOk_of {wd : Nat} (h1 : 1 ≤ wd) (h32 : wd ≤ 32) {zs : List ByteArray} (h512 : zs.length ≤ 512) (hm : ∀ s ∈ zs, s.size = wd) : leavesOk (wd : Int) zs = true := by
  unfold leavesOk
  rw [inR_true (by omega) (by omega), hashesOk_of (fun s hs => by rw [hm s hs])]
  simp
  omega
end Go.Proofs.Ytjjkpieokknhiaa

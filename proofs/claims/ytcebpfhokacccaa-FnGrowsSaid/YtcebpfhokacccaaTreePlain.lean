/-
  Trees of hashes, and the proofs that a leaf lies in one, as plain functions. No program in sight.
-/
import Derived.Test.YtcebpfhokacccaaStepsPlain
namespace Go.Proofs.Ytcebpfhokacccaa
set_option linter.unusedVariables false

section
variable (nd : ByteArray → ByteArray → ByteArray) (em : ByteArray)

/-- The root of a tree (fuel first): nd is the hash of two hashes, em that of no leaf. -/
def rootA : Nat → List ByteArray → ByteArray
  | 0, _ => em
  | f + 1, zs => if zs.length ≤ 1 then zs.headD em else nd (rootA f (zs.take (halfOf zs.length))) (rootA f (zs.drop (halfOf zs.length)))
theorem rootA_fuel : ∀ (f g : Nat) (zs : List ByteArray), zs.length ≤ f → zs.length ≤ g → rootA nd em f zs = rootA nd em g zs := by
  intro f
  induction f with
  | zero =>
    intro g zs hf hg
    obtain rfl : zs = [] := List.eq_nil_of_length_eq_zero (by omega)
    cases g <;> simp [rootA]
  | succ f ih =>
    intro g zs hf hg
    cases g with
    | zero =>
      obtain rfl : zs = [] := List.eq_nil_of_length_eq_zero (by omega)
      simp [rootA]
    | succ g =>
      unfold rootA
      by_cases h1 : zs.length ≤ 1
      · rw [if_pos h1, if_pos h1]
      · obtain ⟨k0, k1, k2⟩ := half_spec (n := zs.length) (by omega)
        rw [if_neg h1, if_neg h1, ih g (zs.take _) (by rw [List.length_take]; omega) (by rw [List.length_take]; omega), ih g (zs.drop _) (by rw [List.length_drop]; omega) (by rw [List.length_drop]; omega)]
def rootT (zs : List ByteArray) : ByteArray := rootA nd em zs.length zs
theorem rootT_nil : rootT nd em [] = em := rfl
theorem rootT_one (x : ByteArray) : rootT nd em [x] = x := by simp [rootT, rootA]
theorem rootT_more {zs : List ByteArray} (h : 2 ≤ zs.length) : rootT nd em zs = nd (rootT nd em (zs.take (halfOf zs.length))) (rootT nd em (zs.drop (halfOf zs.length))) := by
  obtain ⟨k0, k1, k2⟩ := half_spec h
  have e : rootT nd em zs = rootA nd em (zs.length - 1 + 1) zs := rootA_fuel nd em _ _ zs (Nat.le_refl _) (by omega)
  rw [e, rootA, if_neg (by omega)]
  unfold rootT
  rw [rootA_fuel nd em (zs.length - 1) (zs.take (halfOf zs.length)).length _ (by rw [List.length_take]; omega) (Nat.le_refl _), rootA_fuel nd em (zs.length - 1) (zs.drop (halfOf zs.length)).length _ (by rw [List.length_drop]; omega) (Nat.le_refl _)]

/-- The hashes that prove the leaf at place a (fuel first). -/
def inclA : Nat → List ByteArray → Nat → List ByteArray
  | 0, _, _ => []
  | f + 1, zs, a => if zs.length ≤ 1 then [] else
      if a < halfOf zs.length then inclA f (zs.take (halfOf zs.length)) a ++ [rootT nd em (zs.drop (halfOf zs.length))] else inclA f (zs.drop (halfOf zs.length)) (a - halfOf zs.length) ++ [rootT nd em (zs.take (halfOf zs.length))]
theorem inclA_fuel : ∀ (f g : Nat) (zs : List ByteArray) (a : Nat), zs.length ≤ f → zs.length ≤ g → inclA nd em f zs a = inclA nd em g zs a := by
  intro f
  induction f with
  | zero =>
    intro g zs a hf hg
    obtain rfl : zs = [] := List.eq_nil_of_length_eq_zero (by omega)
    cases g <;> simp [inclA]
  | succ f ih =>
    intro g zs a hf hg
    cases g with
    | zero =>
      obtain rfl : zs = [] := List.eq_nil_of_length_eq_zero (by omega)
      simp [inclA]
    | succ g =>
      unfold inclA
      by_cases h1 : zs.length ≤ 1
      · rw [if_pos h1, if_pos h1]
      · obtain ⟨k0, k1, k2⟩ := half_spec (n := zs.length) (by omega)
        rw [if_neg h1, if_neg h1, ih g (zs.take _) _ (by rw [List.length_take]; omega) (by rw [List.length_take]; omega), ih g (zs.drop _) _ (by rw [List.length_drop]; omega) (by rw [List.length_drop]; omega)]
def inclT (zs : List ByteArray) (a : Nat) : List ByteArray := inclA nd em zs.length zs a
theorem inclT_small {zs : List ByteArray} {a : Nat} (h : zs.length ≤ 1) : inclT nd em zs a = [] := by
  unfold inclT
  cases hl : zs.length with
  | zero => rfl
  | succ n => rw [inclA, if_pos h]
theorem inclT_left {zs : List ByteArray} {a : Nat} (h : 2 ≤ zs.length) (ha : a < halfOf zs.length) : inclT nd em zs a = inclT nd em (zs.take (halfOf zs.length)) a ++ [rootT nd em (zs.drop (halfOf zs.length))] := by
  obtain ⟨k0, k1, k2⟩ := half_spec h
  have e : inclT nd em zs a = inclA nd em (zs.length - 1 + 1) zs a := inclA_fuel nd em _ _ zs a (Nat.le_refl _) (by omega)
  rw [e, inclA, if_neg (by omega), if_pos ha]
  unfold inclT
  rw [inclA_fuel nd em (zs.length - 1) (zs.take (halfOf zs.length)).length _ _ (by rw [List.length_take]; omega) (Nat.le_refl _)]
theorem inclT_right {zs : List ByteArray} {a : Nat} (h : 2 ≤ zs.length) (ha : ¬ a < halfOf zs.length) : inclT nd em zs a = inclT nd em (zs.drop (halfOf zs.length)) (a - halfOf zs.length) ++ [rootT nd em (zs.take (halfOf zs.length))] := by
  obtain ⟨k0, k1, k2⟩ := half_spec h
  have e : inclT nd em zs a = inclA nd em (zs.length - 1 + 1) zs a := inclA_fuel nd em _ _ zs a (Nat.le_refl _) (by omega)
  rw [e, inclA, if_neg (by omega), if_neg ha]
  unfold inclT
  rw [inclA_fuel nd em (zs.length - 1) (zs.drop (halfOf zs.length)).length _ _ (by rw [List.length_drop]; omega) (Nat.le_refl _)]
theorem inclT_len : ∀ (n : Nat) (zs : List ByteArray) (a : Nat), zs.length = n → a < n → (inclT nd em zs a).length = stepsIn n a := by
  intro n
  induction n using Nat.strongRecOn with
  | _ n ih =>
    intro zs a hz ha
    by_cases h : n ≤ 1
    · rw [inclT_small nd em (by omega), stepsIn_small h]; rfl
    · obtain ⟨k0, k1, k2⟩ := half_spec (n := n) (by omega)
      subst hz
      by_cases hl : a < halfOf zs.length
      · rw [inclT_left nd em (by omega) hl, stepsIn_left (by omega) hl, List.length_append, ih (halfOf zs.length) (by omega) _ _ (by rw [List.length_take]; omega) hl]; rfl
      · rw [inclT_right nd em (by omega) hl, stepsIn_right (by omega) hl, List.length_append, ih (zs.length - halfOf zs.length) (by omega) _ _ (by rw [List.length_drop]) (by omega)]; rfl

/-- The root to which a proof leads from a leaf (fuel first: the proof's length is its own). -/
def foldA : Nat → Nat → Nat → ByteArray → List ByteArray → ByteArray
  | 0, _, _, l, _ => l
  | f + 1, n, a, l, ps => if n ≤ 1 then l else
      if a < halfOf n then nd (foldA f (halfOf n) a l ps.dropLast) (ps.getLastD em) else nd (ps.getLastD em) (foldA f (n - halfOf n) (a - halfOf n) l ps.dropLast)
theorem foldA_fuel : ∀ (f g n a : Nat) (l : ByteArray) (ps : List ByteArray), n ≤ f → n ≤ g → foldA nd em f n a l ps = foldA nd em g n a l ps := by
  intro f
  induction f with
  | zero =>
    intro g n a l ps hf hg
    obtain rfl : n = 0 := by omega
    cases g <;> simp [foldA]
  | succ f ih =>
    intro g n a l ps hf hg
    cases g with
    | zero =>
      obtain rfl : n = 0 := by omega
      simp [foldA]
    | succ g =>
      unfold foldA
      by_cases h1 : n ≤ 1
      · rw [if_pos h1, if_pos h1]
      · obtain ⟨k0, k1, k2⟩ := half_spec (n := n) (by omega)
        rw [if_neg h1, if_neg h1, ih g (halfOf n) _ _ _ (by omega) (by omega), ih g (n - halfOf n) _ _ _ (by omega) (by omega)]
def foldT (n a : Nat) (l : ByteArray) (ps : List ByteArray) : ByteArray := foldA nd em n n a l ps
theorem foldT_small {n a : Nat} {l : ByteArray} {ps : List ByteArray} (h : n ≤ 1) : foldT nd em n a l ps = l := by
  unfold foldT
  cases n with
  | zero => rfl
  | succ n => rw [foldA, if_pos h]
theorem foldT_left {n a : Nat} {l : ByteArray} {ps : List ByteArray} (h : 2 ≤ n) (ha : a < halfOf n) : foldT nd em n a l ps = nd (foldT nd em (halfOf n) a l ps.dropLast) (ps.getLastD em) := by
  obtain ⟨k0, k1, k2⟩ := half_spec h
  unfold foldT
  rw [foldA_fuel nd em n (n - 1 + 1) n a l ps (Nat.le_refl _) (by omega), foldA, if_neg (by omega), if_pos ha, foldA_fuel nd em (n - 1) (halfOf n) _ _ _ _ (by omega) (Nat.le_refl _)]
theorem foldT_right {n a : Nat} {l : ByteArray} {ps : List ByteArray} (h : 2 ≤ n) (ha : ¬ a < halfOf n) : foldT nd em n a l ps = nd (ps.getLastD em) (foldT nd em (n - halfOf n) (a - halfOf n) l ps.dropLast) := by
  obtain ⟨k0, k1, k2⟩ := half_spec h
  unfold foldT
  rw [foldA_fuel nd em n (n - 1 + 1) n a l ps (Nat.le_refl _) (by omega), foldA, if_neg (by omega), if_neg ha, foldA_fuel nd em (n - 1) (n - halfOf n) _ _ _ _ (by omega) (Nat.le_refl _)]
/-- What Inclusion tells leads to the root. -/
theorem fold_incl : ∀ (n : Nat) (zs : List ByteArray) (a : Nat) (h : a < zs.length), zs.length = n → foldT nd em n a zs[a] (inclT nd em zs a) = rootT nd em zs := by
  intro n
  induction n using Nat.strongRecOn with
  | _ n ih =>
    intro zs a ha hz
    by_cases h : n ≤ 1
    · rw [foldT_small nd em h]
      match zs, ha, hz with
      | [x], ha, _ =>
        obtain rfl : a = 0 := by simp at ha; exact ha
        rw [rootT_one]; rfl
      | _ :: _ :: _, _, hz => simp at hz; omega
    · obtain ⟨k0, k1, k2⟩ := half_spec (n := n) (by omega)
      subst hz
      rw [rootT_more nd em (by omega)]
      by_cases hl : a < halfOf zs.length
      · rw [foldT_left nd em (by omega) hl, inclT_left nd em (by omega) hl, List.dropLast_concat, List.getLastD_concat]
        have ht : a < (zs.take (halfOf zs.length)).length := by rw [List.length_take]; omega
        have := ih (halfOf zs.length) (by omega) (zs.take (halfOf zs.length)) a ht (by rw [List.length_take]; omega)
        rw [List.getElem_take] at this
        rw [this]
      · rw [foldT_right nd em (by omega) hl, inclT_right nd em (by omega) hl, List.dropLast_concat, List.getLastD_concat]
        have ht : a - halfOf zs.length < (zs.drop (halfOf zs.length)).length := by rw [List.length_drop]; omega
        have := ih (zs.length - halfOf zs.length) (by omega) (zs.drop (halfOf zs.length)) (a - halfOf zs.length) ht (by rw [List.length_drop])
        rw [List.getElem_drop] at this
        have e : halfOf zs.length + (a - halfOf zs.length) = a := by omega
        simp only [e] at this
        rw [this]
end
end Go.Proofs.Ytcebpfhokacccaa

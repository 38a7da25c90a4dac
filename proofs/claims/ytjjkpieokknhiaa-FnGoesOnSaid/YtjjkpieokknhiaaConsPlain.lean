/-
  Proofs that a tree goes on from a smaller one, as plain functions, and what they lead to. No program in sight.
-/
import Derived.Test.YtjjkpieokknhiaaTreePlain
namespace Go.Proofs.Ytjjkpieokknhiaa
set_option linter.unusedVariables false

section
variable (nd : ByteArray → ByteArray → ByteArray) (em : ByteArray)

/-- The hashes that show that the tree goes on from its first m leaves (fuel first; q: is it the whole tree still?). -/
def consA : Nat → List ByteArray → Nat → Bool → List ByteArray
  | 0, zs, _, q => if q then [] else [rootT nd em zs]
  | f + 1, zs, m, q => if m = zs.length then (if q then [] else [rootT nd em zs]) else
      if m ≤ halfOf zs.length then consA f (zs.take (halfOf zs.length)) m q ++ [rootT nd em (zs.drop (halfOf zs.length))] else consA f (zs.drop (halfOf zs.length)) (m - halfOf zs.length) false ++ [rootT nd em (zs.take (halfOf zs.length))]
theorem consA_fuel : ∀ (f g : Nat) (zs : List ByteArray) (m : Nat) (q : Bool), 0 < m → m ≤ zs.length → zs.length ≤ f → zs.length ≤ g → consA nd em f zs m q = consA nd em g zs m q := by
  intro f
  induction f with
  | zero => intro g zs m q h0 hm hf hg; omega
  | succ f ih =>
    intro g zs m q h0 hm hf hg
    cases g with
    | zero => omega
    | succ g =>
      unfold consA
      by_cases h1 : m = zs.length
      · rw [if_pos h1, if_pos h1]
      · obtain ⟨k0, k1, k2⟩ := half_spec (n := zs.length) (by omega)
        rw [if_neg h1, if_neg h1]
        by_cases h2 : m ≤ halfOf zs.length
        · rw [if_pos h2, if_pos h2, ih g (zs.take _) m q h0 (by rw [List.length_take]; omega) (by rw [List.length_take]; omega) (by rw [List.length_take]; omega)]
        · rw [if_neg h2, if_neg h2, ih g (zs.drop _) (m - halfOf zs.length) false (by omega) (by rw [List.length_drop]; omega) (by rw [List.length_drop]; omega) (by rw [List.length_drop]; omega)]
def consT (zs : List ByteArray) (m : Nat) (q : Bool) : List ByteArray := consA nd em zs.length zs m q
theorem consT_same {zs : List ByteArray} {q : Bool} (h : 0 < zs.length) : consT nd em zs zs.length q = if q then [] else [rootT nd em zs] := by
  unfold consT
  cases hl : zs.length with
  | zero => omega
  | succ n => rw [consA, if_pos hl.symm]
theorem consT_left {zs : List ByteArray} {m : Nat} {q : Bool} (h0 : 0 < m) (h : m < zs.length) (h2 : m ≤ halfOf zs.length) : consT nd em zs m q = consT nd em (zs.take (halfOf zs.length)) m q ++ [rootT nd em (zs.drop (halfOf zs.length))] := by
  obtain ⟨k0, k1, k2⟩ := half_spec (n := zs.length) (by omega)
  have e : consT nd em zs m q = consA nd em (zs.length - 1 + 1) zs m q := consA_fuel nd em _ _ zs m q h0 (by omega) (Nat.le_refl _) (by omega)
  rw [e, consA, if_neg (by omega), if_pos h2]
  unfold consT
  rw [consA_fuel nd em (zs.length - 1) (zs.take (halfOf zs.length)).length _ m q h0 (by rw [List.length_take]; omega) (by rw [List.length_take]; omega) (Nat.le_refl _)]
theorem consT_right {zs : List ByteArray} {m : Nat} {q : Bool} (h0 : 0 < m) (h : m < zs.length) (h2 : ¬ m ≤ halfOf zs.length) : consT nd em zs m q = consT nd em (zs.drop (halfOf zs.length)) (m - halfOf zs.length) false ++ [rootT nd em (zs.take (halfOf zs.length))] := by
  obtain ⟨k0, k1, k2⟩ := half_spec (n := zs.length) (by omega)
  have e : consT nd em zs m q = consA nd em (zs.length - 1 + 1) zs m q := consA_fuel nd em _ _ zs m q h0 (by omega) (Nat.le_refl _) (by omega)
  rw [e, consA, if_neg (by omega), if_neg h2]
  unfold consT
  rw [consA_fuel nd em (zs.length - 1) (zs.drop (halfOf zs.length)).length _ (m - halfOf zs.length) false (by omega) (by rw [List.length_drop]; omega) (by rw [List.length_drop]; omega) (Nat.le_refl _)]
theorem consT_len : ∀ (n : Nat) (zs : List ByteArray) (m : Nat) (q : Bool), zs.length = n → 0 < m → m ≤ n → (consT nd em zs m q).length = between m n q := by
  intro n
  induction n using Nat.strongRecOn with
  | _ n ih =>
    intro zs m q hz h0 hm
    subst hz
    by_cases h : m = zs.length
    · subst h
      rw [consT_same nd em h0, between_same h0]
      cases q <;> rfl
    · obtain ⟨k0, k1, k2⟩ := half_spec (n := zs.length) (by omega)
      by_cases hl : m ≤ halfOf zs.length
      · rw [consT_left nd em h0 (by omega) hl, between_left h0 (by omega) hl, List.length_append, ih (halfOf zs.length) (by omega) _ m q (by rw [List.length_take]; omega) h0 hl]; rfl
      · rw [consT_right nd em h0 (by omega) hl, between_right h0 (by omega) hl, List.length_append, ih (zs.length - halfOf zs.length) (by omega) _ (m - halfOf zs.length) false (by rw [List.length_drop]) (by omega) (by omega)]; rfl

/-- The two roots to which a proof leads (fuel first). -/
def foldsA : Nat → Nat → ByteArray → Nat → List ByteArray → Bool → ByteArray × ByteArray
  | 0, _, r, _, ps, q => if q then (r, r) else (ps.getLastD em, ps.getLastD em)
  | f + 1, m, r, n, ps, q => if m = n then (if q then (r, r) else (ps.getLastD em, ps.getLastD em)) else
      if m ≤ halfOf n then ((foldsA f m r (halfOf n) ps.dropLast q).1, nd (foldsA f m r (halfOf n) ps.dropLast q).2 (ps.getLastD em))
      else (nd (ps.getLastD em) (foldsA f (m - halfOf n) r (n - halfOf n) ps.dropLast false).1, nd (ps.getLastD em) (foldsA f (m - halfOf n) r (n - halfOf n) ps.dropLast false).2)
theorem foldsA_fuel : ∀ (f g m : Nat) (r : ByteArray) (n : Nat) (ps : List ByteArray) (q : Bool), 0 < m → m ≤ n → n ≤ f → n ≤ g → foldsA nd em f m r n ps q = foldsA nd em g m r n ps q := by
  intro f
  induction f with
  | zero => intro g m r n ps q h0 hm hf hg; omega
  | succ f ih =>
    intro g m r n ps q h0 hm hf hg
    cases g with
    | zero => omega
    | succ g =>
      unfold foldsA
      by_cases h1 : m = n
      · rw [if_pos h1, if_pos h1]
      · obtain ⟨k0, k1, k2⟩ := half_spec (n := n) (by omega)
        rw [if_neg h1, if_neg h1]
        by_cases h2 : m ≤ halfOf n
        · rw [if_pos h2, if_pos h2, ih g m r (halfOf n) _ q h0 h2 (by omega) (by omega)]
        · rw [if_neg h2, if_neg h2, ih g (m - halfOf n) r (n - halfOf n) _ false (by omega) (by omega) (by omega) (by omega)]
def foldsT (m : Nat) (r : ByteArray) (n : Nat) (ps : List ByteArray) (q : Bool) : ByteArray × ByteArray := foldsA nd em n m r n ps q
theorem foldsT_same {r : ByteArray} {n : Nat} {ps : List ByteArray} {q : Bool} (h : 0 < n) : foldsT nd em n r n ps q = if q then (r, r) else (ps.getLastD em, ps.getLastD em) := by
  unfold foldsT
  cases n with
  | zero => omega
  | succ n => rw [foldsA, if_pos rfl]
theorem foldsT_left {m : Nat} {r : ByteArray} {n : Nat} {ps : List ByteArray} {q : Bool} (h0 : 0 < m) (h : m < n) (h2 : m ≤ halfOf n) : foldsT nd em m r n ps q = ((foldsT nd em m r (halfOf n) ps.dropLast q).1, nd (foldsT nd em m r (halfOf n) ps.dropLast q).2 (ps.getLastD em)) := by
  obtain ⟨k0, k1, k2⟩ := half_spec (n := n) (by omega)
  unfold foldsT
  rw [foldsA_fuel nd em n (n - 1 + 1) m r n ps q h0 (by omega) (Nat.le_refl _) (by omega), foldsA, if_neg (by omega), if_pos h2, foldsA_fuel nd em (n - 1) (halfOf n) m r (halfOf n) _ q h0 h2 (by omega) (Nat.le_refl _)]
theorem foldsT_right {m : Nat} {r : ByteArray} {n : Nat} {ps : List ByteArray} {q : Bool} (h0 : 0 < m) (h : m < n) (h2 : ¬ m ≤ halfOf n) : foldsT nd em m r n ps q = (nd (ps.getLastD em) (foldsT nd em (m - halfOf n) r (n - halfOf n) ps.dropLast false).1, nd (ps.getLastD em) (foldsT nd em (m - halfOf n) r (n - halfOf n) ps.dropLast false).2) := by
  obtain ⟨k0, k1, k2⟩ := half_spec (n := n) (by omega)
  unfold foldsT
  rw [foldsA_fuel nd em n (n - 1 + 1) m r n ps q h0 (by omega) (Nat.le_refl _) (by omega), foldsA, if_neg (by omega), if_neg h2, foldsA_fuel nd em (n - 1) (n - halfOf n) (m - halfOf n) r (n - halfOf n) _ false (by omega) (by omega) (by omega) (Nat.le_refl _)]
theorem half_same {m n : Nat} (h : halfOf n < m) (h2 : m ≤ n) (hn : 2 ≤ n) : halfOf m = halfOf n := by
  obtain ⟨k0, k1, k2⟩ := half_spec hn
  exact (half_uniq (p := halfOf n) (by omega) ⟨_, rfl⟩ h (by omega)).symm
/-- What Consistency tells leads to both roots. -/
theorem folds_cons : ∀ (n : Nat) (zs : List ByteArray) (m : Nat) (r : ByteArray) (q : Bool), zs.length = n → 0 < m → m ≤ n → (q = true → r = rootT nd em (zs.take m)) → foldsT nd em m r n (consT nd em zs m q) q = (rootT nd em (zs.take m), rootT nd em zs) := by
  intro n
  induction n using Nat.strongRecOn with
  | _ n ih =>
    intro zs m r q hz h0 hm hq
    subst hz
    by_cases h : m = zs.length
    · subst h
      rw [foldsT_same nd em h0, consT_same nd em h0, List.take_length] at *
      cases q with
      | false => simp
      | true => rw [if_pos rfl, hq rfl]
    · obtain ⟨k0, k1, k2⟩ := half_spec (n := zs.length) (by omega)
      by_cases hl : m ≤ halfOf zs.length
      · rw [foldsT_left nd em h0 (by omega) hl, consT_left nd em h0 (by omega) hl, List.dropLast_concat, List.getLastD_concat]
        have e1 : (zs.take (halfOf zs.length)).take m = zs.take m := by rw [List.take_take, Nat.min_eq_left hl]
        have := ih (halfOf zs.length) (by omega) (zs.take (halfOf zs.length)) m r q (by rw [List.length_take]; omega) h0 hl (by rw [e1]; exact hq)
        rw [this, e1, rootT_more nd em (zs := zs) (by omega)]
      · rw [foldsT_right nd em h0 (by omega) hl, consT_right nd em h0 (by omega) hl, List.dropLast_concat, List.getLastD_concat]
        have := ih (zs.length - halfOf zs.length) (by omega) (zs.drop (halfOf zs.length)) (m - halfOf zs.length) r false (by rw [List.length_drop]) (by omega) (by omega) (fun h => by cases h)
        rw [this, rootT_more nd em (zs := zs) (by omega)]
        have hml : (zs.take m).length = m := by rw [List.length_take]; omega
        have hh : halfOf m = halfOf zs.length := half_same (by omega) hm (by omega)
        rw [rootT_more nd em (zs := zs.take m) (by omega), hml, hh, List.take_take, Nat.min_eq_left (by omega), List.drop_take]
end
theorem between_height : ∀ (k n m : Nat) (q : Bool), 0 < m → m ≤ n → n ≤ 2 ^ k → between m n q ≤ k + 1
  | 0, n, m, q, h0, hm, hk => by
    have : n = 1 := by simp at hk; omega
    subst this
    have : m = 1 := by omega
    subst this
    rw [between_same (by omega)]
    split <;> omega
  | k + 1, n, m, q, h0, hm, hk => by
    by_cases h : m = n
    · subst h
      rw [between_same h0]
      split <;> omega
    · obtain ⟨k0, k1, k2⟩ := half_spec (n := n) (by omega)
      have hp : halfOf n ≤ 2 ^ k := by
        unfold halfOf at *
        have h3 : 2 ^ Nat.log2 (n - 1) < 2 ^ (k + 1) := by omega
        have := (Nat.pow_lt_pow_iff_right (a := 2) (by decide)).1 h3
        exact Nat.pow_le_pow_right (by decide) (by omega)
      by_cases hl : m ≤ halfOf n
      · rw [between_left h0 (by omega) hl]
        have := between_height k (halfOf n) m q h0 hl hp
        omega
      · rw [between_right h0 (by omega) hl]
        have := between_height k (n - halfOf n) (m - halfOf n) false (by omega) (by omega) (by omega)
        omega
end Go.Proofs.Ytjjkpieokknhiaa

/-
  Ranges that grow, as plain functions: their peaks are the roots of their blocks. No program in sight.
-/
import Derived.Test.YtcebpfhokacccaaTreePlain
namespace Go.Proofs.Ytcebpfhokacccaa
set_option linter.unusedVariables false

/-- How many ones a number ends in (fuel first). -/
def ones : Nat → Nat → Nat
  | 0, _ => 0
  | f + 1, n => if n % 2 = 1 then ones f (n / 2) + 1 else 0
/-- How many ones a number has. -/
def pl (n : Nat) : Nat := (peaksOf n).length
theorem below_len (n : Nat) : ∀ k, (peaksBelow n (k + 1)).length = (peaksBelow (n / 2) k).length + n % 2
  | 0 => by
    rcases Nat.mod_two_eq_zero_or_one n with h | h <;> simp [peaksBelow, h]
  | k + 1 => by
    have ih := below_len n k
    have e : n / 2 ^ (k + 1) = n / 2 / 2 ^ k := by rw [Nat.div_div_eq_div_mul, Nat.pow_succ, Nat.mul_comm]
    rw [peaksBelow, e]
    conv => rhs; rw [peaksBelow]
    split
    · rw [List.length_cons, List.length_cons, ih]; omega
    · exact ih
theorem ones_len : ∀ (f n : Nat), n + 1 < 2 ^ f → (peaksBelow (n + 1) f).length + ones f n = (peaksBelow n f).length + 1
  | 0, n, h => by simp at h
  | f + 1, n, h => by
    rw [below_len, below_len, ones]
    rcases Nat.mod_two_eq_zero_or_one n with h0 | h1
    · rw [if_neg (by omega), show (n + 1) / 2 = n / 2 by omega, h0, show (n + 1) % 2 = 1 by omega]
    · have := ones_len f (n / 2) (by rw [Nat.pow_succ] at h; omega)
      rw [if_pos h1, show (n + 1) / 2 = n / 2 + 1 by omega, h1, show (n + 1) % 2 = 0 by omega]
      omega
theorem ones_le : ∀ (f n : Nat), n + 1 < 2 ^ f → ones f n ≤ (peaksBelow n f).length
  | 0, n, h => by simp at h
  | f + 1, n, h => by
    rw [below_len, ones]
    split
    · have := ones_le f (n / 2) (by rw [Nat.pow_succ] at h; omega)
      omega
    · omega
theorem pl_succ {n : Nat} (h : n + 1 ≤ 512) : pl (n + 1) + ones 10 n = pl n + 1 := ones_len 10 n (by omega)
theorem ones_pl {n : Nat} (h : n + 1 ≤ 512) : ones 10 n ≤ pl n := ones_le 10 n (by omega)
theorem ones_bound : ∀ (f n : Nat), ones f n ≤ f
  | 0, _ => by simp [ones]
  | f + 1, n => by
    unfold ones
    split
    · have := ones_bound f (n / 2); omega
    · omega
/-- So many ones are still to come. -/
def Rem (s t : Nat) : Prop := ∃ f, s + 1 < 2 ^ f ∧ ones f s = t
theorem Rem.odd {s t : Nat} (h : Rem s t) (ho : s % 2 = 1) : ∃ t', t = t' + 1 ∧ Rem (s / 2) t' := by
  obtain ⟨f, h1, h2⟩ := h
  cases f with
  | zero => simp at h1
  | succ f =>
    rw [ones, if_pos ho] at h2
    exact ⟨ones f (s / 2), h2.symm, f, by rw [Nat.pow_succ] at h1; omega, rfl⟩
theorem Rem.even {s t : Nat} (h : Rem s t) (ho : ¬ s % 2 = 1) : t = 0 := by
  obtain ⟨f, h1, h2⟩ := h
  cases f with
  | zero => simp at h1
  | succ f => rw [ones, if_neg ho] at h2; exact h2.symm

section
variable (nd : ByteArray → ByteArray → ByteArray) (em : ByteArray)

/-- The last two peaks joined. -/
def join1 (P : List ByteArray) : List ByteArray := P.dropLast.dropLast ++ [nd (P.dropLast.getLastD em) (P.getLastD em)]
theorem join1_two (Q : List ByteArray) (a b : ByteArray) : join1 nd em (Q ++ [a, b]) = Q ++ [nd a b] := by
  unfold join1
  have e : Q ++ [a, b] = (Q ++ [a]) ++ [b] := by simp
  rw [e, List.dropLast_concat, List.getLastD_concat, List.dropLast_concat, List.getLastD_concat]
theorem two_last {P : List ByteArray} {q : Nat} (h : P.length = q + 2) : ∃ Q a b, P = Q ++ [a, b] ∧ Q.length = q := by
  rcases List.eq_nil_or_concat P with rfl | ⟨R, b, rfl⟩
  · simp at h
  · rcases List.eq_nil_or_concat R with rfl | ⟨Q, a, rfl⟩
    · simp at h
    · exact ⟨Q, a, b, by simp, by simp at h; omega⟩
theorem join1_len {P : List ByteArray} (h : 2 ≤ P.length) : (join1 nd em P).length = P.length - 1 := by
  obtain ⟨Q, a, b, rfl, hq⟩ := two_last (P := P) (q := P.length - 2) (by omega)
  rw [join1_two]
  simp
/-- So many joins. -/
def joins : Nat → List ByteArray → List ByteArray
  | 0, P => P
  | t + 1, P => joins t (join1 nd em P)
theorem joins_succ : ∀ (t : Nat) (P : List ByteArray), joins nd em (t + 1) P = join1 nd em (joins nd em t P)
  | 0, _ => rfl
  | t + 1, P => joins_succ t (join1 nd em P)
theorem joins_len : ∀ (t : Nat) (P : List ByteArray), t + 1 ≤ P.length → (joins nd em t P).length = P.length - t
  | 0, _, _ => rfl
  | t + 1, P, h => by
    have h1 := join1_len nd em (P := P) (by omega)
    show (joins nd em t (join1 nd em P)).length = _
    rw [joins_len t _ (by omega), h1]
    omega
theorem join1_cons (x : ByteArray) {P : List ByteArray} (h : 2 ≤ P.length) : join1 nd em (x :: P) = x :: join1 nd em P := by
  obtain ⟨Q, a, b, rfl, hq⟩ := two_last (P := P) (q := P.length - 2) (by omega)
  rw [join1_two, ← List.cons_append, join1_two]
  rfl
theorem joins_cons (x : ByteArray) : ∀ (t : Nat) (P : List ByteArray), t + 1 ≤ P.length → joins nd em t (x :: P) = x :: joins nd em t P
  | 0, _, _ => rfl
  | t + 1, P, h => by
    have h1 := join1_len nd em (P := P) (by omega)
    show joins nd em t (join1 nd em (x :: P)) = x :: joins nd em t (join1 nd em P)
    rw [join1_cons nd em x (by omega), joins_cons x t _ (by omega)]
theorem joins_mem {wd : Nat} (hn : ∀ l r, (nd l r).size = wd) : ∀ (t : Nat) (P : List ByteArray), (∀ s ∈ P, s.size = wd) → ∀ s ∈ joins nd em t P, s.size = wd
  | 0, _, h, s, hs => h s hs
  | t + 1, P, h, s, hs => by
    refine joins_mem hn t (join1 nd em P) (fun s hs => ?_) s hs
    rcases List.mem_append.1 hs with hs | hs
    · exact h s ((List.dropLast_sublist _).mem ((List.dropLast_sublist _).mem hs))
    · rw [List.mem_singleton.1 hs]; exact hn _ _
/-- A leaf more. -/
def growP (n : Nat) (P : List ByteArray) (x : ByteArray) : List ByteArray := joins nd em (ones 10 n) (P ++ [x])
theorem growP_len {n : Nat} {P : List ByteArray} {x : ByteArray} (h : n + 1 ≤ 512) (hP : P.length = pl n) : (growP nd em n P x).length = pl (n + 1) := by
  have h1 := pl_succ h
  have h2 := ones_pl h
  unfold growP
  rw [joins_len nd em _ _ (by simp; omega)]
  simp
  omega
theorem growP_mem {wd : Nat} (hn : ∀ l r, (nd l r).size = wd) {n : Nat} {P : List ByteArray} {x : ByteArray} (h : ∀ s ∈ P, s.size = wd) (hx : x.size = wd) : ∀ s ∈ growP nd em n P x, s.size = wd :=
  joins_mem nd em hn _ _ fun s hs => by
    rcases List.mem_append.1 hs with hs | hs
    · exact h s hs
    · rw [List.mem_singleton.1 hs]; exact hx
/-- Leaves more. -/
def grown : Nat → List ByteArray → List ByteArray → List ByteArray
  | _, P, [] => P
  | n, P, x :: t => grown (n + 1) (growP nd em n P x) t
theorem grown_append : ∀ (a b : List ByteArray) (n : Nat) (P : List ByteArray), grown nd em n P (a ++ b) = grown nd em (n + a.length) (grown nd em n P a) b
  | [], _, _, _ => rfl
  | x :: a, b, n, P => by
    show grown nd em (n + 1) (growP nd em n P x) (a ++ b) = _
    rw [grown_append a b]
    show _ = grown nd em (n + (a.length + 1)) (grown nd em (n + 1) (growP nd em n P x) a) b
    rw [Nat.add_right_comm, Nat.add_assoc]
theorem grown_len : ∀ (zs : List ByteArray) (n : Nat) (P : List ByteArray), n + zs.length ≤ 512 → P.length = pl n → (grown nd em n P zs).length = pl (n + zs.length)
  | [], _, _, _, h => h
  | x :: t, n, P, h5, h => by
    rw [List.length_cons] at h5
    show (grown nd em (n + 1) (growP nd em n P x) t).length = pl (n + (t.length + 1))
    rw [grown_len t (n + 1) _ (by omega) (growP_len nd em (by omega) h)]
    congr 1
    omega
theorem grown_mem {wd : Nat} (hn : ∀ l r, (nd l r).size = wd) : ∀ (zs : List ByteArray) (n : Nat) (P : List ByteArray), (∀ s ∈ P, s.size = wd) → (∀ s ∈ zs, s.size = wd) → ∀ s ∈ grown nd em n P zs, s.size = wd
  | [], _, _, h, _ => h
  | x :: t, n, P, h, hz => grown_mem hn t (n + 1) _ (growP_mem nd em hn h (hz x (by simp))) (fun s hs => hz s (by simp [hs]))

/-- The greatest power of two that is at most n. -/
def topOf (n : Nat) : Nat := 2 ^ Nat.log2 n
theorem top_spec {n : Nat} (h : 0 < n) : 0 < topOf n ∧ topOf n ≤ n ∧ n < 2 * topOf n := by
  obtain ⟨h3, h4⟩ := (Nat.log2_eq_iff (n := n) (k := Nat.log2 n) (by omega)).1 rfl
  unfold topOf
  rw [Nat.pow_succ] at h4
  exact ⟨Nat.two_pow_pos _, h3, by omega⟩
theorem top_uniq {n j : Nat} (h : 2 ^ j ≤ n) (h2 : n < 2 * 2 ^ j) : topOf n = 2 ^ j := by
  have h0 : n ≠ 0 := by have := Nat.two_pow_pos j; omega
  have : Nat.log2 n = j := (Nat.log2_eq_iff h0).2 ⟨h, by rw [Nat.pow_succ]; omega⟩
  rw [topOf, this]
/-- The peaks of a list of leaves: the roots of its blocks (fuel first). -/
def pkA : Nat → List ByteArray → List ByteArray
  | 0, _ => []
  | f + 1, zs => if zs.length = 0 then [] else rootT nd em (zs.take (topOf zs.length)) :: pkA f (zs.drop (topOf zs.length))
theorem pkA_fuel : ∀ (f g : Nat) (zs : List ByteArray), zs.length ≤ f → zs.length ≤ g → pkA nd em f zs = pkA nd em g zs
  | 0, 0, _, _, _ => rfl
  | 0, g + 1, zs, h, _ => by rw [pkA, pkA, if_pos (by omega)]
  | f + 1, 0, zs, _, h => by rw [pkA, pkA, if_pos (by omega)]
  | f + 1, g + 1, zs, hf, hg => by
    rw [pkA, pkA]
    by_cases h : zs.length = 0
    · rw [if_pos h, if_pos h]
    · obtain ⟨k0, k1, k2⟩ := top_spec (n := zs.length) (by omega)
      rw [if_neg h, if_neg h, pkA_fuel f g _ (by rw [List.length_drop]; omega) (by rw [List.length_drop]; omega)]
def pk (zs : List ByteArray) : List ByteArray := pkA nd em zs.length zs
theorem pk_nil : pk nd em [] = [] := rfl
theorem pk_more {zs : List ByteArray} (h : 0 < zs.length) : pk nd em zs = rootT nd em (zs.take (topOf zs.length)) :: pk nd em (zs.drop (topOf zs.length)) := by
  obtain ⟨k0, k1, k2⟩ := top_spec h
  have e : pk nd em zs = pkA nd em (zs.length - 1 + 1) zs := pkA_fuel nd em _ _ zs (Nat.le_refl _) (by omega)
  rw [e, pkA, if_neg (by omega)]
  unfold pk
  rw [pkA_fuel nd em (zs.length - 1) (zs.drop (topOf zs.length)).length _ (by rw [List.length_drop]; omega) (Nat.le_refl _)]
theorem pk_pow {zs : List ByteArray} {j : Nat} (h : zs.length = 2 ^ j) : pk nd em zs = [rootT nd em zs] := by
  have hp := Nat.two_pow_pos j
  have ht : topOf zs.length = zs.length := by rw [h]; exact top_uniq (Nat.le_refl _) (by omega)
  rw [pk_more nd em (by omega), ht, List.take_length, List.drop_length, pk_nil]
theorem ones_low : ∀ (f j m : Nat), m + 1 < 2 ^ j → 2 ^ j + m + 1 < 2 ^ f → ones f (2 ^ j + m) = ones f m
  | 0, j, m, h, h2 => rfl
  | f + 1, 0, m, h, h2 => by simp at h
  | f + 1, j + 1, m, h, h2 => by
    rw [Nat.pow_succ] at h h2
    rw [ones, ones, Nat.pow_succ]
    have e1 : (2 ^ j * 2 + m) % 2 = m % 2 := by omega
    have e2 : (2 ^ j * 2 + m) / 2 = 2 ^ j + m / 2 := by omega
    rw [e1, e2]
    split
    · rw [ones_low f j (m / 2) (by omega) (by rw [Nat.pow_succ] at h2; omega)]
    · rfl
theorem ones_all : ∀ (f j : Nat), 2 ^ j < 2 ^ f → ones f (2 ^ j - 1) = j
  | 0, j, h => by have := Nat.two_pow_pos j; simp at h
  | f + 1, 0, h => by simp [ones]
  | f + 1, j + 1, h => by
    have hp := Nat.two_pow_pos j
    rw [ones, Nat.pow_succ, if_pos (by omega), show (2 ^ j * 2 - 1) / 2 = 2 ^ j - 1 by omega, ones_all f j (by rw [Nat.pow_succ, Nat.pow_succ] at h; omega)]
theorem pk_grow : ∀ (n : Nat) (zs : List ByteArray), zs.length = n → n ≤ 512 → (pk nd em zs).length = pl n ∧ ∀ x, n + 1 ≤ 512 → growP nd em n (pk nd em zs) x = pk nd em (zs ++ [x]) := by
  intro n
  induction n using Nat.strongRecOn with
  | _ n ih =>
    intro zs hz h512
    have hlen : (pk nd em zs).length = pl n := by
      rcases List.eq_nil_or_concat zs with rfl | ⟨ys, y, rfl⟩
      · simp at hz; subst hz; rfl
      · rw [List.concat_eq_append] at hz ⊢
        rw [List.length_append] at hz
        simp at hz
        obtain ⟨h1, h2⟩ := ih ys.length (by omega) ys rfl (by omega)
        rw [← h2 y (by omega), growP_len nd em (by omega) h1, hz]
    refine ⟨hlen, fun x hx => ?_⟩
    by_cases h0 : n = 0
    · subst h0
      obtain rfl : zs = [] := List.eq_nil_of_length_eq_zero hz
      have e : pk nd em ([] ++ [x]) = [rootT nd em [x]] := pk_pow nd em (j := 0) rfl
      rw [e, rootT_one]
      rfl
    obtain ⟨k0, k1, k2⟩ := top_spec (n := n) (by omega)
    obtain ⟨j, hj⟩ : ∃ j, topOf n = 2 ^ j := ⟨_, rfl⟩
    rw [hj] at k0 k1 k2
    have hm := pk_more nd em (zs := zs) (by omega)
    rw [hz, hj] at hm
    obtain ⟨m, hmn⟩ : ∃ m, n = 2 ^ j + m := ⟨n - 2 ^ j, by omega⟩
    have hr : (zs.drop (2 ^ j)).length = m := by rw [List.length_drop]; omega
    obtain ⟨i1, i2⟩ := ih m (by omega) (zs.drop (2 ^ j)) hr (by omega)
    have g := i2 x (by omega)
    unfold growP at g ⊢
    rw [hm, List.cons_append]
    have ol := ones_pl (n := m) (by omega)
    by_cases hc : m + 1 < 2 ^ j
    · rw [hmn, ones_low 10 j m hc (by omega), joins_cons nd em _ _ _ (by simp; omega), g]
      have hl : (zs ++ [x]).length = n + 1 := by simp; omega
      have ht : topOf (zs ++ [x]).length = 2 ^ j := by rw [hl]; exact top_uniq (by omega) (by omega)
      rw [pk_more nd em (zs := zs ++ [x]) (by omega), ht, List.take_append_of_le_length (by omega), List.drop_append_of_le_length (by omega)]
    · have hm1 : m = 2 ^ j - 1 := by omega
      have hn1 : n = 2 ^ (j + 1) - 1 := by rw [Nat.pow_succ]; omega
      have h10 : 2 ^ (j + 1) < 2 ^ 10 := by omega
      have o1 : ones 10 n = ones 10 m + 1 := by
        rw [hn1, hm1, ones_all 10 (j + 1) h10, ones_all 10 j (by rw [Nat.pow_succ] at h10; omega)]
      have hl : (zs.drop (2 ^ j) ++ [x]).length = 2 ^ j := by simp; omega
      rw [o1, joins_succ, joins_cons nd em _ _ _ (by simp; omega), g, pk_pow nd em hl]
      have hl2 : (zs ++ [x]).length = 2 ^ (j + 1) := by rw [Nat.pow_succ]; simp; omega
      rw [pk_pow nd em hl2]
      have h2 : 2 ≤ (zs ++ [x]).length := by rw [hl2, Nat.pow_succ]; omega
      have hh : halfOf (zs ++ [x]).length = 2 ^ j := (half_uniq (p := 2 ^ j) h2 ⟨j, rfl⟩ (by rw [hl2, Nat.pow_succ]; omega) (by rw [hl2, Nat.pow_succ]; omega)).symm
      rw [rootT_more nd em h2, hh, List.take_append_of_le_length (by omega), List.drop_append_of_le_length (by omega)]
      rfl
theorem grown_pk (zs : List ByteArray) (h : zs.length ≤ 512) : grown nd em 0 [] zs = pk nd em zs := by
  have key : ∀ k, k ≤ zs.length → grown nd em 0 [] (zs.take k) = pk nd em (zs.take k) := by
    intro k
    induction k with
    | zero => intro _; simp [grown, pk_nil]
    | succ k ih =>
      intro hk
      rw [List.take_succ_eq_append_getElem (by omega), grown_append, ih (by omega), Nat.zero_add]
      have hl : (zs.take k).length = k := by rw [List.length_take]; omega
      rw [hl]
      show growP nd em k (pk nd em (zs.take k)) _ = _
      exact (pk_grow nd em k (zs.take k) hl (by omega)).2 _ (by omega)
  have := key zs.length (Nat.le_refl _)
  rwa [List.take_length] at this
/-- The peaks lead to the root. -/
def foldPk (P : List ByteArray) : ByteArray := if P = [] then em else P.dropLast.foldr nd (P.getLastD em)
theorem foldPk_cons (x : ByteArray) {P : List ByteArray} (h : P ≠ []) : foldPk nd em (x :: P) = nd x (foldPk nd em P) := by
  unfold foldPk
  rcases List.eq_nil_or_concat P with rfl | ⟨Q, y, rfl⟩
  · exact absurd rfl h
  · rw [List.concat_eq_append, if_neg (by simp), if_neg (by simp), ← List.cons_append, List.dropLast_concat, List.getLastD_concat, List.dropLast_concat, List.getLastD_concat]
    rfl
theorem pk_root : ∀ (n : Nat) (zs : List ByteArray), zs.length = n → foldPk nd em (pk nd em zs) = rootT nd em zs := by
  intro n
  induction n using Nat.strongRecOn with
  | _ n ih =>
    intro zs hz
    by_cases h0 : n = 0
    · subst h0
      obtain rfl : zs = [] := List.eq_nil_of_length_eq_zero hz
      rfl
    obtain ⟨k0, k1, k2⟩ := top_spec (n := n) (by omega)
    obtain ⟨j, hj⟩ : ∃ j, topOf n = 2 ^ j := ⟨_, rfl⟩
    rw [hj] at k0 k1 k2
    by_cases hn : n = 2 ^ j
    · rw [pk_pow nd em (hz.trans hn)]
      rfl
    · have hm := pk_more nd em (zs := zs) (by omega)
      rw [hz, hj] at hm
      have hd : (zs.drop (2 ^ j)).length = n - 2 ^ j := by rw [List.length_drop]; omega
      have hne : pk nd em (zs.drop (2 ^ j)) ≠ [] := by rw [pk_more nd em (by omega)]; simp
      rw [hm, foldPk_cons nd em _ hne, ih (n - 2 ^ j) (by omega) _ hd]
      have h2 : 2 ≤ zs.length := by omega
      have hh : halfOf zs.length = 2 ^ j := (half_uniq (p := 2 ^ j) h2 ⟨j, rfl⟩ (by omega) (by omega)).symm
      rw [rootT_more nd em h2, hh]
end
/-- How often two hashes are joined. -/
def madeP : Nat → List ByteArray → Nat
  | _, [] => 0
  | n, _ :: t => ones 10 n + madeP (n + 1) t
theorem madeP_append : ∀ (a b : List ByteArray) (n : Nat), madeP n (a ++ b) = madeP n a + madeP (n + a.length) b
  | [], _, n => by simp [madeP]
  | x :: a, b, n => by
    show ones 10 n + madeP (n + 1) (a ++ b) = ones 10 n + madeP (n + 1) a + madeP (n + (a.length + 1)) b
    have e : n + 1 + a.length = n + (a.length + 1) := by omega
    rw [madeP_append a b, e]
    omega
theorem madeP_bound : ∀ (zs : List ByteArray) (n : Nat), madeP n zs ≤ 10 * zs.length
  | [], _ => by simp [madeP]
  | x :: t, n => by
    have h1 := ones_bound 10 n
    have h2 := madeP_bound t (n + 1)
    simp only [madeP, List.length_cons]
    omega
end Go.Proofs.Ytcebpfhokacccaa

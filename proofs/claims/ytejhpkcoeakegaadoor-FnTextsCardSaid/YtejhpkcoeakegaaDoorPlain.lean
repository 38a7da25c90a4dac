/-
  Plain arithmetic: the rotation of a word, as a sum of its two parts. No program in sight.
-/
import Derived.Laws.BitsAllLaws
import Derived.Tactics
import Derived.Below
import Derived.Deep.Draws
namespace Go.Proofs.YtejhpkcoeakegaaDoor
set_option linter.unusedVariables false

open Go.RowKit in
theorem hide {p : Prop} (h : p) : Hid p := h

open Go.RowKit in
theorem bel_drewN {B : Nat} {a w : World} (h : Below B a w) (n : Nat) : Below B a (w.drewN n) := h.trans ⟨rfl, rfl, rfl, Nat.le_refl _, fun _ _ => rfl⟩

theorem ret_int {k : IntKind} {a b : Int} (h : a = b) : Ending.returned (.int k a) = .returned (.int k b) := by rw [h]
theorem ret_str {a b : ByteArray} (h : a = b) : Ending.returned (.string a) = .returned (.string b) := by rw [h]
theorem ret_bool {a b : Bool} (h : a = b) : Ending.returned (.bool a) = .returned (.bool b) := by rw [h]

/-- A word turned k places to the left. -/
def rotl (x k : Nat) : Nat := x * 2 ^ k % 4294967296 + x / 2 ^ (32 - k)

theorem rotl_zero (x : Nat) (h : x < 4294967296) : rotl x 0 = x := by
  unfold rotl; omega

theorem rotl_eq (x k A B : Nat) (hA : A = 2 ^ k) (hB : B = 2 ^ (31 - k)) (hk : k < 32) : rotl x k = x % B * A + x / B % 2 * 2147483648 + x / B / 2 ∧ rotl x (k + 1) = x % B * A * 2 + x / B := by
  have hAB : B * A = 2147483648 := by rw [hA, hB, ← Nat.pow_add, show 31 - k + k = 31 by omega]
  have e0 : 2 ^ (32 - k) = B * 2 := by rw [hB, ← Nat.pow_succ, show (31 - k).succ = 32 - k by omega]
  have e1 : 2 ^ (32 - (k + 1)) = B := by rw [hB, show 32 - (k + 1) = 31 - k by omega]
  have e2 : 2 ^ (k + 1) = A * 2 := by rw [hA, Nat.pow_succ]
  unfold rotl
  rw [e0, e1, e2, ← hA]
  constructor
  · have e3 : 4294967296 = B * 2 * A := by rw [Nat.mul_right_comm, hAB]
    rw [e3, Nat.mul_mod_mul_right, Nat.mod_mul, Nat.add_mul, Nat.div_div_eq_div_mul, Nat.mul_right_comm B, hAB, Nat.mul_comm 2147483648]
  · have e3 : 4294967296 = B * (A * 2) := by rw [← Nat.mul_assoc, hAB]
    rw [e3, Nat.mul_mod_mul_right, Nat.mul_assoc]

theorem rotl_parts (x k A B : Nat) (hA : A = 2 ^ k) (hB : B = 2 ^ (31 - k)) (h : x < 4294967296) (hk : k < 32) : x % B * A + A ≤ 2147483648 ∧ x / B / 2 < A := by
  have hAB : B * A = 2147483648 := by rw [hA, hB, ← Nat.pow_add, show 31 - k + k = 31 by omega]
  have hB0 : 0 < B := by rw [hB]; exact Nat.two_pow_pos _
  constructor
  · have h1 : x % B + 1 ≤ B := Nat.mod_lt _ hB0
    have h2 := Nat.mul_le_mul_right A h1
    rw [Nat.add_mul, hAB] at h2
    omega
  · rw [Nat.div_div_eq_div_mul]
    refine Nat.div_lt_of_lt_mul ?_
    rw [Nat.mul_right_comm, hAB]
    exact h

theorem rotl_succ (x k : Nat) (h : x < 4294967296) (hk : k < 32) : rotl x k * 2 % 4294967296 + rotl x k / 2147483648 = rotl x (k + 1) := by
  obtain ⟨e1, e2⟩ := rotl_eq x k _ _ rfl rfl hk
  obtain ⟨h1, h2⟩ := rotl_parts x k _ _ rfl rfl h hk
  rw [e1, e2]
  generalize x % 2 ^ (31 - k) * 2 ^ k = P at *
  generalize x / 2 ^ (31 - k) = y at *
  generalize 2 ^ k = A at *
  rcases Nat.mod_two_eq_zero_or_one y with hy | hy <;> rw [hy] <;> omega

theorem rotl_lt (x k : Nat) (h : x < 4294967296) (hk : k < 32) : rotl x k < 4294967296 := by
  obtain ⟨e1, -⟩ := rotl_eq x k _ _ rfl rfl hk
  obtain ⟨h1, h2⟩ := rotl_parts x k _ _ rfl rfl h hk
  rw [e1]
  generalize x % 2 ^ (31 - k) * 2 ^ k = P at *
  generalize x / 2 ^ (31 - k) = y at *
  generalize 2 ^ k = A at *
  omega

/-- The two parts have no bit in common. -/
theorem rotl_or (x k : Nat) (h : x < 4294967296) (hk : k ≤ 32) : x * 2 ^ k % 4294967296 ||| x / 2 ^ (32 - k) = rotl x k := by
  unfold rotl
  refine nat_join k _ _ ?_ ?_
  · have e : 4294967296 = 2 ^ (32 - k) * 2 ^ k := by rw [← Nat.pow_add, show 32 - k + k = 32 by omega]
    rw [e, Nat.mul_mod_mul_right]
    exact Nat.mul_mod_left _ _
  · have e : (4294967296 : Nat) = 2 ^ k * 2 ^ (32 - k) := by rw [← Nat.pow_add, show k + (32 - k) = 32 by omega]
    exact Nat.div_lt_of_lt_mul (by rw [Nat.mul_comm, ← e]; exact h)

theorem and31 (n : Int) : bits .and .u64 (IntKind.u64.wrap (n.tmod 32)) 31 = n % 32 := by
  have e : IntKind.u64.wrap (n.tmod 32) = n.tmod 32 % 18446744073709551616 := by simp [IntKind.wrap, IntKind.bits, IntKind.signed]
  rw [u64_and _ _ (by omega) (by omega) (by decide) (by decide)]
  have e2 : (31 : Int).toNat = 31 := rfl
  rw [e2, nat_mask5, e]
  have e3 : (n.tmod 32) % 32 = n % 32 := by
    rw [Int.tmod_eq_emod]
    split <;> omega
  omega

end Go.Proofs.YtejhpkcoeakegaaDoor

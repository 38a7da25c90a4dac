/-
  Plain: a numeral of at most fifteen figures reads back as its number; one with a nought ahead does not.
-/
import Derived.Test.YtejhpkcoeakegaaDoorReadDec
namespace Go.Proofs.YtejhpkcoeakegaaDoor
set_option linter.unusedVariables false
open Go.RowKit

theorem numL_append (l : List UInt8) (b : UInt8) : numL (l ++ [b]) = 10 * numL l + (b.toNat - 48) := by
  unfold numL; rw [List.foldl_append]; rfl
theorem fig_nat {d : Nat} (h : d < 10) : (UInt8.ofNat (48 + d)).toNat = 48 + d := by
  rw [UInt8.toNat_ofNat']; omega
theorem fig_digB {d : Nat} (h : d < 10) : digB (UInt8.ofNat (48 + d)) = true := by
  unfold digB; rw [fig_nat h]; simp; omega
theorem figs_all : ∀ (m : Nat), numL (figs m) = m ∧ (figs m).all digB = true := by
  intro m
  induction m using Nat.strongRecOn with
  | ind m ih =>
    by_cases h : m = 0
    · subst h; exact ⟨rfl, rfl⟩
    · obtain ⟨h1, h2⟩ := ih (m / 10) (by omega)
      have hd := Nat.mod_lt m (show 0 < 10 by omega)
      rw [figs_step h, numL_append, h1, fig_nat hd, List.all_append, h2]
      refine ⟨by omega, ?_⟩
      rw [List.all_cons, fig_digB hd]; rfl
theorem figs_len : ∀ (k m : Nat), m < 10 ^ k → (figs m).length ≤ k := by
  intro k
  induction k with
  | zero => intro m h; have : m = 0 := by simpa using h
            subst this; exact Nat.le_refl _
  | succ k ih =>
    intro m h
    by_cases h0 : m = 0
    · subst h0; exact Nat.zero_le _
    · rw [figs_step h0, List.length_append]
      have := ih (m / 10) (by rw [Nat.pow_succ] at h; omega)
      simp; omega
/-- The numeral of m: its figures, or "0". -/
theorem itoa_nat (m : Nat) : Lib.itoa (m : Int) = if m = 0 then [48] else figs m := by
  by_cases h : m = 0
  · subst h; rw [if_pos rfl]; exact itoa_zero
  · rw [if_neg h, itoa_pos (by omega), Int.natAbs_natCast]
theorem itoa_all (m : Nat) : numL (Lib.itoa (m : Int)) = m ∧ (Lib.itoa (m : Int)).all digB = true := by
  rw [itoa_nat]; split
  · subst_vars; exact ⟨rfl, by decide⟩
  · exact figs_all m
theorem itoa_len (m : Nat) (h : m < 10 ^ 15) : (Lib.itoa (m : Int)).length ≤ 15 := by
  rw [itoa_nat]; split
  · simp
  · exact figs_len 15 m h
theorem dec_list (n : Int) : (dec n).data.toList = Lib.itoa n := rfl
theorem dec_size (n : Int) : (dec n).size = (Lib.itoa n).length := by
  show (Lib.itoa n).toArray.size = _; simp
/-- P1: what Decimal wrote is read back. -/
theorem rd_dec (m : Nat) (h : m < 1000000000000000) : rdOk (dec (m : Int)) = true ∧ rdN (dec (m : Int)) = m := by
  have e : rdOk (dec (m : Int)) = true := by
    unfold rdOk
    rw [dec_list, (itoa_all m).2, (itoa_all m).1, dec_size, decide_eq_true (itoa_len m h), decide_eq_true rfl]; rfl
  refine ⟨e, ?_⟩
  rw [rd_yes e, dec_list, (itoa_all m).1]
/-- P1: with a nought ahead it is not read. -/
theorem rd_nought (m : Nat) : rdOk ((⟨#[48]⟩ : ByteArray) ++ dec (m : Int)) = false := by
  have el : ((⟨#[48]⟩ : ByteArray) ++ dec (m : Int)).data.toList = 48 :: Lib.itoa (m : Int) := by
    rw [ByteArray.data_append, Array.toList_append, dec_list]; rfl
  have en : numL (48 :: Lib.itoa (m : Int)) = m := by
    have : numL (48 :: Lib.itoa (m : Int)) = numL (Lib.itoa (m : Int)) := rfl
    rw [this, (itoa_all m).1]
  unfold rdOk
  rw [el, en]
  have : decide (dec (m : Int) = (⟨#[48]⟩ : ByteArray) ++ dec (m : Int)) = false := by
    rw [decide_eq_false_iff_not]
    intro e
    have := congrArg ByteArray.size e
    rw [ByteArray.size_append] at this
    have h1 : (⟨#[48]⟩ : ByteArray).size = 1 := rfl
    omega
  rw [this, Bool.and_false]
end Go.Proofs.YtejhpkcoeakegaaDoor

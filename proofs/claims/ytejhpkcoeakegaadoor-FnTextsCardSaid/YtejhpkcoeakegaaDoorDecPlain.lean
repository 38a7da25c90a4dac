/-
  Plain: the decimal numeral, laid figure by figure from the back. No program in sight.
-/
import Derived.Test.YtejhpkcoeakegaaDoorPlain
import Derived.Lib.ItoaNum
namespace Go.Proofs.YtejhpkcoeakegaaDoor
set_option linter.unusedVariables false
open Go.Lib

/-- The figures of u; none of 0. -/
def figs (u : Nat) : List UInt8 := if u = 0 then [] else decDigits u
theorem figs_zero : figs 0 = [] := rfl
theorem figs_pos {u : Nat} (h : u ≠ 0) : figs u = decDigits u := if_neg h
theorem figs_step {u : Nat} (h : u ≠ 0) : figs u = figs (u / 10) ++ [UInt8.ofNat (48 + u % 10)] := by
  rw [figs_pos h]
  by_cases hs : u < 10
  · rw [decDigits, dif_pos hs, Nat.div_eq_of_lt hs, figs_zero, Nat.mod_eq_of_lt hs]; rfl
  · rw [decDigits, dif_neg hs, figs_pos (by omega)]
/-- What the sign and the figures make. -/
theorem itoa_neg {n : Int} (h : n < 0) : itoa n = 45 :: figs n.natAbs := by
  unfold itoa; rw [if_pos h, figs_pos (by omega)]
theorem itoa_pos {n : Int} (h : 0 < n) : itoa n = figs n.natAbs := by
  unfold itoa; rw [if_neg (by omega), figs_pos (by omega)]
  congr 1; omega
theorem itoa_zero : itoa 0 = [48] := by
  unfold itoa; rw [if_neg (by omega)]
  show decDigits 0 = [48]
  rw [decDigits, dif_pos (by omega)]; rfl
end Go.Proofs.YtejhpkcoeakegaaDoor

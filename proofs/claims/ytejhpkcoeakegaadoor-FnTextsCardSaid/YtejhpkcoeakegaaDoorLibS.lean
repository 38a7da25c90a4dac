/-
  The walks of the laws' helpers on slices of strings: equal, mark, held, copy.
-/
import Derived.Test.YtejhpkcoeakegaaDoorBase
import Derived.Test.YtejhpkcoeakegaaDoorRows
import Derived.WalkKit
import Derived.WalkLawsBesides
import Derived.WalkSpells
import Derived.LoopTactic
import Derived.Deep.QuietTactic
import Derived.BigQuiet
import Derived.IntWalk
namespace Go.Proofs.YtejhpkcoeakegaaDoor
set_option linter.unusedVariables false
open Go.RowKit

set_option maxHeartbeats 400000 in
theorem l_eqStringS (zs : List ByteArray) (A A' : Option Addr) (c c' L H L' H' : Nat) (w : World) (h : Rd w L H A (strs zs)) (h' : Rd w L' H' A' (strs zs)) (hn : zs.length ≤ 9223372036854775807) :
    Calls Tryd.prog 14 #[.slice A zs.length c, .slice A' zs.length c'] w fun e w' => e = .returned (.bool true) ∧ ∃ n, w.drewN n = w' := by
  have H1 := hide h
  have H2 := hide h'
  clear h h'
  go_enter Tryd.func14, Tryd.ntmps14
  go_wp2
  go_loopw [5] (fun i wr => ∃ j : Nat, j ≤ zs.length ∧ i = .int .i64 j ∧ ∃ n, w.drewN n = wr) (fun i _ => zs.length - (intOf i).toNat)
  case atStart => exact ⟨0, Nat.zero_le _, rfl, 0, rfl⟩
  case round =>
    obtain ⟨j, hj, rfl, n, rfl⟩ := hrel
    by_cases hlt : j < zs.length
    · have hlt' : (j : Int) < (zs.length : Int) := by omega
      have hl2 : j < (strs zs).length := by rw [length_strs]; exact hlt
      obtain ⟨ad, rfl, _, _, hc⟩ := H1.out.at_ hl2
      obtain ⟨ad', rfl, _, _, hc'⟩ := H2.out.at_ hl2
      rw [strs_get] at hc hc'
      go_wp2
      go_quiet (fail)
      go_wp2
      go_roundw
      case rel => exact ⟨j + 1, by omega, by go_num, _, rfl⟩
      case measure => simp [intOf]; omega
    · go_wp2
      go_ret
      exact ⟨rfl, _, rfl⟩
end Go.Proofs.YtejhpkcoeakegaaDoor

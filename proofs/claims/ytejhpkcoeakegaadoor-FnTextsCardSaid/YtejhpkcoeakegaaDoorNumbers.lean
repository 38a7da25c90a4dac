/-
  The walks of DrawDecimal and big.
-/
import Derived.Test.YtejhpkcoeakegaaDoorNumBack
import Derived.Test.YtejhpkcoeakegaaDoorDraw
namespace Go.Proofs.YtejhpkcoeakegaaDoor
set_option linter.unusedVariables false
open Go.RowKit

theorem l_big_no (code : List Int) (A : Option Addr) (c : Nat) (h : code.length ≤ 1048576) (w : World) :
    Calls Tryd.prog 9 #[.slice A code.length c] w fun e w' => e = .returned (.bool false) ∧ w = w' := by
  have d : decide ((1048576 : Int) < (code.length : Int)) = false := by simp; omega
  go_enter Tryd.func9, Tryd.ntmps9
  go_wp2
  go_ret
  exact ⟨rfl, rfl⟩
theorem l_big_yes (code : List Int) (A : Option Addr) (c : Nat) (h : 1048576 < code.length) (w : World) :
    Calls Tryd.prog 9 #[.slice A code.length c] w fun e w' => e = .returned (.bool true) ∧ w = w' := by
  have d : (1048576 : Int) < (code.length : Int) := by omega
  go_enter Tryd.func9, Tryd.ntmps9
  go_wp2
  go_ret
  exact ⟨rfl, rfl⟩
set_option maxRecDepth 100000 in
set_option maxHeartbeats 1000000 in
theorem s_DrawDecimal (code : List Int) (A : Option Addr) (c L H : Nat) (w : World) (h : Rd w L H A (ints .u8 code)) (hc : ∀ b ∈ code, 0 ≤ b ∧ b ≤ 255) (hn : code.length ≤ 1048576) :
    Calls Tryd.prog 10 #[.slice A code.length c] w fun e w' => ∃ n : Int, e = .returned (.int .i64 n) ∧ Below w.heap.size w w' := by
  have HR := hide h
  have HC := hide hc
  clear h hc
  go_enter Tryd.func10, Tryd.ntmps10
  go_wp2_with fail
  refine (s_l01New code A c L H _ HR.out HC.out hn).mono ?_
  rintro e w1 ⟨rfl, hk, hb⟩
  have K1 := hide hk
  have F1 := hide hb
  have L1 := hk.lt
  clear hk hb
  go_wp2_with fail
  refine (s_l01Below _ _ _ K1.out).mono ?_
  rintro e w2 ⟨x, rfl, x0, x1, -, hk, hg⟩
  have K2 := hide hk
  have F2 := hide (bel_chg F1.out hg F1.out.size (.inl (Nat.le_refl _)))
  have L2 := hk.lt
  clear hk hg
  replace x1 := x1 (by omega)
  have hx : x = 0 ∨ x = 1 ∨ 2 ≤ x := by omega
  rcases hx with rfl | rfl | hx
  · go_wp2_with fail
    refine (s_l01PickInt _ [0, -1, 9223372036854775807, -9223372036854775808, 10, -10, 99, 100] _ _ _ _ _ (K2.out.alloc _) (Rd.made _ _ _ rfl) L2 (by simp) (by simp)).mono ?_
    rintro e w3 ⟨v, rfl, -, hk, hg⟩
    have K3 := hide hk
    have L3 := hk.lt
    have F3 := hide (bel_chg (F2.out.alloc F2.out.size _) hg (by have := F2.out.size; simp; omega) (.inl (Nat.le_refl _)))
    clear hk hg
    go_wp2
    go_ret
    exact ⟨_, rfl, F3.out⟩
  · go_wp2_with fail
    refine (s_l01Below _ _ _ K2.out).mono ?_
    rintro e w3 ⟨y, rfl, y0, y1, -, hk, hg⟩
    have K3 := hide hk
    have F3 := hide (bel_chg F2.out hg F2.out.size (.inl (Nat.le_refl _)))
    have L3 := hk.lt
    clear hk hg
    replace y1 := y1 (by omega)
    go_wp2
    go_ret
    exact ⟨_, rfl, F3.out⟩
  · have d0 : (x == 0) = false := by simp only [beq_eq_false_iff_ne]; omega
    have d1 : (x == 1) = false := by simp only [beq_eq_false_iff_ne]; omega
    go_wp2_with fail
    refine (s_l01Below _ _ _ K2.out).mono ?_
    rintro e w3 ⟨y, rfl, y0, y1, -, hk, hg⟩
    have K3 := hide hk
    have F3 := hide (bel_chg F2.out hg F2.out.size (.inl (Nat.le_refl _)))
    have L3 := hk.lt
    clear hk hg
    replace y1 := y1 (by omega)
    go_wp2_with fail
    refine (s_l01Below _ _ _ K3.out).mono ?_
    rintro e w4 ⟨z, rfl, z0, z1, -, hk, hg⟩
    have K4 := hide hk
    have F4 := hide (bel_chg F3.out hg F3.out.size (.inl (Nat.le_refl _)))
    have L4 := hk.lt
    clear hk hg
    replace z1 := z1 (by omega)
    go_wp2
    go_ret
    exact ⟨_, rfl, F4.out⟩
end Go.Proofs.YtejhpkcoeakegaaDoor

/-
  The law 'FnExactTextOf' returns true, at every input, under no condition: the statement 'Rows.FnExactTextOfSaid'. The walk takes the functions that the law calls by their contracts; the frame about it opens the arguments and hands them back as they were.
-/
import Derived.Test.YticpedlcfakaeaaTextOf
import Derived.Test.YticpedlcfakaeaaLibU
import Derived.Test.YticpedlcfakaeaaOpen
import Derived.Test.YticpedlcfakaeaaRows
import Derived.WalkKit
import Derived.ProofKit
import Derived.OpenShut
import Derived.ShutString
import Derived.ChangeOld
import Derived.Below
namespace Go.Proofs.Yticpedlcfakaeaa.fnExactTextOf
open Go.Joins (open_agg2 open_agg3)
open Go.ChangeShapes Go.WideShapes Go.ChangeAt Go.RowKit
open Go.ChangeMaps (open_string shut_string)
set_option linter.unusedVariables false

theorem own : ownKnob Try.prog.godebug = none := by kernel_rfl
theorem laidOut : laidOutB Try.prog = true := by kernel_rfl

set_option maxHeartbeats 2000000 in
theorem walk (a0 : Option Addr) (cap0 : Nat) (z0 : List Int) (w : World) (w0 : Rd w 0 w.heap.size a0 (ints .u32 z0)) (l0 : z0.length ≤ cap0 ∧ cap0 ≤ maxLen) (b0 : ∀ n ∈ z0, (Lit.int .u32 n).wf = true) :
    Calls Try.prog 3 #[.slice a0 z0.length cap0] w fun e w' => e = .returned (.bool true) ∧ Below w.heap.size w w' := by
  unfold maxLen at l0
  have hl0 : z0.length ≤ 9223372036854775807 := by omega
  have H0 := hide w0
  have HZ := hide (wordsOk_of b0)
  clear w0 b0 l0
  by_cases hl : (z0.length : Int) ≤ 1048576
  · go_enter Try.func3, Try.ntmps3
    go_wp2_with fail
    refine (l_toUint32S _ _ _ _ _ _ H0.out (by omega)).mono ?_
    rintro e w_1 ⟨A1, c1, rfl, hb1, ho1⟩
    have a0_1 := hide (H0.out.below hb1)
    clear H0
    have X_1 := hide ho1
    have bb1 := hide hb1
    have sz1 := hide hb1.size
    clear hb1 ho1
    go_wp2_with fail
    refine (s_TextOf _ HZ.out hl0 _ _ _ _ _ X_1.out.rd).mono ?_
    rintro e w_2 ⟨rfl, hb2⟩
    have a0_2 := hide (a0_1.out.below hb2)
    clear a0_1
    have X_2 := hide (X_1.out.below hb2)
    clear X_1
    have bb2 := hide (bel_new bb1.out hb2 bb1.out.size)
    clear bb1
    have sz2 := hide hb2.size
    clear hb2
    clear X_2
    go_wp2_with fail
    refine (l_toUint32S _ _ _ _ _ _ a0_2.out (by omega)).mono ?_
    rintro e w_3 ⟨A3, c3, rfl, hb3, ho3⟩
    have a0_3 := hide (a0_2.out.below hb3)
    clear a0_2
    have X_3 := hide ho3
    have bb3 := hide (bel_new bb2.out hb3 bb2.out.size)
    clear bb2
    have sz3 := hide hb3.size
    clear hb3 ho3
    go_wp2_with fail
    refine (i_TextOf _ HZ.out hl0 _ _ _ _ _ X_3.out.rd).mono ?_
    rintro e w_4 ⟨rfl, hb4⟩
    have a0_4 := hide (a0_3.out.below hb4)
    clear a0_3
    have X_4 := hide (X_3.out.below hb4)
    clear X_3
    have bb4 := hide (bel_new bb3.out hb4 bb3.out.size)
    clear bb3
    have sz4 := hide hb4.size
    clear hb4
    go_wp2_with fail
    refine (l_toUint32S _ _ _ _ _ _ a0_4.out (by omega)).mono ?_
    rintro e w_5 ⟨A5, c5, rfl, hb5, ho5⟩
    have a0_5 := hide (a0_4.out.below hb5)
    clear a0_4
    have X_5 := hide (X_4.out.below hb5)
    clear X_4
    have Z_5 := hide ho5
    have bb5 := hide (bel_new bb4.out hb5 bb4.out.size)
    clear bb4
    have sz5 := hide hb5.size
    clear hb5 ho5
    go_wp2_with fail
    refine (l_eqUint32S _ _ _ _ _ _ _ _ _ _ X_5.out.rd Z_5.out.rd hl0).mono ?_
    rintro e w_6 ⟨rfl, n6, hw6⟩
    have hb6 := below_of_drewN hw6
    clear hw6
    have a0_6 := hide (a0_5.out.below hb6)
    clear a0_5
    have X_6 := hide (X_5.out.below hb6)
    clear X_5
    have Z_6 := hide (Z_5.out.below hb6)
    clear Z_5
    have bb6 := hide (bel_new bb5.out hb6 bb5.out.size)
    clear bb5
    have sz6 := hide hb6.size
    clear hb6
    go_wp2
    go_ret
    exact ⟨rfl, bb6.out⟩
  · have hl3 : (1048576 : Int) < z0.length := by omega
    go_enter Try.func3, Try.ntmps3
    go_wp2
    go_ret
    exact ⟨rfl, Below.refl _ _⟩

set_option maxRecDepth 100000 in
theorem lifted (os : Os) (started : os.Started) (H : Type) (enc : TypeId × Value → H) :
    ReturnsInHanded {} Try.checked os 3 .any (Rows.fnExactTextOfSpec.pre6 enc Try.prog Try.f3 Rows.fnExactTextOfRow.domain false) (Rows.fnExactTextOfSpec.post enc Try.prog Try.f3 false true false false) := by
  refine returnsInHanded_of_change (C := Try.checked) own started (by kernel_rfl) Try.func3
    (ChangeSpec.witness6 (enc := enc) (C := Try.checked) false ⟨#[], #[.slice none 0 0], []⟩ 8 (by kernel_rfl) (by kernel_rfl) (by kernel_rfl) (by kernel_rfl)) ?_
  intro W base args ds gs before hval0 hW hcnd _
  have hval : ∀ (j : Nat) t v, Try.f3.params[j]? = some t → args[j]? = some v → Value.okWide Try.prog W .any base t v := hval0
  have hW' := hW
  obtain ⟨p, q, hA0, hV, rfl, hfz, hnd⟩ := hW
  have hA : DataW.TrodAll enc Try.prog W 0 (fun _ => true) true Try.f3.params.toList args.toList ds p := hA0
  rw [Try.params3] at hA hval
  obtain ⟨v0, vs0, d0, ds0, p0, q0, hargs, rfl, rfl, h0, r0⟩ := trodAll_cons hA
  obtain ⟨rfl, rfl, rfl⟩ := trodAll_nil r0
  obtain rfl : args = #[v0] := by cases args; simp_all
  obtain ⟨rfl, rfl⟩ := trodVars_none hV
  have k0 := h0
  have lt0 : ∀ x ∈ p0, x.block < W.heap.size := by obtain ⟨m, hm⟩ := k0; exact DataW.trod_lt m _ _ _ hm
  obtain ⟨A0, L0, C0, rfl⟩ := okWide_slice Try.underlying22 (hval 0 22 v0 rfl rfl)
  obtain ⟨fuel0, hf0⟩ := h0
  obtain ⟨a0, cap0, z0, ea0, w0, l0, b0⟩ := rd_ints (v := .slice A0 L0 C0) Try.underlying22 Try.underlying51 (by kernel_rfl) (by simpa [Value.cells] using hf0)
  simp only [Value.slice.injEq] at ea0
  obtain ⟨xa0, ya0, ta0⟩ := ea0
  replace xa0 := xa0.symm
  replace ta0 := ta0.symm
  subst xa0
  subst ta0
  subst ya0
  clear hA0 hval0
  refine (walk a0 cap0 z0 W w0 l0 b0).mono fun e W' ⟨he, bel⟩ => ?_
  subst he
  exact ⟨_, rfl, _, _, _, [], _, [], hW', trodAll_mk1 (shut_bool Try.underlying4 _), (trodAll_cons_mk (Below.trod laidOut (by kernel_rfl) (of_decide_eq_true (by kernel_rfl)) k0 bel lt0) trodAll_mk0), rfl, bel.frame _, fun h => by cases h⟩

theorem over : Rows.fnExactTextOfRow.holds Try.pinned (OpenSpec.ofChange Rows.fnExactTextOfSpec) :=
  OpenClaim.holds_of_wide 3 Try.f3 rfl rfl rfl rfl rfl rfl rfl ⟨rfl, rfl, rfl, rfl, rfl⟩ rfl rfl rfl rfl rfl (by kernel_rfl) Try.func3 (by kernel_rfl)
    (of_decide_eq_true (by kernel_rfl)) (by unfold Func.isWrapper; first | (rw [if_pos (by decide +kernel)]; kernel_rfl) | (rw [if_neg (by decide +kernel)]; exact ⟨rfl, rfl⟩))
    (fun os started H enc _ => lifted os started H enc)

theorem proved : Rows.FnExactTextOfSaid := over
#print axioms proved
end Go.Proofs.Yticpedlcfakaeaa.fnExactTextOf

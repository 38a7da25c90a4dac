/-
  The law 'FnExactStartOf' returns true, at every input, under no condition: the statement 'Rows.FnExactStartOfSaid'. The walk takes the functions that the law calls by their contracts; the frame about it opens the arguments and hands them back as they were.
-/
import Derived.Test.YthojmampibgcbaaStart
import Derived.Test.YthojmampibgcbaaLibU
import Derived.Test.YthojmampibgcbaaRows
import Derived.WalkKit
import Derived.ProofKit
import Derived.OpenShut
import Derived.ShutString
import Derived.ChangeOld
import Derived.Below
namespace Go.Proofs.Ythojmampibgcbaa.fnExactStartOf
open Go.ChangeShapes Go.WideShapes Go.ChangeAt Go.RowKit
open Go.ChangeMaps (open_string shut_string)
set_option linter.unusedVariables false

theorem own : ownKnob Try.prog.godebug = none := by kernel_rfl

set_option maxHeartbeats 2000000 in
theorem walk (a0 : Int) (w : World) (w0 : (Lit.int .i64 a0).wf = true) :
    Calls Try.prog 13 #[.int .i64 a0] w fun e w' => e = .returned (.bool true) ∧ Below w.heap.size w w' := by
  clear w0
  have hn := startI_len a0
  have hn1 : (startI a0).length ≤ 9223372036854775807 := by omega
  go_enter Try.func13, Try.ntmps13
  go_wp2_with (go_at_call 48; refine (s_StartOf _ _).mono ?_; rintro e w1 ⟨A1, c1, rfl, hb1, ho1⟩; have O1 := hide ho1; have b1 := hide hb1; clear ho1 hb1)
  go_wp2_with (go_at_call 49; refine (i_StartOf _ _).mono ?_; rintro e w2 ⟨A2, c2, rfl, hb2, ho2⟩; have P2 := hide (O1.out.below hb2); have O2 := hide ho2; have b2 := hide (bel_new b1.out hb2 b1.out.size); have k1 := hide (And.intro b1.out.size hb2.size); clear ho2 hb2)
  go_wp2_with (go_at_call 45; refine (l_eqUint32S _ _ _ _ _ _ _ _ _ _ O2.out.rd P2.out.rd hn1).mono ?_; rintro e w3 ⟨rfl, n3, rfl⟩)
  go_wp2_with (go_at_call 46; refine (l_markUint32S 1 (startI a0) _ _ _ _ (O2.out.drewN _) (by omega) (by omega)).mono ?_; rintro e w4 ⟨rfl, hc4, ho4, hs4⟩; have P4 := hide ((P2.out.drewN n3).chg hc4 (.inl (Nat.le_refl _))); have O4 := hide ho4; have b4 := hide (bel_chg (bel_drewN b2.out n3) hc4 (by have := b2.out.size; exact this) (.inl k1.out.1)); clear hc4 ho4 hs4)
  go_wp2_with (go_at_call 47; refine (l_heldUint32S 1 (startI a0).length _ _ _ _ _ O4.out.rd (by omega) (by omega)).mono ?_; rintro e w5 ⟨rfl, n5, rfl⟩)
  go_wp2_with (go_at_call 49; refine (i_StartOf _ _).mono ?_; rintro e w6 ⟨A6, c6, rfl, hb6, ho6⟩; have P6 := hide ((P4.out.drewN n5).below hb6); have Q6 := hide ((O4.out.drewN n5).below hb6); have O6 := hide ho6; have b6 := hide (bel_new (bel_drewN b4.out n5) hb6 (by have := b4.out.size; exact this)); clear ho6 hb6)
  go_wp2_with (go_at_call 45; refine (l_eqUint32S _ _ _ _ _ _ _ _ _ _ O6.out.rd P6.out.rd hn1).mono ?_; rintro e w7 ⟨rfl, n7, rfl⟩)
  go_wp2_with (go_at_call 47; refine (l_heldUint32S 1 (startI a0).length _ _ _ _ _ (Q6.out.drewN _).rd (by omega) (by omega)).mono ?_; rintro e w8 ⟨rfl, n8, rfl⟩)
  go_ret
  exact ⟨rfl, bel_drewN b6.out _⟩

set_option maxRecDepth 100000 in
theorem lifted (os : Os) (started : os.Started) (H : Type) (enc : TypeId × Value → H) :
    ReturnsInHanded {} Try.checked os 13 .any (Rows.fnExactStartOfSpec.pre6 enc Try.prog Try.f13 Rows.fnExactStartOfRow.domain false) (Rows.fnExactStartOfSpec.post enc Try.prog Try.f13 false true false false) := by
  refine returnsInHanded_of_change (C := Try.checked) own started (by kernel_rfl) Try.func13
    (ChangeSpec.witness6 (enc := enc) (C := Try.checked) false ⟨#[], #[.int .i64 0], []⟩ 8 (by kernel_rfl) (by kernel_rfl) (by kernel_rfl) (by kernel_rfl)) ?_
  intro W base args ds gs before hval0 hW hcnd _
  have hval : ∀ (j : Nat) t v, Try.f13.params[j]? = some t → args[j]? = some v → Value.okWide Try.prog W .any base t v := hval0
  have hW' := hW
  obtain ⟨p, q, hA0, hV, rfl, hfz, hnd⟩ := hW
  have hA : DataW.TrodAll enc Try.prog W 0 (fun _ => true) true Try.f13.params.toList args.toList ds p := hA0
  rw [Try.params13] at hA hval
  obtain ⟨v0, vs0, d0, ds0, p0, q0, hargs, rfl, rfl, h0, r0⟩ := trodAll_cons hA
  obtain ⟨rfl, rfl, rfl⟩ := trodAll_nil r0
  obtain rfl : args = #[v0] := by cases args; simp_all
  obtain ⟨rfl, rfl⟩ := trodVars_none hV
  obtain ⟨a0, rfl, rfl, rfl, w0⟩ := open_int Try.underlying3 (hval 0 3 v0 rfl rfl) h0
  clear hA0 hval0
  refine (walk a0 W w0).mono fun e W' ⟨he, bel⟩ => ?_
  subst he
  exact ⟨_, rfl, _, _, _, [], _, [], hW', trodAll_mk1 (shut_bool Try.underlying4 _), (trodAll_cons_mk (shut_int Try.underlying3 w0) trodAll_mk0), rfl, bel.frame _, fun h => by cases h⟩

theorem over : Rows.fnExactStartOfRow.holds Try.pinned (OpenSpec.ofChange Rows.fnExactStartOfSpec) :=
  OpenClaim.holds_of_wide 13 Try.f13 rfl rfl rfl rfl rfl rfl rfl ⟨rfl, rfl, rfl, rfl, rfl⟩ rfl rfl rfl rfl rfl (by kernel_rfl) Try.func13 (by kernel_rfl)
    (of_decide_eq_true (by kernel_rfl)) (by unfold Func.isWrapper; first | (rw [if_pos (by decide +kernel)]; kernel_rfl) | (rw [if_neg (by decide +kernel)]; exact ⟨rfl, rfl⟩))
    (fun os started H enc _ => lifted os started H enc)

theorem proved : Rows.FnExactStartOfSaid := over
#print axioms proved
end Go.Proofs.Ythojmampibgcbaa.fnExactStartOf

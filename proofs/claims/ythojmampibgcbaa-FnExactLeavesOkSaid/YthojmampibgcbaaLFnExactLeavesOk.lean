/-
  The law 'FnExactLeavesOk' returns true, at every input, under no condition: the statement 'Rows.FnExactLeavesOkSaid'. The walk takes the functions that the law calls by their contracts; the frame about it opens the arguments and hands them back as they were.
-/
import Derived.Test.YthojmampibgcbaaHash
import Derived.Test.YthojmampibgcbaaOpen
import Derived.Test.YthojmampibgcbaaRows
import Derived.WalkKit
import Derived.ProofKit
import Derived.OpenShut
import Derived.ShutString
import Derived.ChangeOld
import Derived.Below
namespace Go.Proofs.Ythojmampibgcbaa.fnExactLeavesOk
open Go.Joins (open_agg2 open_agg3)
open Go.ChangeShapes Go.WideShapes Go.ChangeAt Go.RowKit
open Go.ChangeMaps (open_string shut_string)
set_option linter.unusedVariables false

theorem own : ownKnob Try.prog.godebug = none := by kernel_rfl
theorem laidOut : laidOutB Try.prog = true := by kernel_rfl

set_option maxHeartbeats 2000000 in
theorem walk (a0 : Int) (a1 : Option Addr) (cap1 : Nat) (z1 : List ByteArray) (w : World) (w0 : (Lit.int .i64 a0).wf = true) (w1 : Rd w 0 w.heap.size a1 (strs z1)) (l1 : z1.length ≤ cap1 ∧ cap1 ≤ maxLen) (b1 : ∀ s ∈ z1, s.size ≤ maxLen) :
    Calls Try.prog 11 #[.int .i64 a0, .slice a1 z1.length cap1] w fun e w' => e = .returned (.bool true) ∧ Below w.heap.size w w' := by
  unfold maxLen at l1 b1
  have hn : z1.length ≤ 9223372036854775807 := by omega
  have hs : ∀ s ∈ z1, s.size ≤ 9223372036854775807 := fun s h => by have := b1 s h; omega
  have HS := hide hs
  have H1 := hide w1
  clear w0 w1 b1 l1 hs
  by_cases hl : (z1.length : Int) + sumLen z1 ≤ 1048576
  · have g : 0 ≤ (1048576 : Int) - z1.length - sumLen z1 := by omega
    go_enter Try.func11, Try.ntmps11
    go_wp2_with (go_at_call 38; refine (l_szStringS_in _ _ _ _ _ _ _ H1.out hl (by omega)).mono ?_; rintro e w1 ⟨rfl, rfl⟩)
    go_wp2_with (go_at_call 40; refine (l_toStringS _ _ _ _ _ _ H1.out (by omega)).mono ?_; rintro e w1 ⟨A1, c1, rfl, hb1, ho1⟩; have R1 := hide (H1.out.below hb1); have O1 := hide ho1.rd; have b1 := hide hb1; clear hb1 ho1)
    go_wp2_with (go_at_call 39; refine (s_LeavesOk _ _ _ _ _ _ _ O1.out hn).mono ?_; rintro e w2 ⟨rfl, rfl⟩)
    go_wp2_with (go_at_call 40; refine (l_toStringS _ _ _ _ _ _ R1.out (by omega)).mono ?_; rintro e w2 ⟨A2, c2, rfl, hb2, ho2⟩; have R2 := hide (R1.out.below hb2); have O2 := hide ho2.rd; have b2 := hide (bel_new b1.out hb2 b1.out.size); clear hb2 ho2)
    go_wp2_with (go_at_call 41; refine (i_LeavesOk _ _ _ _ _ _ _ O2.out hn).mono ?_; rintro e w3 ⟨rfl, rfl⟩)
    go_wp2_with (go_at_call 40; refine (l_toStringS _ _ _ _ _ _ R2.out (by omega)).mono ?_; rintro e w3 ⟨A3, c3, rfl, hb3, ho3⟩; have P3 := hide (O2.out.below hb3); have O3 := hide ho3.rd; have b3 := hide (bel_new b2.out hb3 b2.out.size); clear hb3 ho3)
    go_wp2_with (go_at_call 42; refine (l_eqStringS _ _ _ _ _ _ _ _ _ _ P3.out O3.out hn).mono ?_; rintro e w4 ⟨rfl, n4, rfl⟩)
    go_ret
    exact ⟨rfl, bel_drewN b3.out _⟩
  · go_enter Try.func11, Try.ntmps11
    go_wp2_with (go_at_call 38; refine (l_szStringS_out _ _ _ _ _ _ _ H1.out (by omega) (by omega) (by omega) hn HS.out).mono ?_; rintro e w1 ⟨rfl, rfl⟩)
    go_ret
    exact ⟨rfl, Below.refl _ _⟩

set_option maxRecDepth 100000 in
theorem lifted (os : Os) (started : os.Started) (H : Type) (enc : TypeId × Value → H) :
    ReturnsInHanded {} Try.checked os 11 .any (Rows.fnExactLeavesOkSpec.pre6 enc Try.prog Try.f11 Rows.fnExactLeavesOkRow.domain false) (Rows.fnExactLeavesOkSpec.post enc Try.prog Try.f11 false true false false) := by
  refine returnsInHanded_of_change (C := Try.checked) own started (by kernel_rfl) Try.func11
    (ChangeSpec.witness6 (enc := enc) (C := Try.checked) false ⟨#[], #[.int .i64 0, .slice none 0 0], []⟩ 8 (by kernel_rfl) (by kernel_rfl) (by kernel_rfl) (by kernel_rfl)) ?_
  intro W base args ds gs before hval0 hW hcnd _
  have hval : ∀ (j : Nat) t v, Try.f11.params[j]? = some t → args[j]? = some v → Value.okWide Try.prog W .any base t v := hval0
  have hW' := hW
  obtain ⟨p, q, hA0, hV, rfl, hfz, hnd⟩ := hW
  have hA : DataW.TrodAll enc Try.prog W 0 (fun _ => true) true Try.f11.params.toList args.toList ds p := hA0
  rw [Try.params11] at hA hval
  obtain ⟨v0, vs0, d0, ds0, p0, q0, hargs, rfl, rfl, h0, r0⟩ := trodAll_cons hA
  obtain ⟨v1, vs1, d1, ds1, p1, q1, rfl, rfl, rfl, h1, r1⟩ := trodAll_cons r0
  obtain ⟨rfl, rfl, rfl⟩ := trodAll_nil r1
  obtain rfl : args = #[v0, v1] := by cases args; simp_all
  obtain ⟨rfl, rfl⟩ := trodVars_none hV
  obtain ⟨a0, rfl, rfl, rfl, w0⟩ := open_int Try.underlying3 (hval 0 3 v0 rfl rfl) h0
  have k1 := h1
  have lt1 : ∀ x ∈ p1, x.block < W.heap.size := by obtain ⟨m, hm⟩ := k1; exact DataW.trod_lt m _ _ _ hm
  obtain ⟨A1, L1, C1, rfl⟩ := okWide_slice Try.underlying45 (hval 1 45 v1 rfl rfl)
  obtain ⟨fuel1, hf1⟩ := h1
  obtain ⟨a1, cap1, z1, ea1, w1, l1, b1⟩ := rd_strs (v := .slice A1 L1 C1) Try.underlying45 Try.underlying9 (by kernel_rfl) (by simpa [Value.cells] using hf1)
  simp only [Value.slice.injEq] at ea1
  obtain ⟨xa1, ya1, ta1⟩ := ea1
  replace xa1 := xa1.symm
  replace ta1 := ta1.symm
  subst xa1
  subst ta1
  subst ya1
  clear hA0 hval0
  refine (walk a0 a1 cap1 z1 W w0 w1 l1 b1).mono fun e W' ⟨he, bel⟩ => ?_
  subst he
  exact ⟨_, rfl, _, _, _, [], _, [], hW', trodAll_mk1 (shut_bool Try.underlying4 _), (trodAll_cons_mk (shut_int Try.underlying3 w0) (trodAll_cons_mk (Below.trod laidOut (by kernel_rfl) (of_decide_eq_true (by kernel_rfl)) k1 bel lt1) trodAll_mk0)), rfl, bel.frame _, fun h => by cases h⟩

theorem over : Rows.fnExactLeavesOkRow.holds Try.pinned (OpenSpec.ofChange Rows.fnExactLeavesOkSpec) :=
  OpenClaim.holds_of_wide 11 Try.f11 rfl rfl rfl rfl rfl rfl rfl ⟨rfl, rfl, rfl, rfl, rfl⟩ rfl rfl rfl rfl rfl (by kernel_rfl) Try.func11 (by kernel_rfl)
    (of_decide_eq_true (by kernel_rfl)) (by unfold Func.isWrapper; first | (rw [if_pos (by decide +kernel)]; kernel_rfl) | (rw [if_neg (by decide +kernel)]; exact ⟨rfl, rfl⟩))
    (fun os started H enc _ => lifted os started H enc)

theorem proved : Rows.FnExactLeavesOkSaid := over
#print axioms proved
end Go.Proofs.Ythojmampibgcbaa.fnExactLeavesOk

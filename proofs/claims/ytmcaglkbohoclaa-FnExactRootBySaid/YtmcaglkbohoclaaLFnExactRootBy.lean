/-
  The law 'FnExactRootBy' returns true, at every input, under no condition: the statement 'Rows.FnExactRootBySaid'. The walk takes the functions that the law calls by their contracts; the frame about it opens the arguments and hands them back as they were.
-/
import Derived.Test.YtmcaglkbohoclaaFoldBy
import Derived.Test.YtmcaglkbohoclaaOpen
import Derived.Test.YtmcaglkbohoclaaRows
import Derived.WalkKit
import Derived.ProofKit
import Derived.OpenShut
import Derived.ShutString
import Derived.ChangeOld
import Derived.Below
namespace Go.Proofs.Ytmcaglkbohoclaa.fnExactRootBy
open Go.Joins (open_agg2 open_agg3)
open Go.ChangeShapes Go.WideShapes Go.ChangeAt Go.RowKit
open Go.ChangeMaps (open_string shut_string)
set_option linter.unusedVariables false

theorem own : ownKnob Try.prog.godebug = none := by kernel_rfl
theorem laidOut : laidOutB Try.prog = true := by kernel_rfl

set_option maxHeartbeats 2000000 in
theorem walk (a0 : Int) (a1 : Int) (a2 : Int) (a3 : ByteArray) (a4 : Option Addr) (cap4 : Nat) (z4 : List ByteArray) (w : World) (w0 : (Lit.int .i64 a0).wf = true) (w1 : (Lit.int .i64 a1).wf = true) (w2 : (Lit.int .i64 a2).wf = true) (w3 : a3.size ≤ maxLen) (w4 : Rd w 0 w.heap.size a4 (strs z4)) (l4 : z4.length ≤ cap4 ∧ cap4 ≤ maxLen) (b4 : ∀ s ∈ z4, s.size ≤ maxLen) :
    Calls Try.prog 3 #[.int .i64 a0, .int .i64 a1, .int .i64 a2, .string a3, .slice a4 z4.length cap4] w fun e w' => e = .returned (.bool true) ∧ Below w.heap.size w w' := by
  unfold maxLen at l4 b4
  have hn : z4.length ≤ 9223372036854775807 := by omega
  have hs : ∀ s ∈ z4, s.size ≤ 9223372036854775807 := fun s h => by have := b4 s h; omega
  have HS := hide hs
  have H1 := hide w4
  unfold maxLen at w3
  have hls : a3.size ≤ 9223372036854775807 := by omega
  clear w0 w1 w2
  clear b4 l4 hs w3 w4
  by_cases hll : (1048576 : Int) < (a3.size : Int)
  · go_enter Try.func3, Try.ntmps3
    go_wp2
    go_ret
    exact ⟨rfl, Below.refl _ _⟩
  by_cases hl : (z4.length : Int) + sumLen z4 ≤ 1048576
  · have g : 0 ≤ (1048576 : Int) - z4.length - sumLen z4 := by omega
    go_enter Try.func3, Try.ntmps3
    go_wp2_with (go_at_call 9; refine (l_szStringS_in _ _ _ _ _ _ _ H1.out hl (by omega)).mono ?_; rintro e w1 ⟨rfl, rfl⟩)
    go_wp2_with (go_at_call 11; refine (l_toStringS _ _ _ _ _ _ H1.out (by omega)).mono ?_; rintro e w1 ⟨A1, c1, rfl, hb1, ho1⟩; have R1 := hide (H1.out.below hb1); have O1 := hide ho1; have b1 := hide hb1; clear hb1 ho1)
    go_wp2_with (go_at_call 10; refine (s_RootBy _ _ _ _ _ _ _ _ _ _  O1.out.rd hn (by simpa [strs] using O1.out.cap.1) O1.out.cap.2 hls).mono ?_; rintro e w2 ⟨rfl, hb2⟩; have R2 := hide (R1.out.below hb2); have b2 := hide (bel_new b1.out hb2 b1.out.size); clear hb2 R1 b1)
    go_wp2_with (go_at_call 11; refine (l_toStringS _ _ _ _ _ _ R2.out (by omega)).mono ?_; rintro e w3 ⟨A3, c3, rfl, hb3, ho3⟩; have R3 := hide (R2.out.below hb3); have O3 := hide ho3; have b3 := hide (bel_new b2.out hb3 b2.out.size); clear hb3 ho3 R2 b2)
    go_wp2_with (go_at_call 12; refine (i_RootBy _ _ _ _ _ _ _ _ _ _  O3.out.rd hn (by simpa [strs] using O3.out.cap.1) O3.out.cap.2 hls).mono ?_; rintro e w4 ⟨rfl, hb4⟩; have R4 := hide (R3.out.below hb4); have P4 := hide (O3.out.rd.below hb4); have b4 := hide (bel_new b3.out hb4 b3.out.size); clear hb4 R3 b3)
    go_wp2_with (go_at_call 11; refine (l_toStringS _ _ _ _ _ _ R4.out (by omega)).mono ?_; rintro e w5 ⟨A5, c5, rfl, hb5, ho5⟩; have P5 := hide (P4.out.below hb5); have O5 := hide ho5.rd; have b5 := hide (bel_new b4.out hb5 b4.out.size); clear hb5 ho5)
    go_wp2_with (go_at_call 13; refine (l_eqStringS _ _ _ _ _ _ _ _ _ _ P5.out O5.out hn).mono ?_; rintro e w6 ⟨rfl, n6, rfl⟩)
    go_ret
    exact ⟨rfl, bel_drewN b5.out _⟩
  · go_enter Try.func3, Try.ntmps3
    go_wp2_with (go_at_call 9; refine (l_szStringS_out _ _ _ _ _ _ _ H1.out (by omega) (by omega) (by omega) hn HS.out).mono ?_; rintro e w1 ⟨rfl, rfl⟩)
    go_ret
    exact ⟨rfl, Below.refl _ _⟩

set_option maxRecDepth 100000 in
theorem lifted (os : Os) (started : os.Started) (H : Type) (enc : TypeId × Value → H) :
    ReturnsInHanded {} Try.checked os 3 .any (Rows.fnExactRootBySpec.pre6 enc Try.prog Try.f3 Rows.fnExactRootByRow.domain false) (Rows.fnExactRootBySpec.post enc Try.prog Try.f3 false true false false) := by
  refine returnsInHanded_of_change (C := Try.checked) own started (by kernel_rfl) Try.func3
    (ChangeSpec.witness6 (enc := enc) (C := Try.checked) false ⟨#[], #[.int .i64 0, .int .i64 0, .int .i64 0, .string ByteArray.empty, .slice none 0 0], []⟩ 8 (by kernel_rfl) (by kernel_rfl) (by kernel_rfl) (by kernel_rfl)) ?_
  intro W base args ds gs before hval0 hW hcnd _
  have hval : ∀ (j : Nat) t v, Try.f3.params[j]? = some t → args[j]? = some v → Value.okWide Try.prog W .any base t v := hval0
  have hW' := hW
  obtain ⟨p, q, hA0, hV, rfl, hfz, hnd⟩ := hW
  have hA : DataW.TrodAll enc Try.prog W 0 (fun _ => true) true Try.f3.params.toList args.toList ds p := hA0
  rw [Try.params3] at hA hval
  obtain ⟨v0, vs0, d0, ds0, p0, q0, hargs, rfl, rfl, h0, r0⟩ := trodAll_cons hA
  obtain ⟨v1, vs1, d1, ds1, p1, q1, rfl, rfl, rfl, h1, r1⟩ := trodAll_cons r0
  obtain ⟨v2, vs2, d2, ds2, p2, q2, rfl, rfl, rfl, h2, r2⟩ := trodAll_cons r1
  obtain ⟨v3, vs3, d3, ds3, p3, q3, rfl, rfl, rfl, h3, r3⟩ := trodAll_cons r2
  obtain ⟨v4, vs4, d4, ds4, p4, q4, rfl, rfl, rfl, h4, r4⟩ := trodAll_cons r3
  obtain ⟨rfl, rfl, rfl⟩ := trodAll_nil r4
  obtain rfl : args = #[v0, v1, v2, v3, v4] := by cases args; simp_all
  obtain ⟨rfl, rfl⟩ := trodVars_none hV
  obtain ⟨a0, rfl, rfl, rfl, w0⟩ := open_int Try.underlying3 (hval 0 3 v0 rfl rfl) h0
  obtain ⟨a1, rfl, rfl, rfl, w1⟩ := open_int Try.underlying3 (hval 1 3 v1 rfl rfl) h1
  obtain ⟨a2, rfl, rfl, rfl, w2⟩ := open_int Try.underlying3 (hval 2 3 v2 rfl rfl) h2
  obtain ⟨a3, rfl, rfl, rfl, w3⟩ := open_string Try.underlying9 (hval 3 9 v3 rfl rfl) h3
  have k4 := h4
  have lt4 : ∀ x ∈ p4, x.block < W.heap.size := by obtain ⟨m, hm⟩ := k4; exact DataW.trod_lt m _ _ _ hm
  obtain ⟨A4, L4, C4, rfl⟩ := okWide_slice Try.underlying22 (hval 4 22 v4 rfl rfl)
  obtain ⟨fuel4, hf4⟩ := h4
  obtain ⟨a4, cap4, z4, ea4, w4, l4, b4⟩ := rd_strs (v := .slice A4 L4 C4) Try.underlying22 Try.underlying9 (by kernel_rfl) (by simpa [Value.cells] using hf4)
  simp only [Value.slice.injEq] at ea4
  obtain ⟨xa4, ya4, ta4⟩ := ea4
  replace xa4 := xa4.symm
  replace ta4 := ta4.symm
  subst xa4
  subst ta4
  subst ya4
  clear hA0 hval0
  refine (walk a0 a1 a2 a3 a4 cap4 z4 W w0 w1 w2 w3 w4 l4 b4).mono fun e W' ⟨he, bel⟩ => ?_
  subst he
  exact ⟨_, rfl, _, _, _, [], _, [], hW', trodAll_mk1 (shut_bool Try.underlying4 _), (trodAll_cons_mk (shut_int Try.underlying3 w0) (trodAll_cons_mk (shut_int Try.underlying3 w1) (trodAll_cons_mk (shut_int Try.underlying3 w2) (trodAll_cons_mk (shut_string Try.underlying9 w3) (trodAll_cons_mk (Below.trod laidOut (by kernel_rfl) (of_decide_eq_true (by kernel_rfl)) k4 bel lt4) trodAll_mk0))))), rfl, bel.frame _, fun h => by cases h⟩

theorem over : Rows.fnExactRootByRow.holds Try.pinned (OpenSpec.ofChange Rows.fnExactRootBySpec) :=
  OpenClaim.holds_of_wide 3 Try.f3 rfl rfl rfl rfl rfl rfl rfl ⟨rfl, rfl, rfl, rfl, rfl⟩ rfl rfl rfl rfl rfl (by kernel_rfl) Try.func3 (by kernel_rfl)
    (of_decide_eq_true (by kernel_rfl)) (by unfold Func.isWrapper; first | (rw [if_pos (by decide +kernel)]; kernel_rfl) | (rw [if_neg (by decide +kernel)]; exact ⟨rfl, rfl⟩))
    (fun os started H enc _ => lifted os started H enc)

theorem proved : Rows.FnExactRootBySaid := over
#print axioms proved
end Go.Proofs.Ytmcaglkbohoclaa.fnExactRootBy

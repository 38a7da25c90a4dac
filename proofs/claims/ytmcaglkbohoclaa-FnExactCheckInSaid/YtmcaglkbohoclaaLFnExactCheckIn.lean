/-
  The law 'FnExactCheckIn' returns true, at every input, under no condition: the statement 'Rows.FnExactCheckInSaid'. The walk takes the functions that the law calls by their contracts; the frame about it opens the arguments and hands them back as they were.
-/
import Derived.Test.YtmcaglkbohoclaaFoldBy
import Derived.Test.YtmcaglkbohoclaaOpen
import Derived.Test.YtmcaglkbohoclaaRows
import Derived.WalkKit
import Derived.ProofKit
import Derived.OpenShut
import Derived.ShutString
import Derived.ChangeOld
import Derived.Below
namespace Go.Proofs.Ytmcaglkbohoclaa.fnExactCheckIn
open Go.Joins (open_agg2 open_agg3)
open Go.ChangeShapes Go.WideShapes Go.ChangeAt Go.RowKit
open Go.ChangeMaps (open_string shut_string)
set_option linter.unusedVariables false

theorem own : ownKnob Try.prog.godebug = none := by kernel_rfl
theorem laidOut : laidOutB Try.prog = true := by kernel_rfl

set_option maxHeartbeats 2000000 in
theorem walk (a0 : Int) (a1 : ByteArray) (a2 : Int) (a3 : Int) (a4 : ByteArray) (a5 : Option Addr) (cap5 : Nat) (z5 : List ByteArray) (w : World) (w0 : (Lit.int .i64 a0).wf = true) (w1 : a1.size ≤ maxLen) (w2 : (Lit.int .i64 a2).wf = true) (w3 : (Lit.int .i64 a3).wf = true) (w4 : a4.size ≤ maxLen) (w5 : Rd w 0 w.heap.size a5 (strs z5)) (l5 : z5.length ≤ cap5 ∧ cap5 ≤ maxLen) (b5 : ∀ s ∈ z5, s.size ≤ maxLen) :
    Calls Try.prog 4 #[.int .i64 a0, .string a1, .int .i64 a2, .int .i64 a3, .string a4, .slice a5 z5.length cap5] w fun e w' => e = .returned (.bool true) ∧ Below w.heap.size w w' := by
  unfold maxLen at l5 b5
  have hn : z5.length ≤ 9223372036854775807 := by omega
  have hs : ∀ s ∈ z5, s.size ≤ 9223372036854775807 := fun s h => by have := b5 s h; omega
  have HS := hide hs
  have H1 := hide w5
  unfold maxLen at w4
  have hls : a4.size ≤ 9223372036854775807 := by omega
  unfold maxLen at w1
  by_cases hrr : (1048576 : Int) < (a1.size : Int)
  · clear w0 w2 w3
    go_enter Try.func4, Try.ntmps4
    go_wp2
    go_ret
    exact ⟨rfl, Below.refl _ _⟩
  clear w0 w1 w2 w3
  clear b5 l5 hs w4 w5
  by_cases hll : (1048576 : Int) < (a4.size : Int)
  · go_enter Try.func4, Try.ntmps4
    go_wp2
    go_ret
    exact ⟨rfl, Below.refl _ _⟩
  by_cases hl : (z5.length : Int) + sumLen z5 ≤ 1048576
  · have g : 0 ≤ (1048576 : Int) - z5.length - sumLen z5 := by omega
    go_enter Try.func4, Try.ntmps4
    go_wp2_with (go_at_call 9; refine (l_szStringS_in _ _ _ _ _ _ _ H1.out hl (by omega)).mono ?_; rintro e w1 ⟨rfl, rfl⟩)
    go_wp2_with (go_at_call 11; refine (l_toStringS _ _ _ _ _ _ H1.out (by omega)).mono ?_; rintro e w1 ⟨A1, c1, rfl, hb1, ho1⟩; have R1 := hide (H1.out.below hb1); have O1 := hide ho1; have b1 := hide hb1; clear hb1 ho1)
    go_wp2_with (go_at_call 14; refine (s_CheckIn _ _ _ _ _ _ _ _ _ _ _  O1.out.rd hn (by simpa [strs] using O1.out.cap.1) O1.out.cap.2 hls).mono ?_; rintro e w2 ⟨rfl, hb2⟩; have R2 := hide (R1.out.below hb2); have b2 := hide (bel_new b1.out hb2 b1.out.size); clear hb2 R1 b1)
    go_wp2_with (go_at_call 11; refine (l_toStringS _ _ _ _ _ _ R2.out (by omega)).mono ?_; rintro e w3 ⟨A3, c3, rfl, hb3, ho3⟩; have R3 := hide (R2.out.below hb3); have O3 := hide ho3; have b3 := hide (bel_new b2.out hb3 b2.out.size); clear hb3 ho3 R2 b2)
    go_wp2_with (go_at_call 15; refine (i_CheckIn _ _ _ _ _ _ _ _ _ _ _  O3.out.rd hn (by simpa [strs] using O3.out.cap.1) O3.out.cap.2 hls).mono ?_; rintro e w4 ⟨rfl, hb4⟩; have R4 := hide (R3.out.below hb4); have P4 := hide (O3.out.rd.below hb4); have b4 := hide (bel_new b3.out hb4 b3.out.size); clear hb4 R3 b3)
    go_wp2_with (go_at_call 11; refine (l_toStringS _ _ _ _ _ _ R4.out (by omega)).mono ?_; rintro e w5 ⟨A5, c5, rfl, hb5, ho5⟩; have P5 := hide (P4.out.below hb5); have O5 := hide ho5.rd; have b5 := hide (bel_new b4.out hb5 b4.out.size); clear hb5 ho5)
    go_wp2_with (go_at_call 13; refine (l_eqStringS _ _ _ _ _ _ _ _ _ _ P5.out O5.out hn).mono ?_; rintro e w6 ⟨rfl, n6, rfl⟩)
    go_ret
    exact ⟨rfl, bel_drewN b5.out _⟩
  · go_enter Try.func4, Try.ntmps4
    go_wp2_with (go_at_call 9; refine (l_szStringS_out _ _ _ _ _ _ _ H1.out (by omega) (by omega) (by omega) hn HS.out).mono ?_; rintro e w1 ⟨rfl, rfl⟩)
    go_ret
    exact ⟨rfl, Below.refl _ _⟩

set_option maxRecDepth 100000 in
theorem lifted (os : Os) (started : os.Started) (H : Type) (enc : TypeId × Value → H) :
    ReturnsInHanded {} Try.checked os 4 .any (Rows.fnExactCheckInSpec.pre6 enc Try.prog Try.f4 Rows.fnExactCheckInRow.domain false) (Rows.fnExactCheckInSpec.post enc Try.prog Try.f4 false true false false) := by
  refine returnsInHanded_of_change (C := Try.checked) own started (by kernel_rfl) Try.func4
    (ChangeSpec.witness6 (enc := enc) (C := Try.checked) false ⟨#[], #[.int .i64 0, .string ByteArray.empty, .int .i64 0, .int .i64 0, .string ByteArray.empty, .slice none 0 0], []⟩ 8 (by kernel_rfl) (by kernel_rfl) (by kernel_rfl) (by kernel_rfl)) ?_
  intro W base args ds gs before hval0 hW hcnd _
  have hval : ∀ (j : Nat) t v, Try.f4.params[j]? = some t → args[j]? = some v → Value.okWide Try.prog W .any base t v := hval0
  have hW' := hW
  obtain ⟨p, q, hA0, hV, rfl, hfz, hnd⟩ := hW
  have hA : DataW.TrodAll enc Try.prog W 0 (fun _ => true) true Try.f4.params.toList args.toList ds p := hA0
  rw [Try.params4] at hA hval
  obtain ⟨v0, vs0, d0, ds0, p0, q0, hargs, rfl, rfl, h0, r0⟩ := trodAll_cons hA
  obtain ⟨v1, vs1, d1, ds1, p1, q1, rfl, rfl, rfl, h1, r1⟩ := trodAll_cons r0
  obtain ⟨v2, vs2, d2, ds2, p2, q2, rfl, rfl, rfl, h2, r2⟩ := trodAll_cons r1
  obtain ⟨v3, vs3, d3, ds3, p3, q3, rfl, rfl, rfl, h3, r3⟩ := trodAll_cons r2
  obtain ⟨v4, vs4, d4, ds4, p4, q4, rfl, rfl, rfl, h4, r4⟩ := trodAll_cons r3
  obtain ⟨v5, vs5, d5, ds5, p5, q5, rfl, rfl, rfl, h5, r5⟩ := trodAll_cons r4
  obtain ⟨rfl, rfl, rfl⟩ := trodAll_nil r5
  obtain rfl : args = #[v0, v1, v2, v3, v4, v5] := by cases args; simp_all
  obtain ⟨rfl, rfl⟩ := trodVars_none hV
  obtain ⟨a0, rfl, rfl, rfl, w0⟩ := open_int Try.underlying3 (hval 0 3 v0 rfl rfl) h0
  obtain ⟨a1, rfl, rfl, rfl, w1⟩ := open_string Try.underlying9 (hval 1 9 v1 rfl rfl) h1
  obtain ⟨a2, rfl, rfl, rfl, w2⟩ := open_int Try.underlying3 (hval 2 3 v2 rfl rfl) h2
  obtain ⟨a3, rfl, rfl, rfl, w3⟩ := open_int Try.underlying3 (hval 3 3 v3 rfl rfl) h3
  obtain ⟨a4, rfl, rfl, rfl, w4⟩ := open_string Try.underlying9 (hval 4 9 v4 rfl rfl) h4
  have k5 := h5
  have lt5 : ∀ x ∈ p5, x.block < W.heap.size := by obtain ⟨m, hm⟩ := k5; exact DataW.trod_lt m _ _ _ hm
  obtain ⟨A5, L5, C5, rfl⟩ := okWide_slice Try.underlying22 (hval 5 22 v5 rfl rfl)
  obtain ⟨fuel5, hf5⟩ := h5
  obtain ⟨a5, cap5, z5, ea5, w5, l5, b5⟩ := rd_strs (v := .slice A5 L5 C5) Try.underlying22 Try.underlying9 (by kernel_rfl) (by simpa [Value.cells] using hf5)
  simp only [Value.slice.injEq] at ea5
  obtain ⟨xa5, ya5, ta5⟩ := ea5
  replace xa5 := xa5.symm
  replace ta5 := ta5.symm
  subst xa5
  subst ta5
  subst ya5
  clear hA0 hval0
  refine (walk a0 a1 a2 a3 a4 a5 cap5 z5 W w0 w1 w2 w3 w4 w5 l5 b5).mono fun e W' ⟨he, bel⟩ => ?_
  subst he
  exact ⟨_, rfl, _, _, _, [], _, [], hW', trodAll_mk1 (shut_bool Try.underlying4 _), (trodAll_cons_mk (shut_int Try.underlying3 w0) (trodAll_cons_mk (shut_string Try.underlying9 w1) (trodAll_cons_mk (shut_int Try.underlying3 w2) (trodAll_cons_mk (shut_int Try.underlying3 w3) (trodAll_cons_mk (shut_string Try.underlying9 w4) (trodAll_cons_mk (Below.trod laidOut (by kernel_rfl) (of_decide_eq_true (by kernel_rfl)) k5 bel lt5) trodAll_mk0)))))), rfl, bel.frame _, fun h => by cases h⟩

theorem over : Rows.fnExactCheckInRow.holds Try.pinned (OpenSpec.ofChange Rows.fnExactCheckInSpec) :=
  OpenClaim.holds_of_wide 4 Try.f4 rfl rfl rfl rfl rfl rfl rfl ⟨rfl, rfl, rfl, rfl, rfl⟩ rfl rfl rfl rfl rfl (by kernel_rfl) Try.func4 (by kernel_rfl)
    (of_decide_eq_true (by kernel_rfl)) (by unfold Func.isWrapper; first | (rw [if_pos (by decide +kernel)]; kernel_rfl) | (rw [if_neg (by decide +kernel)]; exact ⟨rfl, rfl⟩))
    (fun os started H enc _ => lifted os started H enc)

theorem proved : Rows.FnExactCheckInSaid := over
#print axioms proved
end Go.Proofs.Ytmcaglkbohoclaa.fnExactCheckIn

/-
  The law 'FnExactInclusion' returns true, at every input, under no condition: the statement 'Rows.FnExactInclusionSaid'. The walk takes the functions that the law calls by their contracts; the frame about it opens the arguments and hands them back as they were.
-/
import Derived.Test.YtmcaglkbohoclaaInclusion
import Derived.Test.YtmcaglkbohoclaaLibM
import Derived.Test.YtmcaglkbohoclaaOpen
import Derived.Test.YtmcaglkbohoclaaRows
import Derived.WalkKit
import Derived.ProofKit
import Derived.OpenShut
import Derived.ShutString
import Derived.ChangeOld
import Derived.Below
namespace Go.Proofs.Ytmcaglkbohoclaa.fnExactInclusion
open Go.Joins (open_agg2 open_agg3)
open Go.ChangeShapes Go.WideShapes Go.ChangeAt Go.RowKit
open Go.ChangeMaps (open_string shut_string)
set_option linter.unusedVariables false

theorem own : ownKnob Try.prog.godebug = none := by kernel_rfl
theorem laidOut : laidOutB Try.prog = true := by kernel_rfl
theorem inclI_len (width : Int) (zs : List ByteArray) (a : Int) : (inclI width zs a).length ≤ zs.length := by
  unfold inclI
  split
  · exact inclW_len _ _ _
  · simp

set_option maxHeartbeats 2000000 in
theorem walk (a0 : Int) (a1 : Option Addr) (cap1 : Nat) (z1 : List ByteArray) (a2 : Int) (w : World) (w0 : (Lit.int .i64 a0).wf = true) (w1 : Rd w 0 w.heap.size a1 (strs z1)) (l1 : z1.length ≤ cap1 ∧ cap1 ≤ maxLen) (b1 : ∀ s ∈ z1, s.size ≤ maxLen) (w2 : (Lit.int .i64 a2).wf = true) :
    Calls Try.prog 5 #[.int .i64 a0, .slice a1 z1.length cap1, .int .i64 a2] w fun e w' => e = .returned (.bool true) ∧ Below w.heap.size w w' := by
  unfold maxLen at l1 b1
  have hz : z1.length ≤ 9223372036854775807 := by omega
  have hm := inclI_len a0 z1 a2
  have hn : (inclI a0 z1 a2).length ≤ 9223372036854775807 := by omega
  have hs : ∀ s ∈ z1, s.size ≤ 9223372036854775807 := fun s h => by have := b1 s h; omega
  have HS := hide hs
  have H1 := hide w1
  clear w0 w1 w2 b1 l1 hs
  by_cases hl : (z1.length : Int) + sumLen z1 ≤ 1048576
  · have g : 0 ≤ (1048576 : Int) - z1.length - sumLen z1 := by omega
    go_enter Try.func5, Try.ntmps5
    go_wp2_with (go_at_call 9; refine (l_szStringS_in _ _ _ _ _ _ _ H1.out hl (by omega)).mono ?_; rintro e w1 ⟨rfl, rfl⟩)
    go_wp2_with fail
    refine (l_toStringS _ _ _ _ _ _ H1.out (by omega)).mono ?_
    rintro e w_1 ⟨A1, c1, rfl, hb1, ho1⟩
    have a1_1 := hide (H1.out.below hb1)
    clear H1
    have S1_1 := hide ho1
    have bb1 := hide hb1
    have sz1 := hide hb1.size
    clear hb1 ho1
    go_wp2_with fail
    refine (s_Inclusion _ _ _ _ _ _ _ _ S1_1.out.rd hz (by simpa [strs] using S1_1.out.cap.1) S1_1.out.cap.2).mono ?_
    rintro e w_2 ⟨A2, c2, rfl, hb2, ho2⟩
    have a1_2 := hide (a1_1.out.below hb2)
    clear a1_1
    have S1_2 := hide (S1_1.out.below hb2)
    clear S1_1
    have R_2 := hide ho2
    have bb2 := hide (bel_new bb1.out hb2 bb1.out.size)
    clear bb1
    have sz2 := hide hb2.size
    clear hb2 ho2
    clear S1_2
    go_wp2_with fail
    refine (l_toStringS _ _ _ _ _ _ a1_2.out (by omega)).mono ?_
    rintro e w_3 ⟨A3, c3, rfl, hb3, ho3⟩
    have a1_3 := hide (a1_2.out.below hb3)
    clear a1_2
    have R_3 := hide (R_2.out.below hb3)
    clear R_2
    have X_3 := hide ho3
    have bb3 := hide (bel_new bb2.out hb3 bb2.out.size)
    clear bb2
    have sz3 := hide hb3.size
    clear hb3 ho3
    go_wp2_with fail
    refine (i_Inclusion _ _ _ _ _ _ _ _ X_3.out.rd hz (by simpa [strs] using X_3.out.cap.1) X_3.out.cap.2).mono ?_
    rintro e w_4 ⟨A4, c4, rfl, hb4, ho4⟩
    have a1_4 := hide (a1_3.out.below hb4)
    clear a1_3
    have R_4 := hide (R_3.out.below hb4)
    clear R_3
    have X_4 := hide (X_3.out.below hb4)
    clear X_3
    have G_4 := hide ho4
    have bb4 := hide (bel_new bb3.out hb4 bb3.out.size)
    clear bb3
    have sz4 := hide hb4.size
    clear hb4 ho4
    go_wp2_with fail
    refine (l_eqStringS _ _ _ _ _ _ _ _ _ _ G_4.out.rd R_4.out.rd hn).mono ?_
    rintro e w_5 ⟨rfl, n5, hw5⟩
    have hb5 := below_of_drewN hw5
    clear hw5
    have a1_5 := hide (a1_4.out.below hb5)
    clear a1_4
    have R_5 := hide (R_4.out.below hb5)
    clear R_4
    have X_5 := hide (X_4.out.below hb5)
    clear X_4
    have G_5 := hide (G_4.out.below hb5)
    clear G_4
    have bb5 := hide (bel_new bb4.out hb5 bb4.out.size)
    clear bb4
    have sz5 := hide hb5.size
    clear hb5
    go_wp2_with fail
    refine (l_toStringS _ _ _ _ _ _ a1_5.out (by omega)).mono ?_
    rintro e w_6 ⟨A6, c6, rfl, hb6, ho6⟩
    have a1_6 := hide (a1_5.out.below hb6)
    clear a1_5
    have R_6 := hide (R_5.out.below hb6)
    clear R_5
    have X_6 := hide (X_5.out.below hb6)
    clear X_5
    have G_6 := hide (G_5.out.below hb6)
    clear G_5
    have Z_6 := hide ho6
    have bb6 := hide (bel_new bb5.out hb6 bb5.out.size)
    clear bb5
    have sz6 := hide hb6.size
    clear hb6 ho6
    go_wp2_with fail
    refine (l_eqStringS _ _ _ _ _ _ _ _ _ _ X_6.out.rd Z_6.out.rd hz).mono ?_
    rintro e w_7 ⟨rfl, n7, hw7⟩
    have hb7 := below_of_drewN hw7
    clear hw7
    have a1_7 := hide (a1_6.out.below hb7)
    clear a1_6
    have R_7 := hide (R_6.out.below hb7)
    clear R_6
    have X_7 := hide (X_6.out.below hb7)
    clear X_6
    have G_7 := hide (G_6.out.below hb7)
    clear G_6
    have Z_7 := hide (Z_6.out.below hb7)
    clear Z_6
    have bb7 := hide (bel_new bb6.out hb7 bb6.out.size)
    clear bb6
    have sz7 := hide hb7.size
    clear hb7
    clear Z_7
    go_wp2_with fail
    refine (l_markStringS 1 z1 _ _ _ _ X_7.out (by omega) (by omega)).mono ?_
    rintro e w_8 ⟨rfl, hc8, ho8⟩
    have a1_8 := hide (a1_7.out.chg hc8 (by have := sz1.out; have := sz2.out; have := sz3.out; have := sz4.out; have := sz5.out; have := sz6.out; have := sz7.out; omega))
    clear a1_7
    have R_8 := hide (R_7.out.chg hc8 (by have := sz1.out; have := sz2.out; have := sz3.out; have := sz4.out; have := sz5.out; have := sz6.out; have := sz7.out; omega))
    clear R_7
    have X_8 := hide ho8
    clear X_7
    have G_8 := hide (G_7.out.chg hc8 (by have := sz1.out; have := sz2.out; have := sz3.out; have := sz4.out; have := sz5.out; have := sz6.out; have := sz7.out; omega))
    clear G_7
    have bb8 := hide (bel_chg bb7.out hc8 bb7.out.size (by have := sz1.out; have := sz2.out; have := sz3.out; have := sz4.out; have := sz5.out; have := sz6.out; have := sz7.out; omega))
    clear bb7
    have sz8 := hide hc8.size
    clear hc8 ho8
    clear X_8
    go_wp2_with fail
    refine (l_eqStringS _ _ _ _ _ _ _ _ _ _ G_8.out.rd R_8.out.rd hn).mono ?_
    rintro e w_9 ⟨rfl, n9, hw9⟩
    have hb9 := below_of_drewN hw9
    clear hw9
    have a1_9 := hide (a1_8.out.below hb9)
    clear a1_8
    have R_9 := hide (R_8.out.below hb9)
    clear R_8
    have G_9 := hide (G_8.out.below hb9)
    clear G_8
    have bb9 := hide (bel_new bb8.out hb9 bb8.out.size)
    clear bb8
    have sz9 := hide hb9.size
    clear hb9
    go_wp2_with fail
    refine (l_markStringS 1 (inclI a0 z1 a2) _ _ _ _ G_9.out (by omega) (by omega)).mono ?_
    rintro e w_10 ⟨rfl, hc10, ho10⟩
    have a1_10 := hide (a1_9.out.chg hc10 (by have := sz1.out; have := sz2.out; have := sz3.out; have := sz4.out; have := sz5.out; have := sz6.out; have := sz7.out; have := sz8.out; have := sz9.out; omega))
    clear a1_9
    have R_10 := hide (R_9.out.chg hc10 (by have := sz1.out; have := sz2.out; have := sz3.out; have := sz4.out; have := sz5.out; have := sz6.out; have := sz7.out; have := sz8.out; have := sz9.out; omega))
    clear R_9
    have G_10 := hide ho10
    clear G_9
    have bb10 := hide (bel_chg bb9.out hc10 bb9.out.size (by have := sz1.out; have := sz2.out; have := sz3.out; have := sz4.out; have := sz5.out; have := sz6.out; have := sz7.out; have := sz8.out; have := sz9.out; omega))
    clear bb9
    have sz10 := hide hc10.size
    clear hc10 ho10
    go_wp2_with fail
    refine (l_heldStringS 1 (inclI a0 z1 a2).length _ _ _ _ _ G_10.out.rd (by omega) (by omega)).mono ?_
    rintro e w_11 ⟨rfl, hb11⟩
    have a1_11 := hide (a1_10.out.below hb11)
    clear a1_10
    have R_11 := hide (R_10.out.below hb11)
    clear R_10
    have G_11 := hide (G_10.out.below hb11)
    clear G_10
    have bb11 := hide (bel_new bb10.out hb11 bb10.out.size)
    clear bb10
    have sz11 := hide hb11.size
    clear hb11
    go_wp2_with fail
    refine (l_toStringS _ _ _ _ _ _ a1_11.out (by omega)).mono ?_
    rintro e w_12 ⟨A12, c12, rfl, hb12, ho12⟩
    have a1_12 := hide (a1_11.out.below hb12)
    clear a1_11
    have R_12 := hide (R_11.out.below hb12)
    clear R_11
    have G_12 := hide (G_11.out.below hb12)
    clear G_11
    have S2_12 := hide ho12
    have bb12 := hide (bel_new bb11.out hb12 bb11.out.size)
    clear bb11
    have sz12 := hide hb12.size
    clear hb12 ho12
    go_wp2_with fail
    refine (i_Inclusion _ _ _ _ _ _ _ _ S2_12.out.rd hz (by simpa [strs] using S2_12.out.cap.1) S2_12.out.cap.2).mono ?_
    rintro e w_13 ⟨A13, c13, rfl, hb13, ho13⟩
    have a1_13 := hide (a1_12.out.below hb13)
    clear a1_12
    have R_13 := hide (R_12.out.below hb13)
    clear R_12
    have G_13 := hide (G_12.out.below hb13)
    clear G_12
    have S2_13 := hide (S2_12.out.below hb13)
    clear S2_12
    have G2_13 := hide ho13
    have bb13 := hide (bel_new bb12.out hb13 bb12.out.size)
    clear bb12
    have sz13 := hide hb13.size
    clear hb13 ho13
    clear S2_13
    go_wp2_with fail
    refine (l_eqStringS _ _ _ _ _ _ _ _ _ _ G2_13.out.rd R_13.out.rd hn).mono ?_
    rintro e w_14 ⟨rfl, n14, hw14⟩
    have hb14 := below_of_drewN hw14
    clear hw14
    have a1_14 := hide (a1_13.out.below hb14)
    clear a1_13
    have R_14 := hide (R_13.out.below hb14)
    clear R_13
    have G_14 := hide (G_13.out.below hb14)
    clear G_13
    have G2_14 := hide (G2_13.out.below hb14)
    clear G2_13
    have bb14 := hide (bel_new bb13.out hb14 bb13.out.size)
    clear bb13
    have sz14 := hide hb14.size
    clear hb14
    go_wp2_with fail
    refine (l_heldStringS 1 (inclI a0 z1 a2).length _ _ _ _ _ G_14.out.rd (by omega) (by omega)).mono ?_
    rintro e w_15 ⟨rfl, hb15⟩
    have a1_15 := hide (a1_14.out.below hb15)
    clear a1_14
    have R_15 := hide (R_14.out.below hb15)
    clear R_14
    have G_15 := hide (G_14.out.below hb15)
    clear G_14
    have G2_15 := hide (G2_14.out.below hb15)
    clear G2_14
    have bb15 := hide (bel_new bb14.out hb15 bb14.out.size)
    clear bb14
    have sz15 := hide hb15.size
    clear hb15
    go_wp2
    go_ret
    exact ⟨rfl, bb15.out⟩
  · go_enter Try.func5, Try.ntmps5
    go_wp2_with (go_at_call 9; refine (l_szStringS_out _ _ _ _ _ _ _ H1.out (by omega) (by omega) (by omega) hz HS.out).mono ?_; rintro e w1 ⟨rfl, rfl⟩)
    go_ret
    exact ⟨rfl, Below.refl _ _⟩

set_option maxRecDepth 100000 in
theorem lifted (os : Os) (started : os.Started) (H : Type) (enc : TypeId × Value → H) :
    ReturnsInHanded {} Try.checked os 5 .any (Rows.fnExactInclusionSpec.pre6 enc Try.prog Try.f5 Rows.fnExactInclusionRow.domain false) (Rows.fnExactInclusionSpec.post enc Try.prog Try.f5 false true false false) := by
  refine returnsInHanded_of_change (C := Try.checked) own started (by kernel_rfl) Try.func5
    (ChangeSpec.witness6 (enc := enc) (C := Try.checked) false ⟨#[], #[.int .i64 0, .slice none 0 0, .int .i64 0], []⟩ 8 (by kernel_rfl) (by kernel_rfl) (by kernel_rfl) (by kernel_rfl)) ?_
  intro W base args ds gs before hval0 hW hcnd _
  have hval : ∀ (j : Nat) t v, Try.f5.params[j]? = some t → args[j]? = some v → Value.okWide Try.prog W .any base t v := hval0
  have hW' := hW
  obtain ⟨p, q, hA0, hV, rfl, hfz, hnd⟩ := hW
  have hA : DataW.TrodAll enc Try.prog W 0 (fun _ => true) true Try.f5.params.toList args.toList ds p := hA0
  rw [Try.params5] at hA hval
  obtain ⟨v0, vs0, d0, ds0, p0, q0, hargs, rfl, rfl, h0, r0⟩ := trodAll_cons hA
  obtain ⟨v1, vs1, d1, ds1, p1, q1, rfl, rfl, rfl, h1, r1⟩ := trodAll_cons r0
  obtain ⟨v2, vs2, d2, ds2, p2, q2, rfl, rfl, rfl, h2, r2⟩ := trodAll_cons r1
  obtain ⟨rfl, rfl, rfl⟩ := trodAll_nil r2
  obtain rfl : args = #[v0, v1, v2] := by cases args; simp_all
  obtain ⟨rfl, rfl⟩ := trodVars_none hV
  obtain ⟨a0, rfl, rfl, rfl, w0⟩ := open_int Try.underlying3 (hval 0 3 v0 rfl rfl) h0
  have k1 := h1
  have lt1 : ∀ x ∈ p1, x.block < W.heap.size := by obtain ⟨m, hm⟩ := k1; exact DataW.trod_lt m _ _ _ hm
  obtain ⟨A1, L1, C1, rfl⟩ := okWide_slice Try.underlying22 (hval 1 22 v1 rfl rfl)
  obtain ⟨fuel1, hf1⟩ := h1
  obtain ⟨a1, cap1, z1, ea1, w1, l1, b1⟩ := rd_strs (v := .slice A1 L1 C1) Try.underlying22 Try.underlying9 (by kernel_rfl) (by simpa [Value.cells] using hf1)
  simp only [Value.slice.injEq] at ea1
  obtain ⟨xa1, ya1, ta1⟩ := ea1
  replace xa1 := xa1.symm
  replace ta1 := ta1.symm
  subst xa1
  subst ta1
  subst ya1
  obtain ⟨a2, rfl, rfl, rfl, w2⟩ := open_int Try.underlying3 (hval 2 3 v2 rfl rfl) h2
  clear hA0 hval0
  refine (walk a0 a1 cap1 z1 a2 W w0 w1 l1 b1 w2).mono fun e W' ⟨he, bel⟩ => ?_
  subst he
  exact ⟨_, rfl, _, _, _, [], _, [], hW', trodAll_mk1 (shut_bool Try.underlying4 _), (trodAll_cons_mk (shut_int Try.underlying3 w0) (trodAll_cons_mk (Below.trod laidOut (by kernel_rfl) (of_decide_eq_true (by kernel_rfl)) k1 bel lt1) (trodAll_cons_mk (shut_int Try.underlying3 w2) trodAll_mk0))), rfl, bel.frame _, fun h => by cases h⟩

theorem over : Rows.fnExactInclusionRow.holds Try.pinned (OpenSpec.ofChange Rows.fnExactInclusionSpec) :=
  OpenClaim.holds_of_wide 5 Try.f5 rfl rfl rfl rfl rfl rfl rfl ⟨rfl, rfl, rfl, rfl, rfl⟩ rfl rfl rfl rfl rfl (by kernel_rfl) Try.func5 (by kernel_rfl)
    (of_decide_eq_true (by kernel_rfl)) (by unfold Func.isWrapper; first | (rw [if_pos (by decide +kernel)]; kernel_rfl) | (rw [if_neg (by decide +kernel)]; exact ⟨rfl, rfl⟩))
    (fun os started H enc _ => lifted os started H enc)

theorem proved : Rows.FnExactInclusionSaid := over
#print axioms proved
end Go.Proofs.Ytmcaglkbohoclaa.fnExactInclusion

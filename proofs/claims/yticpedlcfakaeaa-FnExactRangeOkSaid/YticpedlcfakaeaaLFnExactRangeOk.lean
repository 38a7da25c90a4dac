/-
  The law 'FnExactRangeOk' returns true, at every input, under no condition: the statement 'Rows.FnExactRangeOkSaid'. The walk takes the functions that the law calls by their contracts; the frame about it opens the arguments and hands them back as they were.
-/
import Derived.Test.YticpedlcfakaeaaRange
import Derived.Test.YticpedlcfakaeaaOpen
import Derived.Test.YticpedlcfakaeaaRows
import Derived.WalkKit
import Derived.ProofKit
import Derived.OpenShut
import Derived.ShutString
import Derived.ChangeOld
import Derived.Below
namespace Go.Proofs.Yticpedlcfakaeaa.fnExactRangeOk
open Go.Joins (open_agg2 open_agg3)
open Go.ChangeShapes Go.WideShapes Go.ChangeAt Go.RowKit
open Go.ChangeMaps (open_string shut_string)
set_option linter.unusedVariables false

theorem own : ownKnob Try.prog.godebug = none := by kernel_rfl
theorem laidOut : laidOutB Try.prog = true := by kernel_rfl

set_option maxHeartbeats 2000000 in
theorem walk (a0 : Int) (a1_0 : Int) (a1_1 : Option Addr) (cap1_1 : Nat) (z1_1 : List ByteArray) (w : World) (w0 : (Lit.int .i64 a0).wf = true) (w1_0 : (Lit.int .i64 a1_0).wf = true) (w1_1 : Rd w 0 w.heap.size a1_1 (strs z1_1)) (l1_1 : z1_1.length ≤ cap1_1 ∧ cap1_1 ≤ maxLen) (b1_1 : ∀ s ∈ z1_1, s.size ≤ maxLen) :
    Calls Try.prog 11 #[.int .i64 a0, .agg #[.int .i64 a1_0, .slice a1_1 z1_1.length cap1_1]] w fun e w' => e = .returned (.bool true) ∧ Below w.heap.size w w' := by
  unfold maxLen at l1_1 b1_1
  have hn : z1_1.length ≤ 9223372036854775807 := by omega
  have hs : ∀ s ∈ z1_1, s.size ≤ 9223372036854775807 := fun s h => by have := b1_1 s h; omega
  have HS := hide hs
  have H1 := hide w1_1
  clear w0 w1_0 w1_1 b1_1 l1_1 hs
  by_cases hl : (z1_1.length : Int) + sumLen z1_1 ≤ 1048576
  · have g : 0 ≤ (1048576 : Int) - z1_1.length - sumLen z1_1 := by omega
    go_enter Try.func11, Try.ntmps11
    go_wp2_with (go_at_call 47; refine (l_szRange_in _ _ _ _ _ _ _ _ (H1.out.alloc _) hl (by omega)).mono ?_; rintro e w1 ⟨rfl, rfl⟩)
    go_wp2_with (go_at_call 49; refine (l_toRange _ _ _ _ _ _ _ (by repeat (first | exact H1.out | apply Rd.alloc)) (by omega)).mono ?_; rintro e w1 ⟨A1, c1, rfl, hb1, ho1⟩; have L1 := ((Loc.new w _ _).alloc _).below hb1; have R1 := hide (((H1.out.alloc _).alloc _).below hb1); have b1 := hide (bel_new (((Below.refl _ _).alloc (Nat.le_refl _) _).alloc (by simp) _) hb1 (by simp; omega)); have O1 := hide ho1; clear hb1 ho1; obtain ⟨z1, q1⟩ := L1)
    go_wp2_with (go_at_call 48; refine (s_RangeOk _ _ _ _ _ _ _ _ O1.out.rd hn).mono ?_; rintro e w2 ⟨rfl, hb2⟩; have L2 := (Loc.below ⟨z1, q1⟩ hb2); have R2 := hide (R1.out.below hb2); have b2 := hide (bel_new b1.out hb2 b1.out.size); clear hb2 z1 q1 b1 R1 O1; obtain ⟨z2, q2⟩ := L2)
    go_wp2_with (go_at_call 49; refine (l_toRange _ _ _ _ _ _ _ (by repeat (first | exact R2.out | apply Rd.alloc)) (by omega)).mono ?_; rintro e w3 ⟨A3, c3, rfl, hb3, ho3⟩; have L3 := Loc.below ⟨z2, q2⟩ hb3; have R3 := hide ((R2.out).below hb3); have b3 := hide (bel_new (b2.out) hb3 (by have := b2.out.size; simp; try omega)); have O3 := hide ho3; clear hb3 ho3 z2 q2 b2 R2; obtain ⟨z3, q3⟩ := L3)
    go_wp2_with (go_at_call 50; refine (i_RangeOk _ _ _ _ _ _ _ _ (O3.out.rd.alloc _) hn).mono ?_; rintro e w4 ⟨rfl, hb4⟩; have L4 := (Loc.alloc ⟨z3, q3⟩ _).below hb4; have M4 := (Loc.new w3 _ _).below hb4; have R4 := hide ((R3.out.alloc _).below hb4); have P4 := hide ((O3.out.rd.alloc _).below hb4); have b4 := hide (bel_new (b3.out.alloc b3.out.size _) hb4 (by have := b3.out.size; simp; try omega)); clear hb4 z3 q3 b3 R3 O3; obtain ⟨z4, q4⟩ := L4; obtain ⟨y4, p4⟩ := M4)
    go_region_with (first | (go_at_call 49; refine (l_toRange _ _ _ _ _ _ _ (by repeat (first | exact R4.out | apply Rd.alloc | apply Rd.drew)) (by omega)).mono ?_; rintro e w5 ⟨A5, c5, rfl, hb5, ho5⟩; have L5 := (Loc.drew ⟨z4, q4⟩).below hb5; have M5 := (Loc.drew ⟨y4, p4⟩).below hb5; have P5 := hide ((P4.out.drew).below hb5); have b5 := hide (bel_new (below_drew b4.out) hb5 (by have := b4.out.size; simp; try omega)); have O5 := hide ho5.rd; clear hb5 ho5; obtain ⟨z5, q5⟩ := L5; obtain ⟨y5, p5⟩ := M5) | (go_at_call 51; refine (l_eqRange _ _ _ _ _ _ _ _ _ _ _ P5.out O5.out hn).mono ?_; rintro e w6 ⟨rfl, o1, o2, n4, rfl⟩))
    all_goals
      go_wp2
      go_ret
      exact ⟨rfl, bel_drewN ((b5.out.alloc b5.out.size _).alloc (by have := b5.out.size; simp; omega) _) _⟩
  · go_enter Try.func11, Try.ntmps11
    go_wp2_with (go_at_call 47; refine (l_szRange_out _ _ _ _ _ _ _ _ (H1.out.alloc _) (by omega) (by omega) (by omega) hn HS.out).mono ?_; rintro e w1 ⟨rfl, rfl⟩)
    go_ret
    exact ⟨rfl, by repeat (first | exact Below.refl _ _ | refine Below.alloc ?_ (by simp; try omega) _)⟩

set_option maxRecDepth 100000 in
theorem lifted (os : Os) (started : os.Started) (H : Type) (enc : TypeId × Value → H) :
    ReturnsInHanded {} Try.checked os 11 .any (Rows.fnExactRangeOkSpec.pre6 enc Try.prog Try.f11 Rows.fnExactRangeOkRow.domain false) (Rows.fnExactRangeOkSpec.post enc Try.prog Try.f11 false true false false) := by
  refine returnsInHanded_of_change (C := Try.checked) own started (by kernel_rfl) Try.func11
    (ChangeSpec.witness6 (enc := enc) (C := Try.checked) false ⟨#[], #[.int .i64 0, .agg #[.int .i64 0, .slice none 0 0]], []⟩ 8 (by kernel_rfl) (by kernel_rfl) (by kernel_rfl) (by kernel_rfl)) ?_
  intro W base args ds gs before hval0 hW hcnd _
  have hval : ∀ (j : Nat) t v, Try.f11.params[j]? = some t → args[j]? = some v → Value.okWide Try.prog W .any base t v := hval0
  have hW' := hW
  obtain ⟨p, q, hA0, hV, rfl, hfz, hnd⟩ := hW
  have hA : DataW.TrodAll enc Try.prog W 0 (fun _ => true) true Try.f11.params.toList args.toList ds p := hA0
  rw [Try.params11] at hA hval
  obtain ⟨v0, vs0, d0, ds0, p0, q0, hargs, rfl, rfl, h0, r0⟩ := trodAll_cons hA
  obtain ⟨v1, vs1, d1, ds1, p1, q1, rfl, rfl, rfl, h1, r1⟩ := trodAll_cons r0
  obtain ⟨rfl, rfl, rfl⟩ := trodAll_nil r1
  obtain rfl : args = #[v0, v1] := by cases args; simp_all
  obtain ⟨rfl, rfl⟩ := trodVars_none hV
  obtain ⟨a0, rfl, rfl, rfl, w0⟩ := open_int Try.underlying3 (hval 0 3 v0 rfl rfl) h0
  have k1 := h1
  have lt1 : ∀ x ∈ p1, x.block < W.heap.size := by obtain ⟨m, hm⟩ := k1; exact DataW.trod_lt m _ _ _ hm
  obtain ⟨c1_0, c1_1, y1_0, y1_1, m1, rfl, -, -, f1_0, f1_1⟩ := open_agg2 Try.underlying65 (by kernel_rfl) (by kernel_rfl) (hval 1 65 v1 rfl rfl) h1
  obtain ⟨a1_0, ea1_0, -, w1_0⟩ := DataW.trod_int Try.underlying3 f1_0
  simp only [List.cons.injEq, and_true] at ea1_0
  subst ea1_0
  obtain ⟨a1_1, cap1_1, z1_1, ea1_1, w1_1, l1_1, b1_1⟩ := rd_strs Try.underlying63 Try.underlying9 (by kernel_rfl) f1_1
  subst ea1_1
  clear hA0 hval0
  refine (walk a0 a1_0 a1_1 cap1_1 z1_1 W w0 w1_0 w1_1 l1_1 b1_1).mono fun e W' ⟨he, bel⟩ => ?_
  subst he
  exact ⟨_, rfl, _, _, _, [], _, [], hW', trodAll_mk1 (shut_bool Try.underlying4 _), (trodAll_cons_mk (shut_int Try.underlying3 w0) (trodAll_cons_mk (Below.trod laidOut (by kernel_rfl) (of_decide_eq_true (by kernel_rfl)) k1 bel lt1) trodAll_mk0)), rfl, bel.frame _, fun h => by cases h⟩

theorem over : Rows.fnExactRangeOkRow.holds Try.pinned (OpenSpec.ofChange Rows.fnExactRangeOkSpec) :=
  OpenClaim.holds_of_wide 11 Try.f11 rfl rfl rfl rfl rfl rfl rfl ⟨rfl, rfl, rfl, rfl, rfl⟩ rfl rfl rfl rfl rfl (by kernel_rfl) Try.func11 (by kernel_rfl)
    (of_decide_eq_true (by kernel_rfl)) (by unfold Func.isWrapper; first | (rw [if_pos (by decide +kernel)]; kernel_rfl) | (rw [if_neg (by decide +kernel)]; exact ⟨rfl, rfl⟩))
    (fun os started H enc _ => lifted os started H enc)

theorem proved : Rows.FnExactRangeOkSaid := over
#print axioms proved
end Go.Proofs.Yticpedlcfakaeaa.fnExactRangeOk

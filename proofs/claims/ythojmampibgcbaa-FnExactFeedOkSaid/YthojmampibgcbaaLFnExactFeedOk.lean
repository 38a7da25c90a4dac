/-
  The law 'FnExactFeedOk' returns true, at every input, under no condition: the statement 'Rows.FnExactFeedOkSaid'. The walk takes the functions that the law calls by their contracts; the frame about it opens the arguments and hands them back as they were.
-/
import Derived.Test.YthojmampibgcbaaFeed
import Derived.Test.YthojmampibgcbaaOpen
import Derived.Test.YthojmampibgcbaaRows
import Derived.WalkKit
import Derived.ProofKit
import Derived.OpenShut
import Derived.ShutString
import Derived.ChangeOld
import Derived.Below
namespace Go.Proofs.Ythojmampibgcbaa.fnExactFeedOk
open Go.Joins (open_agg2 open_agg3)
open Go.ChangeShapes Go.WideShapes Go.ChangeAt Go.RowKit
open Go.ChangeMaps (open_string shut_string)
set_option linter.unusedVariables false

theorem own : ownKnob Try.prog.godebug = none := by kernel_rfl
theorem laidOut : laidOutB Try.prog = true := by kernel_rfl

set_option maxHeartbeats 2000000 in
theorem walk (a0_0 : Int) (a0_1 : Int) (a0_2 : Option Addr) (cap0_2 : Nat) (z0_2 : List Int) (a0_3 : ByteArray) (a0_4 : Int) (w : World) (w0_0 : (Lit.int .i64 a0_0).wf = true) (w0_1 : (Lit.int .i64 a0_1).wf = true) (w0_2 : Rd w 0 w.heap.size a0_2 (ints .u32 z0_2)) (l0_2 : z0_2.length ≤ cap0_2 ∧ cap0_2 ≤ maxLen) (b0_2 : ∀ n ∈ z0_2, (Lit.int .u32 n).wf = true) (w0_3 : a0_3.size ≤ maxLen) (w0_4 : (Lit.int .i64 a0_4).wf = true) :
    Calls Try.prog 14 #[.agg #[.int .i64 a0_0, .int .i64 a0_1, .slice a0_2 z0_2.length cap0_2, .string a0_3, .int .i64 a0_4]] w fun e w' => e = .returned (.bool true) ∧ Below w.heap.size w w' := by
  unfold maxLen at l0_2 w0_3
  have hn : z0_2.length ≤ 9223372036854775807 := by omega
  have hr : a0_3.size ≤ 9223372036854775807 := by omega
  have H1 := hide w0_2
  clear w0_2 w0_0 w0_1 w0_3 w0_4 b0_2
  by_cases hl : (z0_2.length : Int) + a0_3.size ≤ 1048576
  · have g : 0 ≤ (1048576 : Int) - z0_2.length - a0_3.size := by omega
    go_enter Try.func14, Try.ntmps14
    go_wp2_with (go_at_call 50; refine (l_szFeed_in _ _ _ _ _ _ _ _ hl (by omega) _).mono ?_; rintro e w1 ⟨rfl, rfl⟩)
    go_wp2_with (go_at_call 52; refine (l_toFeed _ _ _ _ _ _ _ _ _ _ (by repeat (first | exact H1.out | apply Rd.alloc)) (by omega)).mono ?_; rintro e w1 ⟨A1, c1, rfl, hb1, ho1⟩; have L1 := ((Loc.new w _ _).alloc _).below hb1; have R1 := hide (((H1.out.alloc _).alloc _).below hb1); have b1 := hide (bel_new (((Below.refl _ _).alloc (Nat.le_refl _) _).alloc (by simp) _) hb1 (by simp; omega)); clear hb1 ho1; obtain ⟨z1, q1⟩ := L1)
    go_wp2_with (go_at_call 51; refine (s_FeedOk _ _ _ _ _ _ _ _).mono ?_; rintro e w2 ⟨rfl, rfl⟩)
    go_wp2_with (go_at_call 52; refine (l_toFeed _ _ _ _ _ _ _ _ _ _ (by repeat (first | exact R1.out | apply Rd.alloc)) (by omega)).mono ?_; rintro e w2 ⟨A2, c2, rfl, hb2, ho2⟩; have L2 := (Loc.alloc ⟨z1, q1⟩ _).below hb2; have R2 := hide ((R1.out.alloc _).below hb2); have b2 := hide (bel_new (b1.out.alloc (by have := b1.out.size; omega) _) hb2 (by have := b1.out.size; simp; omega)); have O2 := hide ho2; clear hb2 ho2 z1 q1 b1; obtain ⟨z2, q2⟩ := L2)
    go_wp2_with (go_at_call 53; refine (i_FeedOk _ _ _ _ _ _ _ _).mono ?_; rintro e w3 ⟨rfl, rfl⟩)
    go_region_with (first | (go_at_call 52; refine (l_toFeed _ _ _ _ _ _ _ _ _ _ (by repeat (first | exact R2.out | apply Rd.alloc | apply Rd.drew)) (by omega)).mono ?_; rintro e w3 ⟨A3, c3, rfl, hb3, ho3⟩; have L3 := (((Loc.alloc ⟨z2, q2⟩ _).alloc _).drew).below hb3; have M3 := (((Loc.new w2 _ _).alloc _).drew).below hb3; have P3 := hide (((((O2.out.rd).alloc _).alloc _).drew).below hb3); have b3 := hide (bel_new (((b2.out.alloc b2.out.size _).alloc (by have := b2.out.size; simp; omega) _).drew) hb3 (by have := b2.out.size; simp; omega)); have O3 := hide ho3.rd; clear hb3 ho3; obtain ⟨z3, q3⟩ := L3; obtain ⟨y3, p3⟩ := M3) | (go_at_call 54; refine (l_eqFeed _ _ _ _ _ _ _ _ _ _ _ _ _ _ P3.out O3.out hn).mono ?_; rintro e w4 ⟨rfl, o1, o2, n4, rfl⟩))
    all_goals
      go_wp2
      go_ret
      exact ⟨rfl, bel_drewN ((b3.out.alloc b3.out.size _).alloc (by have := b3.out.size; simp; omega) _) _⟩
  · go_enter Try.func14, Try.ntmps14
    go_wp2_with (go_at_call 50; refine (l_szFeed_out _ _ _ _ _ _ _ _ (by omega) (by omega) (by omega) hn hr _).mono ?_; rintro e w1 ⟨rfl, rfl⟩)
    go_ret
    exact ⟨rfl, by repeat (first | exact Below.refl _ _ | refine Below.alloc ?_ (by simp; try omega) _)⟩

set_option maxRecDepth 100000 in
theorem lifted (os : Os) (started : os.Started) (H : Type) (enc : TypeId × Value → H) :
    ReturnsInHanded {} Try.checked os 14 .any (Rows.fnExactFeedOkSpec.pre6 enc Try.prog Try.f14 Rows.fnExactFeedOkRow.domain false) (Rows.fnExactFeedOkSpec.post enc Try.prog Try.f14 false true false false) := by
  refine returnsInHanded_of_change (C := Try.checked) own started (by kernel_rfl) Try.func14
    (ChangeSpec.witness6 (enc := enc) (C := Try.checked) false ⟨#[], #[.agg #[.int .i64 0, .int .i64 0, .slice none 0 0, .string ByteArray.empty, .int .i64 0]], []⟩ 8 (by kernel_rfl) (by kernel_rfl) (by kernel_rfl) (by kernel_rfl)) ?_
  intro W base args ds gs before hval0 hW hcnd _
  have hval : ∀ (j : Nat) t v, Try.f14.params[j]? = some t → args[j]? = some v → Value.okWide Try.prog W .any base t v := hval0
  have hW' := hW
  obtain ⟨p, q, hA0, hV, rfl, hfz, hnd⟩ := hW
  have hA : DataW.TrodAll enc Try.prog W 0 (fun _ => true) true Try.f14.params.toList args.toList ds p := hA0
  rw [Try.params14] at hA hval
  obtain ⟨v0, vs0, d0, ds0, p0, q0, hargs, rfl, rfl, h0, r0⟩ := trodAll_cons hA
  obtain ⟨rfl, rfl, rfl⟩ := trodAll_nil r0
  obtain rfl : args = #[v0] := by cases args; simp_all
  obtain ⟨rfl, rfl⟩ := trodVars_none hV
  have k0 := h0
  have lt0 : ∀ x ∈ p0, x.block < W.heap.size := by obtain ⟨m, hm⟩ := k0; exact DataW.trod_lt m _ _ _ hm
  obtain ⟨c0_0, c0_1, c0_2, c0_3, c0_4, y0_0, y0_1, y0_2, y0_3, y0_4, m0, rfl, f0_0, f0_1, f0_2, f0_3, f0_4⟩ := open_agg5 Try.underlying57 (by kernel_rfl) (by kernel_rfl) (hval 0 57 v0 rfl rfl) h0
  obtain ⟨a0_0, ea0_0, -, w0_0⟩ := DataW.trod_int Try.underlying3 f0_0
  simp only [List.cons.injEq, and_true] at ea0_0
  subst ea0_0
  obtain ⟨a0_1, ea0_1, -, w0_1⟩ := DataW.trod_int Try.underlying3 f0_1
  simp only [List.cons.injEq, and_true] at ea0_1
  subst ea0_1
  obtain ⟨a0_2, cap0_2, z0_2, ea0_2, w0_2, l0_2, b0_2⟩ := rd_ints Try.underlying50 Try.underlying72 (by kernel_rfl) f0_2
  subst ea0_2
  obtain ⟨a0_3, ea0_3, -, w0_3⟩ := DataW.trod_string Try.underlying9 f0_3
  simp only [List.cons.injEq, and_true] at ea0_3
  subst ea0_3
  obtain ⟨a0_4, ea0_4, -, w0_4⟩ := DataW.trod_int Try.underlying3 f0_4
  simp only [List.cons.injEq, and_true] at ea0_4
  subst ea0_4
  clear hA0 hval0
  refine (walk a0_0 a0_1 a0_2 cap0_2 z0_2 a0_3 a0_4 W w0_0 w0_1 w0_2 l0_2 b0_2 w0_3 w0_4).mono fun e W' ⟨he, bel⟩ => ?_
  subst he
  exact ⟨_, rfl, _, _, _, [], _, [], hW', trodAll_mk1 (shut_bool Try.underlying4 _), (trodAll_cons_mk (Below.trod laidOut (by kernel_rfl) (of_decide_eq_true (by kernel_rfl)) k0 bel lt0) trodAll_mk0), rfl, bel.frame _, fun h => by cases h⟩

theorem over : Rows.fnExactFeedOkRow.holds Try.pinned (OpenSpec.ofChange Rows.fnExactFeedOkSpec) :=
  OpenClaim.holds_of_wide 14 Try.f14 rfl rfl rfl rfl rfl rfl rfl ⟨rfl, rfl, rfl, rfl, rfl⟩ rfl rfl rfl rfl rfl (by kernel_rfl) Try.func14 (by kernel_rfl)
    (of_decide_eq_true (by kernel_rfl)) (by unfold Func.isWrapper; first | (rw [if_pos (by decide +kernel)]; kernel_rfl) | (rw [if_neg (by decide +kernel)]; exact ⟨rfl, rfl⟩))
    (fun os started H enc _ => lifted os started H enc)

theorem proved : Rows.FnExactFeedOkSaid := over
#print axioms proved
end Go.Proofs.Ythojmampibgcbaa.fnExactFeedOk

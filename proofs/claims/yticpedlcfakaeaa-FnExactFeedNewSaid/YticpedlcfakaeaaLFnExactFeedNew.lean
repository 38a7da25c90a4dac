/-
  The law 'FnExactFeedNew' returns true, at every input, under no condition: the statement 'Rows.FnExactFeedNewSaid'. The walk takes the functions that the law calls by their contracts; the frame about it opens the arguments and hands them back as they were.
-/
import Derived.Test.YticpedlcfakaeaaNew
import Derived.Test.YticpedlcfakaeaaRows
import Derived.WalkKit
import Derived.ProofKit
import Derived.OpenShut
import Derived.ShutString
import Derived.ChangeOld
import Derived.Below
namespace Go.Proofs.Yticpedlcfakaeaa.fnExactFeedNew
open Go.ChangeShapes Go.WideShapes Go.ChangeAt Go.RowKit
open Go.ChangeMaps (open_string shut_string)
set_option linter.unusedVariables false

theorem own : ownKnob Try.prog.godebug = none := by kernel_rfl

set_option maxHeartbeats 2000000 in
theorem walk (a0 : Int) (a1 : Int) (w : World) (w0 : (Lit.int .i64 a0).wf = true) (w1 : (Lit.int .i64 a1).wf = true) :
    Calls Try.prog 10 #[.int .i64 a0, .int .i64 a1] w fun e w' => e = .returned (.bool true) ∧ Below w.heap.size w w' := by
  clear w0 w1
  have hn8 := newSt_len a0 a1
  have hn : (newSt a0 a1).length ≤ 9223372036854775807 := by omega
  go_enter Try.func10, Try.ntmps10
  go_wp2_with (go_at_call 42; refine (s_FeedNew _ _ _).mono ?_; rintro e w1 ⟨A1, c1, rfl, hb1, ho1⟩; have R1 := hide ho1.rd; have b1 := hide hb1; clear hb1 ho1)
  go_wp2_with (go_at_call 43; refine (i_FeedNew _ _ _).mono ?_; rintro e w2 ⟨A2, c2, rfl, hb2, ho2⟩; have L1 := (Loc.new w1 _ _).below hb2; have R2 := hide ((R1.out.alloc _).below hb2); have s1 := b1.out.size; have s2 := hb2.size; simp only [World.size_alloc] at s2 ho2; have b2 := hide (bel_new (b1.out.alloc b1.out.size _) hb2 (by simp; omega)); have O2 := hide ho2; clear hb2 ho2; obtain ⟨z1, q1⟩ := L1)
  go_wp2_with (go_at_call 44; refine (l_eqFeed _ _ (newSt a0 a1) _ _ _ _ _ _ _ _ _ _ _ (by repeat (first | exact O2.out.rd | apply Rd.alloc)) (by repeat (first | exact R2.out | apply Rd.alloc)) hn).mono ?_; rintro e w3 ⟨rfl, o1, o2, n3, rfl⟩)
  go_wp2_with (go_at_call 45; refine (l_markFeed 1 _ _ (newSt a0 a1) _ _ _ _ _ _ _ (by repeat (first | exact O2.out | apply Own.drewN | apply Own.alloc)) (by simp; omega) (by omega) (by omega)).mono ?_; rintro e w4 ⟨rfl, hc4, ho4, hs4⟩; have L4 := (Loc.drewN (Loc.alloc (Loc.alloc (Loc.alloc ⟨z1, q1⟩ _) o1) o2) n3).chg hc4 (.inl (by omega)); have M4 := (((((Loc.new w2 _ _).alloc o1).alloc o2).drewN n3)).chg hc4 (.inr (Nat.le_refl _)); have R4 := hide ((((((R2.out.alloc _).alloc o1).alloc o2).drewN n3)).chg hc4 (.inl (by omega))); have b4 := hide (bel_chg (bel_drewN (((b2.out.alloc (by omega) _).alloc (by simp; omega) o1).alloc (by simp; omega) o2) n3) hc4 (by simp; omega) (.inl (by omega))); simp at hs4; have O4 := hide ho4; clear hc4 ho4; obtain ⟨z4, q4⟩ := L4; obtain ⟨y4, p4⟩ := M4)
  go_wp2_with (go_at_call 46; refine (l_heldFeed 1 _ _ (newSt a0 a1).length _ _ _ _ _ _ _ O4.out.rd (by omega) (by omega)).mono ?_; rintro e w5 ⟨rfl, o5, n5, rfl⟩)
  go_wp2_with (go_at_call 43; refine (i_FeedNew _ _ _).mono ?_; rintro e w6 ⟨A6, c6, rfl, hb6, ho6⟩; have L6 := ((Loc.alloc ⟨z4, q4⟩ o5).drewN n5).below hb6; have M6 := ((Loc.alloc ⟨y4, p4⟩ o5).drewN n5).below hb6; have R6 := hide (((R4.out.alloc o5).drewN n5).below hb6); have Q6 := hide (((O4.out.alloc o5).drewN n5).below hb6); have b6 := hide (bel_new (bel_drewN (b4.out.alloc (by omega) o5) n5) hb6 (by simp; omega)); have s6 := hb6.size; simp at s6; have O6 := hide ho6; clear hb6 ho6; obtain ⟨z6, q6⟩ := L6; obtain ⟨y6, p6⟩ := M6)
  go_wp2_with (go_at_call 44; go_loud (refine (l_eqFeed _ _ (newSt a0 a1) _ _ _ _ _ _ _ _ _ _ _ (by repeat (first | exact O6.out.rd | apply Rd.alloc)) (by repeat (first | exact R6.out | apply Rd.alloc)) hn).mono ?_; rintro e w7 ⟨rfl, o6, o7, n7, rfl⟩; have y7 := Nat.lt_succ_of_lt y6; have y8 := Nat.lt_succ_of_lt y7))
  go_wp2_with (go_at_call 46; refine (l_heldFeed 1 _ _ (newSt a0 a1).length _ _ _ _ _ _ _ (by repeat (first | exact Q6.out.rd | apply Rd.drewN | apply Rd.alloc)) (by omega) (by omega)).mono ?_; rintro e w8 ⟨rfl, o8, n8, rfl⟩)
  go_ret
  exact ⟨rfl, by repeat (first | exact b6.out | with_reducible refine bel_drewN ?_ _ | with_reducible refine Below.alloc ?_ (by first | omega | (simp; done) | (simp; omega)) _)⟩

set_option maxRecDepth 100000 in
theorem lifted (os : Os) (started : os.Started) (H : Type) (enc : TypeId × Value → H) :
    ReturnsInHanded {} Try.checked os 10 .any (Rows.fnExactFeedNewSpec.pre6 enc Try.prog Try.f10 Rows.fnExactFeedNewRow.domain false) (Rows.fnExactFeedNewSpec.post enc Try.prog Try.f10 false true false false) := by
  refine returnsInHanded_of_change (C := Try.checked) own started (by kernel_rfl) Try.func10
    (ChangeSpec.witness6 (enc := enc) (C := Try.checked) false ⟨#[], #[.int .i64 0, .int .i64 0], []⟩ 8 (by kernel_rfl) (by kernel_rfl) (by kernel_rfl) (by kernel_rfl)) ?_
  intro W base args ds gs before hval0 hW hcnd _
  have hval : ∀ (j : Nat) t v, Try.f10.params[j]? = some t → args[j]? = some v → Value.okWide Try.prog W .any base t v := hval0
  have hW' := hW
  obtain ⟨p, q, hA0, hV, rfl, hfz, hnd⟩ := hW
  have hA : DataW.TrodAll enc Try.prog W 0 (fun _ => true) true Try.f10.params.toList args.toList ds p := hA0
  rw [Try.params10] at hA hval
  obtain ⟨v0, vs0, d0, ds0, p0, q0, hargs, rfl, rfl, h0, r0⟩ := trodAll_cons hA
  obtain ⟨v1, vs1, d1, ds1, p1, q1, rfl, rfl, rfl, h1, r1⟩ := trodAll_cons r0
  obtain ⟨rfl, rfl, rfl⟩ := trodAll_nil r1
  obtain rfl : args = #[v0, v1] := by cases args; simp_all
  obtain ⟨rfl, rfl⟩ := trodVars_none hV
  obtain ⟨a0, rfl, rfl, rfl, w0⟩ := open_int Try.underlying3 (hval 0 3 v0 rfl rfl) h0
  obtain ⟨a1, rfl, rfl, rfl, w1⟩ := open_int Try.underlying3 (hval 1 3 v1 rfl rfl) h1
  clear hA0 hval0
  refine (walk a0 a1 W w0 w1).mono fun e W' ⟨he, bel⟩ => ?_
  subst he
  exact ⟨_, rfl, _, _, _, [], _, [], hW', trodAll_mk1 (shut_bool Try.underlying4 _), (trodAll_cons_mk (shut_int Try.underlying3 w0) (trodAll_cons_mk (shut_int Try.underlying3 w1) trodAll_mk0)), rfl, bel.frame _, fun h => by cases h⟩

theorem over : Rows.fnExactFeedNewRow.holds Try.pinned (OpenSpec.ofChange Rows.fnExactFeedNewSpec) :=
  OpenClaim.holds_of_wide 10 Try.f10 rfl rfl rfl rfl rfl rfl rfl ⟨rfl, rfl, rfl, rfl, rfl⟩ rfl rfl rfl rfl rfl (by kernel_rfl) Try.func10 (by kernel_rfl)
    (of_decide_eq_true (by kernel_rfl)) (by unfold Func.isWrapper; first | (rw [if_pos (by decide +kernel)]; kernel_rfl) | (rw [if_neg (by decide +kernel)]; exact ⟨rfl, rfl⟩))
    (fun os started H enc _ => lifted os started H enc)

theorem proved : Rows.FnExactFeedNewSaid := over
#print axioms proved
end Go.Proofs.Yticpedlcfakaeaa.fnExactFeedNew

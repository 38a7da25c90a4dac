/-
  The law 'FnExactLeafText' returns true, at every input, under no condition: the statement 'Rows.FnExactLeafTextSaid'. The walk takes the functions that the law calls by their contracts; the frame about it opens the arguments and hands them back as they were.
-/
import Derived.Test.YticpedlcfakaeaaText
import Derived.Test.YticpedlcfakaeaaOpen
import Derived.Test.YticpedlcfakaeaaRows
import Derived.WalkKit
import Derived.ProofKit
import Derived.OpenShut
import Derived.ShutString
import Derived.ChangeOld
import Derived.Below
namespace Go.Proofs.Yticpedlcfakaeaa.fnExactLeafText
open Go.Joins (open_agg2 open_agg3)
open Go.ChangeShapes Go.WideShapes Go.ChangeAt Go.RowKit
open Go.ChangeMaps (open_string shut_string)
set_option linter.unusedVariables false

theorem own : ownKnob Try.prog.godebug = none := by kernel_rfl
theorem laidOut : laidOutB Try.prog = true := by kernel_rfl

set_option maxHeartbeats 2000000 in
theorem walk (a0_0 : ByteArray) (a0_1 : Int) (a0_2 : Int) (a0_3 : ByteArray) (a0_4 : ByteArray) (w : World) (w0_0 : a0_0.size ≤ maxLen) (w0_1 : (Lit.int .i64 a0_1).wf = true) (w0_2 : (Lit.int .i64 a0_2).wf = true) (w0_3 : a0_3.size ≤ maxLen) (w0_4 : a0_4.size ≤ maxLen) :
    Calls Try.prog 6 #[.agg #[.string a0_0, .int .i64 a0_1, .int .i64 a0_2, .string a0_3, .string a0_4]] w fun e w' => e = .returned (.bool true) ∧ Below w.heap.size w w' := by
  unfold maxLen at w0_0 w0_3 w0_4
  have ht : a0_0.size ≤ 9223372036854775807 := by omega
  have hk : a0_3.size ≤ 9223372036854775807 := by omega
  have hb : a0_4.size ≤ 9223372036854775807 := by omega
  clear w0_2 w0_0 w0_1 w0_3 w0_4
  by_cases hl : (a0_0.size : Int) + a0_3.size + a0_4.size ≤ 1048576
  · have g : 0 ≤ (1048576 : Int) - a0_0.size - a0_3.size - a0_4.size := by omega
    go_enter Try.func6, Try.ntmps6
    go_wp2_with (first | (go_at_call 24; refine (l_szEntry_in _ _ _ _ _ _ hl (by omega) _).mono ?_; rintro e w1 ⟨rfl, rfl⟩) | (go_at_call 26; refine (l_toEntry _ _ _ _ _ _).mono ?_; rintro e w1 ⟨rfl, o1, o2, o3, rfl⟩) | (go_at_call 25; refine (s_LeafText _ _ _ _ _ ht _).mono ?_; rintro e w1 ⟨rfl, hb1⟩; have b1 := hide hb1; have k1 := (bcell hb1).1; have z1 := hb1.size; simp at z1; clear hb1) | (go_at_call 27; refine (i_LeafText _ _ _ _ _ ht _).mono ?_; rintro e w2 ⟨rfl, hb2⟩; have b2 := hide hb2; have k2 := (bcell hb2).1; clear hb2))
    go_ret
    exact ⟨rfl, by repeat (first | exact Below.refl _ _ | with_reducible refine bel_new ?_ b2.out (by first | omega | (simp; done) | (simp; omega)) | with_reducible refine bel_new ?_ b1.out (by first | omega | (simp; done) | (simp; omega)) | with_reducible refine Below.alloc ?_ (by first | omega | (simp; done) | (simp; omega)) _)⟩
  · go_enter Try.func6, Try.ntmps6
    go_wp2_with (go_at_call 24; refine (l_szEntry_out _ _ _ _ _ _ (by omega) (by omega) (by omega) ht hk hb _).mono ?_; rintro e w1 ⟨rfl, rfl⟩)
    go_ret
    exact ⟨rfl, by repeat (first | exact Below.refl _ _ | refine Below.alloc ?_ (by first | omega | (simp; done) | (simp; omega)) _)⟩

set_option maxRecDepth 100000 in
theorem lifted (os : Os) (started : os.Started) (H : Type) (enc : TypeId × Value → H) :
    ReturnsInHanded {} Try.checked os 6 .any (Rows.fnExactLeafTextSpec.pre6 enc Try.prog Try.f6 Rows.fnExactLeafTextRow.domain false) (Rows.fnExactLeafTextSpec.post enc Try.prog Try.f6 false true false false) := by
  refine returnsInHanded_of_change (C := Try.checked) own started (by kernel_rfl) Try.func6
    (ChangeSpec.witness6 (enc := enc) (C := Try.checked) false ⟨#[], #[.agg #[.string ByteArray.empty, .int .i64 0, .int .i64 0, .string ByteArray.empty, .string ByteArray.empty]], []⟩ 8 (by kernel_rfl) (by kernel_rfl) (by kernel_rfl) (by kernel_rfl)) ?_
  intro W base args ds gs before hval0 hW hcnd _
  have hval : ∀ (j : Nat) t v, Try.f6.params[j]? = some t → args[j]? = some v → Value.okWide Try.prog W .any base t v := hval0
  have hW' := hW
  obtain ⟨p, q, hA0, hV, rfl, hfz, hnd⟩ := hW
  have hA : DataW.TrodAll enc Try.prog W 0 (fun _ => true) true Try.f6.params.toList args.toList ds p := hA0
  rw [Try.params6] at hA hval
  obtain ⟨v0, vs0, d0, ds0, p0, q0, hargs, rfl, rfl, h0, r0⟩ := trodAll_cons hA
  obtain ⟨rfl, rfl, rfl⟩ := trodAll_nil r0
  obtain rfl : args = #[v0] := by cases args; simp_all
  obtain ⟨rfl, rfl⟩ := trodVars_none hV
  have k0 := h0
  have lt0 : ∀ x ∈ p0, x.block < W.heap.size := by obtain ⟨m, hm⟩ := k0; exact DataW.trod_lt m _ _ _ hm
  obtain ⟨c0_0, c0_1, c0_2, c0_3, c0_4, y0_0, y0_1, y0_2, y0_3, y0_4, m0, rfl, f0_0, f0_1, f0_2, f0_3, f0_4⟩ := open_agg5 Try.underlying38 (by kernel_rfl) (by kernel_rfl) (hval 0 38 v0 rfl rfl) h0
  obtain ⟨a0_0, ea0_0, -, w0_0⟩ := DataW.trod_string Try.underlying9 f0_0
  simp only [List.cons.injEq, and_true] at ea0_0
  subst ea0_0
  obtain ⟨a0_1, ea0_1, -, w0_1⟩ := DataW.trod_int Try.underlying3 f0_1
  simp only [List.cons.injEq, and_true] at ea0_1
  subst ea0_1
  obtain ⟨a0_2, ea0_2, -, w0_2⟩ := DataW.trod_int Try.underlying3 f0_2
  simp only [List.cons.injEq, and_true] at ea0_2
  subst ea0_2
  obtain ⟨a0_3, ea0_3, -, w0_3⟩ := DataW.trod_string Try.underlying9 f0_3
  simp only [List.cons.injEq, and_true] at ea0_3
  subst ea0_3
  obtain ⟨a0_4, ea0_4, -, w0_4⟩ := DataW.trod_string Try.underlying9 f0_4
  simp only [List.cons.injEq, and_true] at ea0_4
  subst ea0_4
  clear hA0 hval0
  refine (walk a0_0 a0_1 a0_2 a0_3 a0_4 W w0_0 w0_1 w0_2 w0_3 w0_4).mono fun e W' ⟨he, bel⟩ => ?_
  subst he
  exact ⟨_, rfl, _, _, _, [], _, [], hW', trodAll_mk1 (shut_bool Try.underlying4 _), (trodAll_cons_mk (Below.trod laidOut (by kernel_rfl) (of_decide_eq_true (by kernel_rfl)) k0 bel lt0) trodAll_mk0), rfl, bel.frame _, fun h => by cases h⟩

theorem over : Rows.fnExactLeafTextRow.holds Try.pinned (OpenSpec.ofChange Rows.fnExactLeafTextSpec) :=
  OpenClaim.holds_of_wide 6 Try.f6 rfl rfl rfl rfl rfl rfl rfl ⟨rfl, rfl, rfl, rfl, rfl⟩ rfl rfl rfl rfl rfl (by kernel_rfl) Try.func6 (by kernel_rfl)
    (of_decide_eq_true (by kernel_rfl)) (by unfold Func.isWrapper; first | (rw [if_pos (by decide +kernel)]; kernel_rfl) | (rw [if_neg (by decide +kernel)]; exact ⟨rfl, rfl⟩))
    (fun os started H enc _ => lifted os started H enc)

theorem proved : Rows.FnExactLeafTextSaid := over
#print axioms proved
end Go.Proofs.Yticpedlcfakaeaa.fnExactLeafText

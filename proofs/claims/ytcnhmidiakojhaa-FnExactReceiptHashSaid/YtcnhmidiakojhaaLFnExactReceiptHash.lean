/-
  The law 'FnExactReceiptHash' returns true, at every input, under no condition: the statement 'Rows.FnExactReceiptHashSaid'. The walk takes the functions that the law calls by their contracts; the frame about it opens the arguments and hands them back as they were.
-/
import Derived.Test.YtcnhmidiakojhaaHashes
import Derived.Test.YtcnhmidiakojhaaOpen
import Derived.Test.YtcnhmidiakojhaaRows
import Derived.WalkKit
import Derived.ProofKit
import Derived.OpenShut
import Derived.ShutString
import Derived.ChangeOld
import Derived.Below
namespace Go.Proofs.Ytcnhmidiakojhaa.fnExactReceiptHash
open Go.Joins (open_agg2 open_agg3)
open Go.ChangeShapes Go.WideShapes Go.ChangeAt Go.RowKit
open Go.ChangeMaps (open_string shut_string)
set_option linter.unusedVariables false

theorem own : ownKnob Try.prog.godebug = none := by kernel_rfl
theorem laidOut : laidOutB Try.prog = true := by kernel_rfl

set_option maxHeartbeats 2000000 in
theorem walk (a0 : Int) (a1_0 : ByteArray) (a1_1 : ByteArray) (a1_2 : Int) (w : World) (w0 : (Lit.int .i64 a0).wf = true) (w1_0 : a1_0.size ≤ maxLen) (w1_1 : a1_1.size ≤ maxLen) (w1_2 : (Lit.int .i64 a1_2).wf = true) :
    Calls Try.prog 8 #[.int .i64 a0, .agg #[.string a1_0, .string a1_1, .int .i64 a1_2]] w fun e w' => e = .returned (.bool true) ∧ Below w.heap.size w w' := by
  unfold maxLen at w1_0 w1_1
  have hr : a1_0.size ≤ 9223372036854775807 := by omega
  have ht : a1_1.size ≤ 9223372036854775807 := by omega
  clear w0 w1_2 w1_0 w1_1
  by_cases hl : (a1_0.size : Int) + a1_1.size ≤ 1048576
  · have g : 0 ≤ (1048576 : Int) - a1_0.size - a1_1.size := by omega
    go_enter Try.func8, Try.ntmps8
    go_wp2_with (first | (go_at_call 25; refine (l_szReceipt_in _ _ _ _ hl (by omega) _).mono ?_; rintro e w1 ⟨rfl, rfl⟩) | (go_at_call 27; refine (l_toReceipt _ _ _ _).mono ?_; rintro e w1 ⟨rfl, o1, o2, o3, rfl⟩) | (go_at_call 26; refine (s_ReceiptHash a0 _ _ _ hr ht _).mono ?_; rintro e w1 ⟨rfl, hb1⟩; have b1 := hide hb1; have k1 := (bcell hb1).1; have z1 := hb1.size; simp at z1; clear hb1) | (go_at_call 28; refine (i_ReceiptHash a0 _ _ _ hr ht _).mono ?_; rintro e w2 ⟨rfl, hb2⟩; have b2 := hide hb2; have k2 := (bcell hb2).1; clear hb2))
    go_ret
    exact ⟨rfl, by repeat (first | exact Below.refl _ _ | with_reducible refine bel_new ?_ b2.out (by first | omega | (simp; done) | (simp; omega)) | with_reducible refine bel_new ?_ b1.out (by first | omega | (simp; done) | (simp; omega)) | with_reducible refine Below.alloc ?_ (by first | omega | (simp; done) | (simp; omega)) _)⟩
  · go_enter Try.func8, Try.ntmps8
    go_wp2_with (go_at_call 25; refine (l_szReceipt_out _ _ _ _ (by omega) (by omega) (by omega) hr ht _).mono ?_; rintro e w1 ⟨rfl, rfl⟩)
    go_ret
    exact ⟨rfl, by repeat (first | exact Below.refl _ _ | refine Below.alloc ?_ (by first | omega | (simp; done) | (simp; omega)) _)⟩

set_option maxRecDepth 100000 in
theorem lifted (os : Os) (started : os.Started) (H : Type) (enc : TypeId × Value → H) :
    ReturnsInHanded {} Try.checked os 8 .any (Rows.fnExactReceiptHashSpec.pre6 enc Try.prog Try.f8 Rows.fnExactReceiptHashRow.domain false) (Rows.fnExactReceiptHashSpec.post enc Try.prog Try.f8 false true false false) := by
  refine returnsInHanded_of_change (C := Try.checked) own started (by kernel_rfl) Try.func8
    (ChangeSpec.witness6 (enc := enc) (C := Try.checked) false ⟨#[], #[.int .i64 0, .agg #[.string ByteArray.empty, .string ByteArray.empty, .int .i64 0]], []⟩ 8 (by kernel_rfl) (by kernel_rfl) (by kernel_rfl) (by kernel_rfl)) ?_
  intro W base args ds gs before hval0 hW hcnd _
  have hval : ∀ (j : Nat) t v, Try.f8.params[j]? = some t → args[j]? = some v → Value.okWide Try.prog W .any base t v := hval0
  have hW' := hW
  obtain ⟨p, q, hA0, hV, rfl, hfz, hnd⟩ := hW
  have hA : DataW.TrodAll enc Try.prog W 0 (fun _ => true) true Try.f8.params.toList args.toList ds p := hA0
  rw [Try.params8] at hA hval
  obtain ⟨v0, vs0, d0, ds0, p0, q0, hargs, rfl, rfl, h0, r0⟩ := trodAll_cons hA
  obtain ⟨v1, vs1, d1, ds1, p1, q1, rfl, rfl, rfl, h1, r1⟩ := trodAll_cons r0
  obtain ⟨rfl, rfl, rfl⟩ := trodAll_nil r1
  obtain rfl : args = #[v0, v1] := by cases args; simp_all
  obtain ⟨rfl, rfl⟩ := trodVars_none hV
  obtain ⟨a0, rfl, rfl, rfl, w0⟩ := open_int Try.underlying3 (hval 0 3 v0 rfl rfl) h0
  have k1 := h1
  have lt1 : ∀ x ∈ p1, x.block < W.heap.size := by obtain ⟨m, hm⟩ := k1; exact DataW.trod_lt m _ _ _ hm
  obtain ⟨c1_0, c1_1, c1_2, y1_0, y1_1, y1_2, m1, rfl, -, -, f1_0, f1_1, f1_2⟩ := open_agg3 Try.underlying43 (by kernel_rfl) (by kernel_rfl) (hval 1 43 v1 rfl rfl) h1
  obtain ⟨a1_0, ea1_0, -, w1_0⟩ := DataW.trod_string Try.underlying9 f1_0
  simp only [List.cons.injEq, and_true] at ea1_0
  subst ea1_0
  obtain ⟨a1_1, ea1_1, -, w1_1⟩ := DataW.trod_string Try.underlying9 f1_1
  simp only [List.cons.injEq, and_true] at ea1_1
  subst ea1_1
  obtain ⟨a1_2, ea1_2, -, w1_2⟩ := DataW.trod_int Try.underlying3 f1_2
  simp only [List.cons.injEq, and_true] at ea1_2
  subst ea1_2
  clear hA0 hval0
  refine (walk a0 a1_0 a1_1 a1_2 W w0 w1_0 w1_1 w1_2).mono fun e W' ⟨he, bel⟩ => ?_
  subst he
  exact ⟨_, rfl, _, _, _, [], _, [], hW', trodAll_mk1 (shut_bool Try.underlying4 _), (trodAll_cons_mk (shut_int Try.underlying3 w0) (trodAll_cons_mk (Below.trod laidOut (by kernel_rfl) (of_decide_eq_true (by kernel_rfl)) k1 bel lt1) trodAll_mk0)), rfl, bel.frame _, fun h => by cases h⟩

theorem over : Rows.fnExactReceiptHashRow.holds Try.pinned (OpenSpec.ofChange Rows.fnExactReceiptHashSpec) :=
  OpenClaim.holds_of_wide 8 Try.f8 rfl rfl rfl rfl rfl rfl rfl ⟨rfl, rfl, rfl, rfl, rfl⟩ rfl rfl rfl rfl rfl (by kernel_rfl) Try.func8 (by kernel_rfl)
    (of_decide_eq_true (by kernel_rfl)) (by unfold Func.isWrapper; first | (rw [if_pos (by decide +kernel)]; kernel_rfl) | (rw [if_neg (by decide +kernel)]; exact ⟨rfl, rfl⟩))
    (fun os started H enc _ => lifted os started H enc)

theorem proved : Rows.FnExactReceiptHashSaid := over
#print axioms proved
end Go.Proofs.Ytcnhmidiakojhaa.fnExactReceiptHash

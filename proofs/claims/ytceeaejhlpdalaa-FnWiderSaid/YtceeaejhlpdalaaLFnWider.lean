/-
  The law 'FnWider' returns true, at every input, under no condition: the statement 'Rows.FnWiderSaid'. The walk takes the functions that the law calls by their contracts; the frame about it opens the arguments and hands them back as they were.
-/
import Derived.Test.YtceeaejhlpdalaaWider
import Derived.Test.YtceeaejhlpdalaaOpen
import Derived.Test.YtceeaejhlpdalaaRows
import Derived.WalkKit
import Derived.ProofKit
import Derived.OpenShut
import Derived.ShutString
import Derived.ChangeOld
import Derived.Below
namespace Go.Proofs.Ytceeaejhlpdalaa.fnWider
open Go.Joins (open_agg2 open_agg3)
open Go.ChangeShapes Go.WideShapes Go.ChangeAt Go.RowKit
open Go.ChangeMaps (open_string shut_string)
set_option linter.unusedVariables false

theorem own : ownKnob Try.prog.godebug = none := by kernel_rfl
theorem laidOut : laidOutB Try.prog = true := by kernel_rfl

set_option maxHeartbeats 2000000 in
theorem walk (a0 : Option Addr) (cap0 : Nat) (z0 : List Int) (w : World) (w0 : Rd w 0 w.heap.size a0 (ints .u8 z0)) (l0 : z0.length ≤ cap0 ∧ cap0 ≤ maxLen) (b0 : ∀ n ∈ z0, (Lit.int .u8 n).wf = true) :
    Calls Try.prog 3 #[.slice a0 z0.length cap0] w fun e w' => e = .returned (.bool true) ∧ Below w.heap.size w w' := by
  have hb : ∀ b ∈ z0, 0 ≤ b ∧ b ≤ 255 := fun x hx => by
    have := b0 x hx
    simpa [Lit.wf, IntKind.min, IntKind.max, IntKind.signed, IntKind.bits] using this
  have HB := hide hb
  have H1 := hide w0
  clear w0 b0 l0 hb
  by_cases hbig : 1048576 < z0.length
  · have CB := hide (l_big_out z0 a0 cap0 hbig)
    go_enter Try.func3, Try.ntmps3
    go_wp2_with (go_at_call 5; refine (CB.out _).mono ?_; rintro e w1 ⟨rfl, rfl⟩)
    go_ret
    exact ⟨rfl, Below.refl _ _⟩
  have hn : z0.length ≤ 1048576 := by omega
  have CB := hide (l_big_in z0 a0 cap0 hn)
  clear hbig
  obtain ⟨wd, hwd, hw1, hw32⟩ : ∃ wd : Nat, 1 + (z0.length : Int) % 32 = (wd : Int) ∧ 1 ≤ wd ∧ wd ≤ 32 := ⟨1 + z0.length % 32, by omega, by omega, by omega⟩
  go_enter Try.func3, Try.ntmps3
  go_wp2_with (go_at_call 5; refine (CB.out _).mono ?_; rintro e w1 ⟨rfl, rfl⟩)
  refine (s_DrawDigest z0 a0 cap0 _ _ _ H1.out HB.out hn).mono ?_
  rintro e w1 ⟨d1, d2, T, rfl, hs, hb1⟩
  have b1 := hide hb1
  clear hb1 CB
  by_cases hT4 : T.size ≤ 4000
  · have h4' : (T.size : Int) ≤ 4000 := by omega
    go_wp2_with fail
    obtain ⟨hp1, hp2⟩ : padS (T.size : Int) = padText T.size ∧ padOk (T.size : Int) = true := by
      have : padOk (T.size : Int) = true := by unfold padOk inR; simp; omega
      exact ⟨by unfold padS; rw [this, if_pos rfl, Int.toNat_natCast], this⟩
    have CP := fun W => i_PadOf (T.size : Int) W
    rw [hp1, hp2] at CP
    replace CP := hide CP
    have CK := fun W => i_BlocksOf (T.size : Int) W
    have eb := pad_blocks T.size hT4
    have CD := fun W => i_Digest_in wd hw1 hw32 1 (by omega) (by omega) T hT4 W
    have CE := fun W => i_Digest_in 32 (by omega) (by omega) 1 (by omega) (by omega) T hT4 W
    have x1 := digT_size wd 1 T hw32
    have x2 := digT_size 32 1 T (Nat.le_refl _)
    have x3 := digT_take wd 1 T hw32
    generalize digT wd 1 T = s1 at *
    generalize digT 32 1 T = s2 at *
    generalize padText T.size = p at *
    generalize blocksI (T.size : Int) = bk at *
    have CG := hide (fun W => l_begins s1 s2 (by omega) (by omega) (by rw [x1]; exact x3) W)
    have y1 : ((s2.size : Int) == 32) = true := by rw [beq_iff_eq]; omega
    have y2 : ((s1.size : Int) == (wd : Int)) = true := by rw [beq_iff_eq]; omega
    replace CK := hide CK
    replace CD := hide CD
    replace CE := hide CE
    have EQ := hide (show (T.size : Int) + (p.size : Int) = 64 * bk by simpa using eb)
    clear hp1 hp2 x1 x2 x3 eb
    refine (CD.out _).mono ?_
    rintro e w2 ⟨rfl, hb2⟩
    have b2 := hide (bel_new b1.out hb2 b1.out.size)
    clear hb2
    go_wp2_with fail
    refine (CE.out _).mono ?_
    rintro e w3 ⟨rfl, hb3⟩
    have b3 := hide (bel_new b2.out hb3 b2.out.size)
    clear hb3
    go_wp2_with fail
    refine (CP.out _).mono ?_
    rintro e w4 ⟨rfl, hb4⟩
    have b4 := hide (bel_new b3.out hb4 b3.out.size)
    clear hb4
    go_wp2_with fail
    refine (CG.out _).mono ?_
    rintro e w5 ⟨rfl, rfl⟩
    go_wp2_with fail
    refine (CK.out _).mono ?_
    rintro e w5 ⟨rfl, hb5⟩
    have b5 := hide (bel_new b4.out hb5 b4.out.size)
    clear hb5
    go_wp2
    go_ret
    exact ⟨ret_bool (by rw [EQ.out]; simp), b5.out⟩
  · have h4' : (4000 : Int) < (T.size : Int) := by omega
    go_wp2_with fail
    clear h4' hT4 hs
    obtain ⟨T', hT'⟩ : ∃ T' : ByteArray, (⟨#[97]⟩ : ByteArray) = T' := ⟨_, rfl⟩
    have hT4 : T'.size ≤ 4000 := by rw [← hT']; decide
    rw [hT']
    clear hT'
    obtain ⟨hp1, hp2⟩ : padS (T'.size : Int) = padText T'.size ∧ padOk (T'.size : Int) = true := by
      have : padOk (T'.size : Int) = true := by unfold padOk inR; simp; omega
      exact ⟨by unfold padS; rw [this, if_pos rfl, Int.toNat_natCast], this⟩
    have CP := fun W => i_PadOf (T'.size : Int) W
    rw [hp1, hp2] at CP
    replace CP := hide CP
    have CK := fun W => i_BlocksOf (T'.size : Int) W
    have eb := pad_blocks T'.size hT4
    have CD := fun W => i_Digest_in wd hw1 hw32 1 (by omega) (by omega) T' hT4 W
    have CE := fun W => i_Digest_in 32 (by omega) (by omega) 1 (by omega) (by omega) T' hT4 W
    have x1 := digT_size wd 1 T' hw32
    have x2 := digT_size 32 1 T' (Nat.le_refl _)
    have x3 := digT_take wd 1 T' hw32
    generalize digT wd 1 T' = s1 at *
    generalize digT 32 1 T' = s2 at *
    generalize padText T'.size = p at *
    generalize blocksI (T'.size : Int) = bk at *
    have CG := hide (fun W => l_begins s1 s2 (by omega) (by omega) (by rw [x1]; exact x3) W)
    have y1 : ((s2.size : Int) == 32) = true := by rw [beq_iff_eq]; omega
    have y2 : ((s1.size : Int) == (wd : Int)) = true := by rw [beq_iff_eq]; omega
    replace CK := hide CK
    replace CD := hide CD
    replace CE := hide CE
    have EQ := hide (show (T'.size : Int) + (p.size : Int) = 64 * bk by simpa using eb)
    clear hp1 hp2 x1 x2 x3 eb
    refine (CD.out _).mono ?_
    rintro e w2 ⟨rfl, hb2⟩
    have b2 := hide (bel_new b1.out hb2 b1.out.size)
    clear hb2
    go_wp2_with fail
    refine (CE.out _).mono ?_
    rintro e w3 ⟨rfl, hb3⟩
    have b3 := hide (bel_new b2.out hb3 b2.out.size)
    clear hb3
    go_wp2_with fail
    refine (CP.out _).mono ?_
    rintro e w4 ⟨rfl, hb4⟩
    have b4 := hide (bel_new b3.out hb4 b3.out.size)
    clear hb4
    go_wp2_with fail
    refine (CG.out _).mono ?_
    rintro e w5 ⟨rfl, rfl⟩
    go_wp2_with fail
    refine (CK.out _).mono ?_
    rintro e w5 ⟨rfl, hb5⟩
    have b5 := hide (bel_new b4.out hb5 b4.out.size)
    clear hb5
    go_wp2
    go_ret
    exact ⟨ret_bool (by rw [EQ.out]; simp), b5.out⟩

set_option maxRecDepth 100000 in
theorem lifted (os : Os) (started : os.Started) (H : Type) (enc : TypeId × Value → H) :
    ReturnsInHanded {} Try.checked os 3 .any (Rows.fnWiderSpec.pre6 enc Try.prog Try.f3 Rows.fnWiderRow.domain false) (Rows.fnWiderSpec.post enc Try.prog Try.f3 false true false false) := by
  refine returnsInHanded_of_change (C := Try.checked) own started (by kernel_rfl) Try.func3
    (ChangeSpec.witness6 (enc := enc) (C := Try.checked) false ⟨#[], #[.slice none 0 0], []⟩ 8 (by kernel_rfl) (by kernel_rfl) (by kernel_rfl) (by kernel_rfl)) ?_
  intro W base args ds gs before hval0 hW hcnd _
  have hval : ∀ (j : Nat) t v, Try.f3.params[j]? = some t → args[j]? = some v → Value.okWide Try.prog W .any base t v := hval0
  have hW' := hW
  obtain ⟨p, q, hA0, hV, rfl, hfz, hnd⟩ := hW
  have hA : DataW.TrodAll enc Try.prog W 0 (fun _ => true) true Try.f3.params.toList args.toList ds p := hA0
  rw [Try.params3] at hA hval
  obtain ⟨v0, vs0, d0, ds0, p0, q0, hargs, rfl, rfl, h0, r0⟩ := trodAll_cons hA
  obtain ⟨rfl, rfl, rfl⟩ := trodAll_nil r0
  obtain rfl : args = #[v0] := by cases args; simp_all
  obtain ⟨rfl, rfl⟩ := trodVars_none hV
  have k0 := h0
  have lt0 : ∀ x ∈ p0, x.block < W.heap.size := by obtain ⟨m, hm⟩ := k0; exact DataW.trod_lt m _ _ _ hm
  obtain ⟨A0, L0, C0, rfl⟩ := okWide_slice Try.underlying22 (hval 0 22 v0 rfl rfl)
  obtain ⟨fuel0, hf0⟩ := h0
  obtain ⟨a0, cap0, z0, ea0, w0, l0, b0⟩ := rd_ints (v := .slice A0 L0 C0) Try.underlying22 Try.underlying5 (by kernel_rfl) (by simpa [Value.cells] using hf0)
  simp only [Value.slice.injEq] at ea0
  obtain ⟨xa0, ya0, ta0⟩ := ea0
  replace xa0 := xa0.symm
  replace ta0 := ta0.symm
  subst xa0
  subst ta0
  subst ya0
  clear hA0 hval0
  refine (walk a0 cap0 z0 W w0 l0 b0).mono fun e W' ⟨he, bel⟩ => ?_
  subst he
  exact ⟨_, rfl, _, _, _, [], _, [], hW', trodAll_mk1 (shut_bool Try.underlying4 _), (trodAll_cons_mk (Below.trod laidOut (by kernel_rfl) (of_decide_eq_true (by kernel_rfl)) k0 bel lt0) trodAll_mk0), rfl, bel.frame _, fun h => by cases h⟩

theorem over : Rows.fnWiderRow.holds Try.pinned (OpenSpec.ofChange Rows.fnWiderSpec) :=
  OpenClaim.holds_of_wide 3 Try.f3 rfl rfl rfl rfl rfl rfl rfl ⟨rfl, rfl, rfl, rfl, rfl⟩ rfl rfl rfl rfl rfl (by kernel_rfl) Try.func3 (by kernel_rfl)
    (of_decide_eq_true (by kernel_rfl)) (by unfold Func.isWrapper; first | (rw [if_pos (by decide +kernel)]; kernel_rfl) | (rw [if_neg (by decide +kernel)]; exact ⟨rfl, rfl⟩))
    (fun os started H enc _ => lifted os started H enc)

theorem proved : Rows.FnWiderSaid := over
#print axioms proved
end Go.Proofs.Ytceeaejhlpdalaa.fnWider

/-
  The law 'FnWords' returns true, at every input, under no condition: the statement 'Rows.FnWordsSaid'. The walk takes the functions that the law calls by their contracts; the frame about it opens the arguments and hands them back as they were.
-/
import Derived.Test.YticpedlcfakaeaaWordsLaw
import Derived.Test.YticpedlcfakaeaaOpen
import Derived.Test.YticpedlcfakaeaaRows
import Derived.WalkKit
import Derived.ProofKit
import Derived.OpenShut
import Derived.ShutString
import Derived.ChangeOld
import Derived.Below
namespace Go.Proofs.Yticpedlcfakaeaa.fnWords
open Go.Joins (open_agg2 open_agg3)
open Go.ChangeShapes Go.WideShapes Go.ChangeAt Go.RowKit
open Go.ChangeMaps (open_string shut_string)
set_option linter.unusedVariables false

theorem own : ownKnob Try.prog.godebug = none := by kernel_rfl
theorem laidOut : laidOutB Try.prog = true := by kernel_rfl

set_option maxHeartbeats 2000000 in
theorem walk (a0 : Option Addr) (cap0 : Nat) (z0 : List Int) (w : World) (w0 : Rd w 0 w.heap.size a0 (ints .u8 z0)) (l0 : z0.length ≤ cap0 ∧ cap0 ≤ maxLen) (b0 : ∀ n ∈ z0, (Lit.int .u8 n).wf = true) :
    Calls Try.prog 9 #[.slice a0 z0.length cap0] w fun e w' => e = .returned (.bool true) ∧ Below w.heap.size w w' := by
  have hb : ∀ b ∈ z0, 0 ≤ b ∧ b ≤ 255 := fun x hx => by
    have := b0 x hx
    simpa [Lit.wf, IntKind.min, IntKind.max, IntKind.signed, IntKind.bits] using this
  have HB := hide hb
  have H1 := hide w0
  clear w0 b0 l0 hb
  by_cases hbig : (1048576 : Int) < (z0.length : Int)
  · have d : decide ((1048576 : Int) < (z0.length : Int)) = true := by simpa using hbig
    have CB := l_big z0 a0 cap0
    rw [d] at CB
    replace CB := hide CB
    clear d
    go_enter Try.func9, Try.ntmps9
    go_wp2_with (go_at_call 34; refine (CB.out _).mono ?_; rintro e w1 ⟨rfl, rfl⟩)
    go_ret
    exact ⟨rfl, Below.refl _ _⟩
  have d : decide ((1048576 : Int) < (z0.length : Int)) = false := by simp; omega
  have CB := l_big z0 a0 cap0
  rw [d] at CB
  replace CB := hide CB
  have hn : z0.length ≤ 1048576 := by omega
  clear d hbig
  go_enter Try.func9, Try.ntmps9
  go_wp2_with (go_at_call 34; refine (CB.out _).mono ?_; rintro e w1 ⟨rfl, rfl⟩)
  refine (s_DrawHex z0 a0 cap0 _ _ _ H1.out HB.out hn).mono ?_
  rintro e w1 ⟨s, rfl, hs, hb1⟩
  have R1 := hide (H1.out.below hb1)
  have b1 := hide hb1
  clear hb1
  have CT := hide (show ∀ (W : World) (x n : Int), 0 ≤ x → x ≤ 4294967295 → Calls Try.prog 39 #[.int .u32 (rotl x.toNat (n % 32).toNat), .int .i64 (32 - n.tmod 32)] W fun e w' => e = .returned (.int .u32 x) ∧ W = w' from fun W x n h0 h1 => by
    have hlt : rotl x.toNat (n % 32).toNat < 4294967296 := rotl_lt _ _ (by omega) (by omega)
    have := i_Turn (rotl x.toNat (n % 32).toNat : Int) (32 - n.tmod 32) (by omega) (by omega) W
    have e1 : ((32 - n.tmod 32) % 32).toNat = (32 - (n % 32).toNat) % 32 := by
      have hm : n.tmod 32 = n % 32 ∨ n.tmod 32 = n % 32 - 32 := by rw [Int.tmod_eq_emod]; split <;> omega
      rcases hm with hm | hm <;> rw [hm] <;> omega
    rw [Int.toNat_natCast, e1, rotl_back _ _ (by omega) (by omega), Int.toNat_of_nonneg h0] at this
    exact this)
  have C15 := hide (show ∀ (W : World), Calls Try.prog 39 #[.int .u32 1, .int .i64 5] W fun e w' => e = .returned (.int .u32 32) ∧ W = w' from fun W => i_Turn 1 5 (by decide) (by decide) W)
  by_cases h4 : s.size ≤ 4000
  · obtain ⟨u1, u2, u3⟩ := hex_back s h4
    have CU := fun W => i_Unhex (hexOf s) (by omega) W
    have CH := fun W => i_Hex s (by omega) W
    rw [u1, u2] at CU
    rw [decide_eq_true h4] at CH
    obtain ⟨t, ht⟩ : ∃ t, hexOf s = t := ⟨_, rfl⟩
    rw [ht] at CU CH u3
    replace CU := hide CU
    replace CH := hide CH
    have gne : ((t.size : Int) != 2 * (s.size : Int)) = false := by rw [bne_eq_false_iff_eq]; omega
    have h4' : (s.size : Int) ≤ 4000 := by omega
    clear u1 u2 u3 ht h4
    go_wp2_with fail
    refine (CH.out _).mono ?_
    rintro e w2 ⟨rfl, hb2⟩
    have R2 := hide (R1.out.below hb2)
    have b2 := hide (bel_new b1.out hb2 b1.out.size)
    clear hb2
    go_wp2_with fail
    refine (CU.out _).mono ?_
    rintro e w3 ⟨rfl, hb3⟩
    have R3 := hide (R2.out.below hb3)
    have b3 := hide (bel_new b2.out hb3 b2.out.size)
    clear hb3
    go_wp2_with fail
    refine (s_DrawTurn z0 a0 cap0 _ _ _ R3.out HB.out hn).mono ?_
    rintro e w4 ⟨x, n, rfl, x0, x1, hb4⟩
    have b4 := hide (bel_new b3.out hb4 b3.out.size)
    clear hb4 CB
    have CX := hide (i_Turn x n x0 x1)
    have CY := hide (fun W => CT.out W x n x0 x1)
    have CZ := hide (i_WordText x x0 x1)
    have CW := hide (show ∀ W, Calls Try.prog 40 #[.string (wordText x), .int .i64 0] W fun e w' => e = .returned (.int .u32 x) ∧ Below W.heap.size W w' from fun W => by
      have hs4 : (wordText x).size = 4 := strOfNums_size _
      have := i_WordAt (wordText x) 0 (by omega) W
      rwa [word_back x0 x1] at this)
    have gm : IntKind.i64.wrap (n.tmod 32) = n.tmod 32 := IntWalk.i64_in _ (by have h1 := Int.tmod_lt_of_pos n (show (0 : Int) < 32 by decide); have h2 := Int.lt_tmod_of_pos n (show (0 : Int) < 32 by decide); omega)
    have gs : IntKind.i64.wrap (32 - n.tmod 32) = 32 - n.tmod 32 := IntWalk.i64_in _ (by have h1 := Int.tmod_lt_of_pos n (show (0 : Int) < 32 by decide); have h2 := Int.lt_tmod_of_pos n (show (0 : Int) < 32 by decide); omega)
    go_wp2_with fail
    refine (CX.out _).mono ?_
    rintro e w5 ⟨rfl, rfl⟩
    go_wp2_with fail
    refine (CY.out _).mono ?_
    rintro e w5 ⟨rfl, rfl⟩
    go_wp2_with fail
    refine (C15.out _).mono ?_
    rintro e w5 ⟨rfl, rfl⟩
    go_wp2_with fail
    refine (CZ.out _).mono ?_
    rintro e w5 ⟨rfl, hb5⟩
    have b5 := hide (bel_new b4.out hb5 b4.out.size)
    clear hb5
    go_wp2_with fail
    refine (CW.out _).mono ?_
    rintro e w6 ⟨rfl, hb6⟩
    have b6 := hide (bel_new b5.out hb6 b5.out.size)
    clear hb6
    go_wp2
    go_ret
    exact ⟨rfl, b6.out⟩
  · have hx : hexOf s = ByteArray.empty := by unfold hexOf; rw [if_neg h4]
    have CU := fun W => i_Unhex (hexOf s) (by rw [hx]; decide) W
    have CH := fun W => i_Hex s (by omega) W
    rw [decide_eq_false h4, hx] at CH
    rw [hx] at CU
    obtain ⟨t, ht⟩ : ∃ t, unhex ByteArray.empty = t := ⟨_, rfl⟩
    obtain ⟨g, hg⟩ : ∃ g, unhexGood ByteArray.empty = g := ⟨_, rfl⟩
    obtain ⟨E, hE⟩ : ∃ E, ByteArray.empty = E := ⟨_, rfl⟩
    rw [ht, hg, hE] at CU
    rw [hE] at CH
    replace CU := hide CU
    replace CH := hide CH
    have d4 : decide ((s.size : Int) ≤ 4000) = false := by simp; omega
    clear ht hg hE hx h4
    go_wp2_with fail
    refine (CH.out _).mono ?_
    rintro e w2 ⟨rfl, hb2⟩
    have R2 := hide (R1.out.below hb2)
    have b2 := hide (bel_new b1.out hb2 b1.out.size)
    clear hb2
    go_wp2_with fail
    refine (CU.out _).mono ?_
    rintro e w3 ⟨rfl, hb3⟩
    have R3 := hide (R2.out.below hb3)
    have b3 := hide (bel_new b2.out hb3 b2.out.size)
    clear hb3
    go_wp2_with fail
    refine (s_DrawTurn z0 a0 cap0 _ _ _ R3.out HB.out hn).mono ?_
    rintro e w4 ⟨x, n, rfl, x0, x1, hb4⟩
    have b4 := hide (bel_new b3.out hb4 b3.out.size)
    clear hb4 CB
    have CX := hide (i_Turn x n x0 x1)
    have CY := hide (fun W => CT.out W x n x0 x1)
    have CZ := hide (i_WordText x x0 x1)
    have CW := hide (show ∀ W, Calls Try.prog 40 #[.string (wordText x), .int .i64 0] W fun e w' => e = .returned (.int .u32 x) ∧ Below W.heap.size W w' from fun W => by
      have hs4 : (wordText x).size = 4 := strOfNums_size _
      have := i_WordAt (wordText x) 0 (by omega) W
      rwa [word_back x0 x1] at this)
    have gm : IntKind.i64.wrap (n.tmod 32) = n.tmod 32 := IntWalk.i64_in _ (by have h1 := Int.tmod_lt_of_pos n (show (0 : Int) < 32 by decide); have h2 := Int.lt_tmod_of_pos n (show (0 : Int) < 32 by decide); omega)
    have gs : IntKind.i64.wrap (32 - n.tmod 32) = 32 - n.tmod 32 := IntWalk.i64_in _ (by have h1 := Int.tmod_lt_of_pos n (show (0 : Int) < 32 by decide); have h2 := Int.lt_tmod_of_pos n (show (0 : Int) < 32 by decide); omega)
    go_wp2_with fail
    refine (CX.out _).mono ?_
    rintro e w5 ⟨rfl, rfl⟩
    go_wp2_with fail
    refine (CY.out _).mono ?_
    rintro e w5 ⟨rfl, rfl⟩
    go_wp2_with fail
    refine (C15.out _).mono ?_
    rintro e w5 ⟨rfl, rfl⟩
    go_wp2_with fail
    refine (CZ.out _).mono ?_
    rintro e w5 ⟨rfl, hb5⟩
    have b5 := hide (bel_new b4.out hb5 b4.out.size)
    clear hb5
    go_wp2_with fail
    refine (CW.out _).mono ?_
    rintro e w6 ⟨rfl, hb6⟩
    have b6 := hide (bel_new b5.out hb6 b5.out.size)
    clear hb6
    go_wp2
    go_ret
    exact ⟨rfl, b6.out⟩

set_option maxRecDepth 100000 in
theorem lifted (os : Os) (started : os.Started) (H : Type) (enc : TypeId × Value → H) :
    ReturnsInHanded {} Try.checked os 9 .any (Rows.fnWordsSpec.pre6 enc Try.prog Try.f9 Rows.fnWordsRow.domain false) (Rows.fnWordsSpec.post enc Try.prog Try.f9 false true false false) := by
  refine returnsInHanded_of_change (C := Try.checked) own started (by kernel_rfl) Try.func9
    (ChangeSpec.witness6 (enc := enc) (C := Try.checked) false ⟨#[], #[.slice none 0 0], []⟩ 8 (by kernel_rfl) (by kernel_rfl) (by kernel_rfl) (by kernel_rfl)) ?_
  intro W base args ds gs before hval0 hW hcnd _
  have hval : ∀ (j : Nat) t v, Try.f9.params[j]? = some t → args[j]? = some v → Value.okWide Try.prog W .any base t v := hval0
  have hW' := hW
  obtain ⟨p, q, hA0, hV, rfl, hfz, hnd⟩ := hW
  have hA : DataW.TrodAll enc Try.prog W 0 (fun _ => true) true Try.f9.params.toList args.toList ds p := hA0
  rw [Try.params9] at hA hval
  obtain ⟨v0, vs0, d0, ds0, p0, q0, hargs, rfl, rfl, h0, r0⟩ := trodAll_cons hA
  obtain ⟨rfl, rfl, rfl⟩ := trodAll_nil r0
  obtain rfl : args = #[v0] := by cases args; simp_all
  obtain ⟨rfl, rfl⟩ := trodVars_none hV
  have k0 := h0
  have lt0 : ∀ x ∈ p0, x.block < W.heap.size := by obtain ⟨m, hm⟩ := k0; exact DataW.trod_lt m _ _ _ hm
  obtain ⟨A0, L0, C0, rfl⟩ := okWide_slice Try.underlying47 (hval 0 47 v0 rfl rfl)
  obtain ⟨fuel0, hf0⟩ := h0
  obtain ⟨a0, cap0, z0, ea0, w0, l0, b0⟩ := rd_ints (v := .slice A0 L0 C0) Try.underlying47 Try.underlying5 (by kernel_rfl) (by simpa [Value.cells] using hf0)
  simp only [Value.slice.injEq] at ea0
  obtain ⟨xa0, ya0, ta0⟩ := ea0
  replace xa0 := xa0.symm
  replace ta0 := ta0.symm
  subst xa0
  subst ta0
  subst ya0
  clear hA0 hval0
  refine (walk a0 cap0 z0 W w0 l0 b0).mono fun e W' ⟨he, bel⟩ => ?_
  subst he
  exact ⟨_, rfl, _, _, _, [], _, [], hW', trodAll_mk1 (shut_bool Try.underlying4 _), (trodAll_cons_mk (Below.trod laidOut (by kernel_rfl) (of_decide_eq_true (by kernel_rfl)) k0 bel lt0) trodAll_mk0), rfl, bel.frame _, fun h => by cases h⟩

theorem over : Rows.fnWordsRow.holds Try.pinned (OpenSpec.ofChange Rows.fnWordsSpec) :=
  OpenClaim.holds_of_wide 9 Try.f9 rfl rfl rfl rfl rfl rfl rfl ⟨rfl, rfl, rfl, rfl, rfl⟩ rfl rfl rfl rfl rfl (by kernel_rfl) Try.func9 (by kernel_rfl)
    (of_decide_eq_true (by kernel_rfl)) (by unfold Func.isWrapper; first | (rw [if_pos (by decide +kernel)]; kernel_rfl) | (rw [if_neg (by decide +kernel)]; exact ⟨rfl, rfl⟩))
    (fun os started H enc _ => lifted os started H enc)

theorem proved : Rows.FnWordsSaid := over
#print axioms proved
end Go.Proofs.Yticpedlcfakaeaa.fnWords

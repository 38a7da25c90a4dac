/-
  The law 'FnPeaks' returns true, at every input, under no condition: the statement 'Rows.FnPeaksSaid'. The walk takes the functions that the law calls by their contracts; the frame about it opens the arguments and hands them back as they were.
-/
import Derived.Test.YtcebpfhokacccaaPeaksLaw
import Derived.Test.YtcebpfhokacccaaOpen
import Derived.Test.YtcebpfhokacccaaRows
import Derived.WalkKit
import Derived.ProofKit
import Derived.OpenShut
import Derived.ShutString
import Derived.ChangeOld
import Derived.Below
namespace Go.Proofs.Ytcebpfhokacccaa.fnPeaks
open Go.Joins (open_agg2 open_agg3)
open Go.ChangeShapes Go.WideShapes Go.ChangeAt Go.RowKit
open Go.ChangeMaps (open_string shut_string)
set_option linter.unusedVariables false

theorem own : ownKnob Try.prog.godebug = none := by kernel_rfl
theorem laidOut : laidOutB Try.prog = true := by kernel_rfl

set_option maxHeartbeats 2000000 in
theorem walk (a0 : Option Addr) (cap0 : Nat) (z0 : List Int) (w : World) (w0 : Rd w 0 w.heap.size a0 (ints .u8 z0)) (l0 : z0.length ≤ cap0 ∧ cap0 ≤ maxLen) (b0 : ∀ n ∈ z0, (Lit.int .u8 n).wf = true) :
    Calls Try.prog 4 #[.slice a0 z0.length cap0] w fun e w' => e = .returned (.bool true) ∧ Below w.heap.size w w' := by
  have hb : ∀ b ∈ z0, 0 ≤ b ∧ b ≤ 255 := fun x hx => by
    have := b0 x hx
    simpa [Lit.wf, IntKind.min, IntKind.max, IntKind.signed, IntKind.bits] using this
  have HB := hide hb
  have H1 := hide w0
  clear w0 b0 l0 hb
  by_cases hbig : 1048576 < z0.length
  · have CB := hide (l_big_out z0 a0 cap0 hbig)
    go_enter Try.func4, Try.ntmps4
    go_wp2_with (go_at_call 5; refine (CB.out _).mono ?_; rintro e w1 ⟨rfl, rfl⟩)
    go_ret
    exact ⟨rfl, Below.refl _ _⟩
  have hn : z0.length ≤ 1048576 := by omega
  have CB := hide (l_big_in z0 a0 cap0 hn)
  clear hbig
  go_enter Try.func4, Try.ntmps4
  go_wp2_with (go_at_call 5; refine (CB.out _).mono ?_; rintro e w1 ⟨rfl, rfl⟩)
  refine (s_DrawRootOf z0 a0 cap0 _ _ _ H1.out HB.out hn).mono ?_
  rintro e w1 ⟨width, A1, c1, zs1, rfl, hz1, hs1, hb1, ho1⟩
  have b1 := hide hb1
  have O1 := hide ho1
  have Z1 := hide hz1
  clear hb1 ho1 CB hs1 hz1
  go_upto_region 4 with (fail)
  go_cut [30] from 20 (fun st wc => ∃ b : Bool, st = .bool b ∧ (b = false → leavesOk width zs1 = true) ∧ wc = w1)
  case first =>
    have C0 := s_LeavesOk width zs1 A1 c1 _ _ w1 O1.out.rd (by have := Z1.out; omega)
    cases hk : leavesOk width zs1
    · rw [hk] at C0
      replace C0 := hide C0
      set_option maxRecDepth 3000 in go_wp2_with (go_at_call 7; refine (C0.out).mono ?_; rintro e w' ⟨rfl, rfl⟩)
      go_meet
      case rel => exact ⟨true, rfl, fun h => (by cases h), rfl⟩
    · rw [hk] at C0
      replace C0 := hide C0
      set_option maxRecDepth 3000 in go_wp2_with (go_at_call 7; refine (C0.out).mono ?_; rintro e w' ⟨rfl, rfl⟩)
      go_meet
      case rel => exact ⟨false, rfl, fun _ => hk, rfl⟩
  case rest =>
  obtain ⟨bb, rfl, hbb, rfl⟩ := hcut
  go_upto_if 30 with (fail)
  go_cut [3, 4] from 20 (fun s3 s4 w' => ∃ (wd : Nat) (A : Option Addr) (c L H : Nat) (zs : List ByteArray), s3 = .int .i64 (wd : Int) ∧ s4 = .slice A zs.length c ∧ 1 ≤ wd ∧ wd ≤ 32 ∧ zs.length ≤ 512 ∧ (∀ s ∈ zs, s.size = wd) ∧ Rd w' L H A (strs zs) ∧ zs.length ≤ c ∧ c ≤ maxLen ∧ Below w.heap.size w w')
  case first =>
    cases bb
    · have hk := hbb rfl
      obtain ⟨h1, h2, h3, h4⟩ := leavesOk_spec hk
      obtain ⟨wd, rfl⟩ := Int.eq_ofNat_of_zero_le (show 0 ≤ width by omega)
      have hO := O1.out.cap
      clear hbb hk
      set_option maxRecDepth 3000 in go_wp2_with fail
      go_meet
      case rel => exact ⟨wd, A1, c1, _, _, zs1, rfl, rfl, by omega, by omega, h3, fun s hs => by have := h4 s hs; omega, O1.out.rd, by simpa [strs] using hO.1, hO.2, b1.out⟩
    · clear hbb
      set_option maxRecDepth 3000 in go_wp2_with fail
      go_meet
      case rel => exact ⟨1, _, _, _, _, [⟨#[97]⟩, ⟨#[98]⟩, ⟨#[99]⟩, ⟨#[100]⟩, ⟨#[101]⟩], rfl, rfl, by decide, by decide, by decide, fun s hs => by simp at hs; rcases hs with rfl | rfl | rfl | rfl | rfl <;> rfl, Rd.made _ _ _ rfl, by decide, by decide, b1.out.alloc b1.out.size _⟩
  case rest =>
  clear hbb b1 O1 Z1 width A1 c1 zs1
  obtain ⟨wd, A, c, L, H, zs, rfl, rfl, wd1, wd32, n512, hm, hR, hc, hc2, hb⟩ := hcut
  have RC := hide (H1.out.below hb)
  have R := hide hR
  have B := hide hb
  clear hR hb
  have lk := leavesOk_of' wd1 wd32 n512 hm
  have rk := range_ok wd1 wd32 n512 hm
  have rr := range_root (wd := wd) n512
  have rl := range_len (wd := wd) n512
  have rl2 := pl_le zs.length n512
  have rs := rootW_size wd32 zs hm
  have CO := hide (fun W hW => i_RangeOf wd wd1 wd32 zs A c L H W n512 hm hW)
  have CQ := hide (show ∀ T k L' H' W, Rd W L' H' T (strs (grownW wd 0 [] zs)) → Calls Try.prog 14 #[.int .i64 (wd : Int), .agg #[.int .i64 (zs.length : Int), .slice T (grownW wd 0 [] zs).length k]] W fun e w' => e = .returned (.tuple #[.string (rootW wd zs), .int .i64 (((grownW wd 0 [] zs).length - 1 : Nat) : Int), .bool true]) ∧ Below W.heap.size W w' from fun T k L' H' W hW => by
    have := i_RangeRoot (wd : Int) (zs.length : Int) (grownW wd 0 [] zs) T k L' H' W hW (by omega)
    simp only [rrootI, rcallsI, rk, if_pos, Int.toNat_natCast, rr] at this
    exact this)
  have CR := hide (show ∀ W, Rd W L H A (strs zs) → Calls Try.prog 15 #[.int .i64 (wd : Int), .slice A zs.length c] W fun e w' => e = .returned (.tuple #[.string (rootW wd zs), .bool true]) ∧ Below W.heap.size W w' from fun W hW => by
    have := i_RootOf (wd : Int) zs A c L H W hW (by omega) hc hc2
    simpa only [rootI, lk, if_pos, Int.toNat_natCast] using this)
  have cl9 : (((grownW wd 0 [] zs).length - 1 : Nat) : Int) ≤ 9 := by omega
  have CP := hide (show ∀ a b : Nat, a ≤ b → b ≤ zs.length → ∀ W, Rd W L H A (strs zs) → Calls Try.prog 17 #[.int .i64 (wd : Int), .slice A zs.length c, .int .i64 (a : Int), .int .i64 (b : Int)] W fun e w' => e = .returned (.tuple #[.string (rootW wd ((zs.drop a).take (b - a))), .bool true]) ∧ Below W.heap.size W w' from fun a b hab hb W hW => by
    have ok : partOk (wd : Int) zs (a : Int) (b : Int) = true := by unfold partOk; rw [lk]; simp; omega
    have := i_PartRoot (wd : Int) zs A c L H (a : Int) (b : Int) W hW (by omega) hc hc2
    simpa only [partI, ok, if_pos, Int.toNat_natCast] using this)
  have RM := hide (show 2 ≤ zs.length → rootW wd zs = nodeT wd (rootW wd (zs.take (halfOf zs.length))) (rootW wd (zs.drop (halfOf zs.length))) ∧ (rootW wd (zs.take (halfOf zs.length))).size = wd ∧ (rootW wd (zs.drop (halfOf zs.length))).size = wd from fun h2 => ⟨rootT_more _ _ h2, rootW_size wd32 _ (fun s hs => hm s (List.mem_of_mem_take hs)), rootW_size wd32 _ (fun s hs => hm s (List.mem_of_mem_drop hs))⟩)
  have rs' : ((rootW wd zs).size : Int) = (wd : Int) := by omega
  generalize ((grownW wd 0 [] zs).length - 1 : Nat) = cl at *
  generalize hGG : grownW wd 0 [] zs = G at *
  obtain ⟨rt, hrt⟩ : ∃ rt, rootW wd zs = rt := ⟨_, rfl⟩
  rw [hrt] at CQ CR RM rs'
  have rsb : ((rt.size : Int) != (wd : Int)) = false := by rw [bne_eq_false_iff_eq]; exact rs'
  have clb : decide ((9 : Int) < (cl : Int)) = false := by simp; omega
  clear hm rk rr rl rs lk rs' hrt hGG cl9
  go_wp2_with fail
  refine (CO.out _ R.out).mono ?_
  rintro e w2 ⟨T, k, rfl, hb2, ho2⟩
  have AM := hide (Arr.new w2 [.int .i64 (zs.length : Int), .slice T G.length k] 31)
  have R2 := hide ((R.out.below hb2).alloc (.cells #[.int .i64 (zs.length : Int), .slice T G.length k] 31))
  have B2 := hide ((bel_new B.out hb2 B.out.size).alloc (Nat.le_trans B.out.size hb2.size) (.cells #[.int .i64 (zs.length : Int), .slice T G.length k] 31))
  have O2 := hide (ho2.alloc (.cells #[.int .i64 (zs.length : Int), .slice T G.length k] 31))
  clear hb2 ho2 R B CO
  go_wp2_with fail
  refine (CQ.out _ _ _ _ _ O2.out.rd).mono ?_
  rintro e w3 ⟨rfl, hb3⟩
  have R3 := hide (R2.out.below hb3)
  have B3 := hide (bel_new B2.out hb3 B2.out.size)
  clear hb3 R2 B2 O2 AM
  go_wp2_with fail
  refine (CR.out _ R3.out).mono ?_
  rintro e w4 ⟨rfl, hb4⟩
  have R4 := hide (R3.out.below hb4)
  have B4 := hide (bel_new B3.out hb4 B3.out.size)
  clear hb4 R3 B3
  by_cases hn2 : (zs.length : Int) < 2
  · go_wp2
    go_ret
    exact ⟨rfl, B4.out⟩
  have h2 : 2 ≤ zs.length := by omega
  obtain ⟨e1, sl, sr⟩ := RM.out h2
  obtain ⟨k0, k1, k2⟩ := half_spec h2
  have hk : halfI (zs.length : Int) = (halfOf zs.length : Int) := halfI_nat h2 n512
  have CA := CP.out 0 (halfOf zs.length) (Nat.zero_le _) (by omega)
  have CB2 := CP.out (halfOf zs.length) zs.length (by omega) (Nat.le_refl _)
  rw [List.drop_zero, Nat.sub_zero] at CA
  have et : (zs.drop (halfOf zs.length)).take (zs.length - halfOf zs.length) = zs.drop (halfOf zs.length) := List.take_of_length_le (by rw [List.length_drop]; omega)
  rw [et] at CB2
  generalize rootW wd (zs.take (halfOf zs.length)) = lt at *
  generalize rootW wd (zs.drop (halfOf zs.length)) = rt2 at *
  have CN := fun W => i_NodeHash (wd : Int) lt rt2 W
  rw [nodeI_in wd1 wd32 sl sr, nodeOk_in wd1 wd32 sl sr, ← e1] at CN
  generalize halfOf zs.length = h at *
  replace CA := hide CA
  replace CB2 := hide CB2
  replace CN := hide CN
  have g0 : (0 : Int) < (h : Int) := by omega
  have g1 : (h : Int) < (zs.length : Int) := by omega
  have g2 : (zs.length : Int) ≤ 2 * (h : Int) := by omega
  have gw : IntKind.i64.wrap (2 * (h : Int)) = 2 * (h : Int) := IntWalk.i64_in _ (by omega)
  clear e1 sl sr et RM CP
  go_wp2_with (go_at_call 16; refine (i_HalfOf _ _).mono ?_; rintro e w' ⟨rfl, rfl⟩)
  refine (CA.out _ R4.out).mono ?_
  rintro e w5 ⟨rfl, hb5⟩
  have R5 := hide (R4.out.below hb5)
  have B5 := hide (bel_new B4.out hb5 B4.out.size)
  clear hb5 R4 B4
  go_wp2_with fail
  refine (CB2.out _ R5.out).mono ?_
  rintro e w6 ⟨rfl, hb6⟩
  have B6 := hide (bel_new B5.out hb6 B5.out.size)
  clear hb6 R5 B5
  go_wp2_with fail
  refine (CN.out _).mono ?_
  rintro e w7 ⟨rfl, hb7⟩
  have B7 := hide (bel_new B6.out hb7 B6.out.size)
  clear hb7 B6
  go_wp2
  go_ret
  exact ⟨rfl, B7.out⟩

set_option maxRecDepth 100000 in
theorem lifted (os : Os) (started : os.Started) (H : Type) (enc : TypeId × Value → H) :
    ReturnsInHanded {} Try.checked os 4 .any (Rows.fnPeaksSpec.pre6 enc Try.prog Try.f4 Rows.fnPeaksRow.domain false) (Rows.fnPeaksSpec.post enc Try.prog Try.f4 false true false false) := by
  refine returnsInHanded_of_change (C := Try.checked) own started (by kernel_rfl) Try.func4
    (ChangeSpec.witness6 (enc := enc) (C := Try.checked) false ⟨#[], #[.slice none 0 0], []⟩ 8 (by kernel_rfl) (by kernel_rfl) (by kernel_rfl) (by kernel_rfl)) ?_
  intro W base args ds gs before hval0 hW hcnd _
  have hval : ∀ (j : Nat) t v, Try.f4.params[j]? = some t → args[j]? = some v → Value.okWide Try.prog W .any base t v := hval0
  have hW' := hW
  obtain ⟨p, q, hA0, hV, rfl, hfz, hnd⟩ := hW
  have hA : DataW.TrodAll enc Try.prog W 0 (fun _ => true) true Try.f4.params.toList args.toList ds p := hA0
  rw [Try.params4] at hA hval
  obtain ⟨v0, vs0, d0, ds0, p0, q0, hargs, rfl, rfl, h0, r0⟩ := trodAll_cons hA
  obtain ⟨rfl, rfl, rfl⟩ := trodAll_nil r0
  obtain rfl : args = #[v0] := by cases args; simp_all
  obtain ⟨rfl, rfl⟩ := trodVars_none hV
  have k0 := h0
  have lt0 : ∀ x ∈ p0, x.block < W.heap.size := by obtain ⟨m, hm⟩ := k0; exact DataW.trod_lt m _ _ _ hm
  obtain ⟨A0, L0, C0, rfl⟩ := okWide_slice Try.underlying22 (hval 0 22 v0 rfl rfl)
  obtain ⟨fuel0, hf0⟩ := h0
  obtain ⟨a0, cap0, z0, ea0, w0, l0, b0⟩ := rd_ints (v := .slice A0 L0 C0) Try.underlying22 Try.underlying5 (by kernel_rfl) (by simpa [Value.cells] using hf0)
  simp only [Value.slice.injEq] at ea0
  obtain ⟨xa0, ya0, ta0⟩ := ea0
  replace xa0 := xa0.symm
  replace ta0 := ta0.symm
  subst xa0
  subst ta0
  subst ya0
  clear hA0 hval0
  refine (walk a0 cap0 z0 W w0 l0 b0).mono fun e W' ⟨he, bel⟩ => ?_
  subst he
  exact ⟨_, rfl, _, _, _, [], _, [], hW', trodAll_mk1 (shut_bool Try.underlying4 _), (trodAll_cons_mk (Below.trod laidOut (by kernel_rfl) (of_decide_eq_true (by kernel_rfl)) k0 bel lt0) trodAll_mk0), rfl, bel.frame _, fun h => by cases h⟩

theorem over : Rows.fnPeaksRow.holds Try.pinned (OpenSpec.ofChange Rows.fnPeaksSpec) :=
  OpenClaim.holds_of_wide 4 Try.f4 rfl rfl rfl rfl rfl rfl rfl ⟨rfl, rfl, rfl, rfl, rfl⟩ rfl rfl rfl rfl rfl (by kernel_rfl) Try.func4 (by kernel_rfl)
    (of_decide_eq_true (by kernel_rfl)) (by unfold Func.isWrapper; first | (rw [if_pos (by decide +kernel)]; kernel_rfl) | (rw [if_neg (by decide +kernel)]; exact ⟨rfl, rfl⟩))
    (fun os started H enc _ => lifted os started H enc)

theorem proved : Rows.FnPeaksSaid := over
#print axioms proved
end Go.Proofs.Ytcebpfhokacccaa.fnPeaks

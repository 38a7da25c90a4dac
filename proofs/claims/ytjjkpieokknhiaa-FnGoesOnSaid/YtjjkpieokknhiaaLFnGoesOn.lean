/-
  The law 'FnGoesOn' returns true, at every input, under no condition: the statement 'Rows.FnGoesOnSaid'. The walk takes the functions that the law calls by their contracts; the frame about it opens the arguments and hands them back as they were.
-/
import Derived.Test.YtjjkpieokknhiaaGoes
import Derived.Test.YtjjkpieokknhiaaOpen
import Derived.Test.YtjjkpieokknhiaaRows
import Derived.WalkKit
import Derived.ProofKit
import Derived.OpenShut
import Derived.ShutString
import Derived.ChangeOld
import Derived.Below
namespace Go.Proofs.Ytjjkpieokknhiaa.fnGoesOn
open Go.Joins (open_agg2 open_agg3)
open Go.ChangeShapes Go.WideShapes Go.ChangeAt Go.RowKit
open Go.ChangeMaps (open_string shut_string)
set_option linter.unusedVariables false

theorem own : ownKnob Try.prog.godebug = none := by kernel_rfl
theorem laidOut : laidOutB Try.prog = true := by kernel_rfl

set_option maxHeartbeats 2000000 in
theorem walk (a0 : Option Addr) (cap0 : Nat) (z0 : List Int) (w : World) (w0 : Rd w 0 w.heap.size a0 (ints .u8 z0)) (l0 : z0.length ≤ cap0 ∧ cap0 ≤ maxLen) (b0 : ∀ n ∈ z0, (Lit.int .u8 n).wf = true) :
    Calls Try.prog 4 #[.slice a0 z0.length cap0] w fun e w' => e = .returned (.bool true) ∧ Below w.heap.size w w' := by
  have hb : ∀ b ∈ z0, 0 ≤ b ∧ b ≤ 255 := fun x hx => by
    have := b0 x hx
    simpa [Lit.wf, IntKind.min, IntKind.max, IntKind.signed, IntKind.bits] using this
  have HB := hide hb
  have H1 := hide w0
  clear w0 b0 l0 hb
  by_cases hbig : 1048576 < z0.length
  · have CB := hide (l_big_out z0 a0 cap0 hbig)
    go_enter Try.func4, Try.ntmps4
    go_wp2_with (go_at_call 5; refine (CB.out _).mono ?_; rintro e w1 ⟨rfl, rfl⟩)
    go_ret
    exact ⟨rfl, Below.refl _ _⟩
  have hn : z0.length ≤ 1048576 := by omega
  have CB := hide (l_big_in z0 a0 cap0 hn)
  clear hbig
  go_enter Try.func4, Try.ntmps4
  go_wp2_with (go_at_call 5; refine (CB.out _).mono ?_; rintro e w1 ⟨rfl, rfl⟩)
  refine (s_DrawRootOf z0 a0 cap0 _ _ _ H1.out HB.out hn).mono ?_
  rintro e w1 ⟨width, A1, c1, zs1, rfl, hz1, hs1, hb1, ho1⟩
  have b1 := hide hb1
  have O1 := hide ho1
  have Z1 := hide hz1
  clear hb1 ho1 CB hs1 hz1
  go_upto_region 4 with (fail)
  go_cut [23] from 13 (fun st wc => ∃ b : Bool, st = .bool b ∧ (b = false → leavesOk width zs1 = true) ∧ wc = w1)
  case first =>
    have C0 := s_LeavesOk width zs1 A1 c1 _ _ w1 O1.out.rd (by have := Z1.out; omega)
    cases hk : leavesOk width zs1
    · rw [hk] at C0
      replace C0 := hide C0
      set_option maxRecDepth 3000 in go_wp2_with (go_at_call 7; refine (C0.out).mono ?_; rintro e w' ⟨rfl, rfl⟩)
      go_meet
      case rel => exact ⟨true, rfl, fun h => (by cases h), rfl⟩
    · rw [hk] at C0
      replace C0 := hide C0
      set_option maxRecDepth 3000 in go_wp2_with (go_at_call 7; refine (C0.out).mono ?_; rintro e w' ⟨rfl, rfl⟩)
      go_meet
      case rel => exact ⟨false, rfl, fun _ => hk, rfl⟩
  case rest =>
  obtain ⟨bb, rfl, hbb, rfl⟩ := hcut
  go_upto_if 23 with (fail)
  go_cut [3, 4] from 13 (fun s3 s4 w' => ∃ (wd : Nat) (A : Option Addr) (c L H : Nat) (zs : List ByteArray), s3 = .int .i64 (wd : Int) ∧ s4 = .slice A zs.length c ∧ 1 ≤ wd ∧ wd ≤ 32 ∧ zs.length ≤ 512 ∧ (∀ s ∈ zs, s.size = wd) ∧ Rd w' L H A (strs zs) ∧ zs.length ≤ c ∧ c ≤ maxLen ∧ Below w.heap.size w w')
  case first =>
    cases bb
    · have hk := hbb rfl
      obtain ⟨h1, h2, h3, h4⟩ := leavesOk_spec hk
      obtain ⟨wd, rfl⟩ := Int.eq_ofNat_of_zero_le (show 0 ≤ width by omega)
      have hO := O1.out.cap
      clear hbb hk
      set_option maxRecDepth 3000 in go_wp2_with fail
      go_meet
      case rel => exact ⟨wd, A1, c1, _, _, zs1, rfl, rfl, by omega, by omega, h3, fun s hs => by have := h4 s hs; omega, O1.out.rd, by simpa [strs] using hO.1, hO.2, b1.out⟩
    · clear hbb
      set_option maxRecDepth 3000 in go_wp2_with fail
      go_meet
      case rel => exact ⟨3, _, _, _, _, [⟨#[97, 98, 99]⟩, ⟨#[100, 101, 102]⟩, ⟨#[103, 104, 105]⟩], rfl, rfl, by decide, by decide, by decide, fun s hs => by simp at hs; rcases hs with rfl | rfl | rfl <;> rfl, Rd.made _ _ _ rfl, by decide, by decide, b1.out.alloc b1.out.size _⟩
  case rest =>
  clear hbb b1 O1 Z1 width A1 c1 zs1
  obtain ⟨wd, A, c, L, H, zs, rfl, rfl, wd1, wd32, n512, hm, hR, hc, hc2, hb⟩ := hcut
  have RC := hide (H1.out.below hb)
  have R := hide hR
  have B := hide hb
  clear hR hb
  go_wp2_with fail
  refine (s_DrawPlaces z0 a0 cap0 _ _ _ RC.out HB.out hn).mono ?_
  rintro e w2 ⟨A2, c2, ps, rfl, hpl, hpv, hb2, ho2⟩
  obtain ⟨g2, rfl, -, -, -, k0, -⟩ := ho2.at2 (k := 0) (by rw [length_ints, hpl]; decide)
  obtain ⟨-, -, -, k1, -⟩ := ho2.at3 (k := 2) (by rw [length_ints, hpl]; decide)
  rw [ints_get] at k1
  have q1 := hpv (ps[2]'(by omega)) (List.getElem_mem _)
  generalize ps[2]'(by omega) = p1 at *
  have R2 := hide (R.out.below hb2)
  have B2 := hide (bel_new B.out hb2 B.out.size)
  clear hb2 ho2 hpv hpl RC R B k0
  obtain ⟨m, em, lm⟩ : ∃ m : Nat, p1 % ((zs.length : Int) + 1) = (m : Int) ∧ m ≤ zs.length := ⟨(p1 % ((zs.length : Int) + 1)).toNat, by have := Int.emod_nonneg p1 (show (zs.length : Int) + 1 ≠ 0 by omega); omega, by have := Int.emod_lt_of_pos p1 (show (0 : Int) < (zs.length : Int) + 1 by omega); omega⟩
  have lk := leavesOk_of wd1 wd32 n512 hm
  have lk2 := leavesOk_of wd1 wd32 (zs := zs.take m) (by rw [List.length_take]; omega) (fun s hs => hm s (List.mem_of_mem_take hs))
  have CR := hide (show ∀ W, Rd W L H A (strs zs) → Calls Try.prog 9 #[.int .i64 (wd : Int), .slice A zs.length c] W fun e w' => e = .returned (.tuple #[.string (rootW wd zs), .bool true]) ∧ Below W.heap.size W w' from fun W hW => by
    have := i_RootOf (wd : Int) zs A c L H W hW (by omega) hc hc2
    simpa only [rootI, lk, if_pos, Int.toNat_natCast] using this)
  have CR2 := hide (show ∀ W, Rd W L H A (strs zs) → Calls Try.prog 9 #[.int .i64 (wd : Int), .slice A m c] W fun e w' => e = .returned (.tuple #[.string (rootW wd (zs.take m)), .bool true]) ∧ Below W.heap.size W w' from fun W hW => by
    have hl : (zs.take m).length = m := by rw [List.length_take]; omega
    have := i_RootOf (wd : Int) (zs.take m) A c L H W (by rw [strs, List.map_take]; exact hW.take m) (by omega) (by omega) hc2
    rw [hl] at this
    simpa only [rootI, lk2, if_pos, Int.toNat_natCast] using this)
  have CI := hide (fun W hW => i_Consistency wd wd1 wd32 zs A c L H m W lm n512 hm hc hc2 lk hW)
  have hlen : betweenI (m : Int) (zs.length : Int) = ((consI wd zs m).length : Int) := by
    unfold betweenI consI
    rw [if_pos ⟨by omega, by omega, by omega⟩, Int.toNat_natCast, Int.toNat_natCast]
    by_cases h0 : m = 0
    · rw [if_pos (by omega), if_pos h0]; rfl
    · rw [if_neg (by omega), if_neg h0]; exact congrArg Nat.cast (consT_len _ _ _ zs m true rfl (by omega) lm).symm
  have CS := hide (show ∀ W, Calls Try.prog 15 #[.int .i64 (m : Int), .int .i64 (zs.length : Int)] W fun e w' => e = .returned (.int .i64 ((consI wd zs m).length : Int)) ∧ W = w' from fun W => by
    have := i_StepsBetween (m : Int) (zs.length : Int) W
    rwa [hlen] at this)
  have CH := hide (show ∀ W, Calls Try.prog 12 #[.int .i64 (zs.length : Int)] W fun e w' => e = .returned (.int .i64 (heightOf zs.length : Int)) ∧ W = w' from fun W => by
    have := i_HeightOf (zs.length : Int) W
    have e1 : heightI (zs.length : Int) = (heightOf zs.length : Int) := by unfold heightI; rw [if_pos ⟨by omega, by omega⟩, Int.toNat_natCast]
    rwa [e1] at this)
  have hle : ((consI wd zs m).length : Int) ≤ (heightOf zs.length : Int) + 1 := by
    rw [← hlen]
    unfold betweenI
    rw [if_pos ⟨by omega, by omega, by omega⟩, Int.toNat_natCast, Int.toNat_natCast]
    by_cases h0 : m = 0
    · rw [if_pos (by omega)]; omega
    · rw [if_neg (by omega)]
      have := between_height (heightOf zs.length) zs.length m true (by omega) lm (height_pow _)
      omega
  have hh5 := height_le zs.length
  have CC := hide (fun A' c' L' H' W hW h1 h2 => i_Between wd wd1 wd32 zs m lm n512 hm A' c' L' H' W h1 h2 hW)
  generalize consI wd zs m = P at *
  generalize rootW wd zs = rt at *
  generalize rootW wd (zs.take m) = ot at *
  generalize heightOf zs.length = hh at *
  have gh : IntKind.i64.wrap ((hh : Int) + 1) = (hh : Int) + 1 := IntWalk.i64_in _ (by omega)
  have lm' : ¬ c < m := by omega
  clear lk lk2 hm hlen
  go_wp2_with fail
  refine (CR.out _ R2.out).mono ?_
  rintro e w3 ⟨rfl, hb3⟩
  have R3 := hide (R2.out.below hb3)
  have B3 := hide (bel_new B2.out hb3 B2.out.size)
  clear hb3 R2 B2 k1
  go_wp2_with fail
  refine (CR2.out _ R3.out).mono ?_
  rintro e w4 ⟨rfl, hb4⟩
  have R4 := hide (R3.out.below hb4)
  have B4 := hide (bel_new B3.out hb4 B3.out.size)
  clear hb4 R3 B3
  go_wp2_with fail
  refine (CI.out _ R4.out).mono ?_
  rintro e w5 ⟨A5, c5, rfl, hb5, ho5⟩
  have B5 := hide (bel_new B4.out hb5 B4.out.size)
  have O5 := hide ho5
  clear hb5 B4 R4 ho5
  go_wp2_with fail
  refine (CS.out _).mono ?_
  rintro e w6 ⟨rfl, rfl⟩
  go_wp2_with fail
  refine (CH.out _).mono ?_
  rintro e w6 ⟨rfl, rfl⟩
  go_wp2_with fail
  refine (CC.out _ _ _ _ _ O5.out.rd (by simpa [strs] using O5.out.cap.1) O5.out.cap.2).mono ?_
  rintro e w6 ⟨rfl, hb6⟩
  have B6 := hide (bel_new B5.out hb6 B5.out.size)
  clear hb6
  go_wp2
  go_ret
  exact ⟨rfl, B6.out⟩

set_option maxRecDepth 100000 in
theorem lifted (os : Os) (started : os.Started) (H : Type) (enc : TypeId × Value → H) :
    ReturnsInHanded {} Try.checked os 4 .any (Rows.fnGoesOnSpec.pre6 enc Try.prog Try.f4 Rows.fnGoesOnRow.domain false) (Rows.fnGoesOnSpec.post enc Try.prog Try.f4 false true false false) := by
  refine returnsInHanded_of_change (C := Try.checked) own started (by kernel_rfl) Try.func4
    (ChangeSpec.witness6 (enc := enc) (C := Try.checked) false ⟨#[], #[.slice none 0 0], []⟩ 8 (by kernel_rfl) (by kernel_rfl) (by kernel_rfl) (by kernel_rfl)) ?_
  intro W base args ds gs before hval0 hW hcnd _
  have hval : ∀ (j : Nat) t v, Try.f4.params[j]? = some t → args[j]? = some v → Value.okWide Try.prog W .any base t v := hval0
  have hW' := hW
  obtain ⟨p, q, hA0, hV, rfl, hfz, hnd⟩ := hW
  have hA : DataW.TrodAll enc Try.prog W 0 (fun _ => true) true Try.f4.params.toList args.toList ds p := hA0
  rw [Try.params4] at hA hval
  obtain ⟨v0, vs0, d0, ds0, p0, q0, hargs, rfl, rfl, h0, r0⟩ := trodAll_cons hA
  obtain ⟨rfl, rfl, rfl⟩ := trodAll_nil r0
  obtain rfl : args = #[v0] := by cases args; simp_all
  obtain ⟨rfl, rfl⟩ := trodVars_none hV
  have k0 := h0
  have lt0 : ∀ x ∈ p0, x.block < W.heap.size := by obtain ⟨m, hm⟩ := k0; exact DataW.trod_lt m _ _ _ hm
  obtain ⟨A0, L0, C0, rfl⟩ := okWide_slice Try.underlying22 (hval 0 22 v0 rfl rfl)
  obtain ⟨fuel0, hf0⟩ := h0
  obtain ⟨a0, cap0, z0, ea0, w0, l0, b0⟩ := rd_ints (v := .slice A0 L0 C0) Try.underlying22 Try.underlying5 (by kernel_rfl) (by simpa [Value.cells] using hf0)
  simp only [Value.slice.injEq] at ea0
  obtain ⟨xa0, ya0, ta0⟩ := ea0
  replace xa0 := xa0.symm
  replace ta0 := ta0.symm
  subst xa0
  subst ta0
  subst ya0
  clear hA0 hval0
  refine (walk a0 cap0 z0 W w0 l0 b0).mono fun e W' ⟨he, bel⟩ => ?_
  subst he
  exact ⟨_, rfl, _, _, _, [], _, [], hW', trodAll_mk1 (shut_bool Try.underlying4 _), (trodAll_cons_mk (Below.trod laidOut (by kernel_rfl) (of_decide_eq_true (by kernel_rfl)) k0 bel lt0) trodAll_mk0), rfl, bel.frame _, fun h => by cases h⟩

theorem over : Rows.fnGoesOnRow.holds Try.pinned (OpenSpec.ofChange Rows.fnGoesOnSpec) :=
  OpenClaim.holds_of_wide 4 Try.f4 rfl rfl rfl rfl rfl rfl rfl ⟨rfl, rfl, rfl, rfl, rfl⟩ rfl rfl rfl rfl rfl (by kernel_rfl) Try.func4 (by kernel_rfl)
    (of_decide_eq_true (by kernel_rfl)) (by unfold Func.isWrapper; first | (rw [if_pos (by decide +kernel)]; kernel_rfl) | (rw [if_neg (by decide +kernel)]; exact ⟨rfl, rfl⟩))
    (fun os started H enc _ => lifted os started H enc)

theorem proved : Rows.FnGoesOnSaid := over
#print axioms proved
end Go.Proofs.Ytjjkpieokknhiaa.fnGoesOn

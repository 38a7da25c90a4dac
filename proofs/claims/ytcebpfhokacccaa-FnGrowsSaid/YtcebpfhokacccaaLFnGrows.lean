/-
  The law 'FnGrows' returns true, at every input, under no condition: the statement 'Rows.FnGrowsSaid'. The walk takes the functions that the law calls by their contracts; the frame about it opens the arguments and hands them back as they were.
-/
import Derived.Test.YtcebpfhokacccaaPeaksLaw
import Derived.Test.YtcebpfhokacccaaOpen
import Derived.Test.YtcebpfhokacccaaRows
import Derived.WalkKit
import Derived.ProofKit
import Derived.OpenShut
import Derived.ShutString
import Derived.ChangeOld
import Derived.Below
namespace Go.Proofs.Ytcebpfhokacccaa.fnGrows
open Go.Joins (open_agg2 open_agg3)
open Go.ChangeShapes Go.WideShapes Go.ChangeAt Go.RowKit
open Go.ChangeMaps (open_string shut_string)
set_option linter.unusedVariables false

theorem own : ownKnob Try.prog.godebug = none := by kernel_rfl
theorem laidOut : laidOutB Try.prog = true := by kernel_rfl

set_option maxHeartbeats 2000000 in
theorem walk (a0 : Option Addr) (cap0 : Nat) (z0 : List Int) (w : World) (w0 : Rd w 0 w.heap.size a0 (ints .u8 z0)) (l0 : z0.length ≤ cap0 ∧ cap0 ≤ maxLen) (b0 : ∀ n ∈ z0, (Lit.int .u8 n).wf = true) :
    Calls Try.prog 3 #[.slice a0 z0.length cap0] w fun e w' => e = .returned (.bool true) ∧ Below w.heap.size w w' := by
  have hb : ∀ b ∈ z0, 0 ≤ b ∧ b ≤ 255 := fun x hx => by
    have := b0 x hx
    simpa [Lit.wf, IntKind.min, IntKind.max, IntKind.signed, IntKind.bits] using this
  have HB := hide hb
  have H1 := hide w0
  clear w0 b0 l0 hb
  by_cases hbig : 1048576 < z0.length
  · have CB := hide (l_big_out z0 a0 cap0 hbig)
    go_enter Try.func3, Try.ntmps3
    go_wp2_with (go_at_call 5; refine (CB.out _).mono ?_; rintro e w1 ⟨rfl, rfl⟩)
    go_ret
    exact ⟨rfl, Below.refl _ _⟩
  have hn : z0.length ≤ 1048576 := by omega
  have CB := hide (l_big_in z0 a0 cap0 hn)
  clear hbig
  go_enter Try.func3, Try.ntmps3
  go_wp2_with (go_at_call 5; refine (CB.out _).mono ?_; rintro e w1 ⟨rfl, rfl⟩)
  refine (s_DrawRootOf z0 a0 cap0 _ _ _ H1.out HB.out hn).mono ?_
  rintro e w1 ⟨width, A1, c1, zs1, rfl, hz1, hs1, hb1, ho1⟩
  have b1 := hide hb1
  have O1 := hide ho1
  have Z1 := hide hz1
  clear hb1 ho1 CB hs1 hz1
  go_upto_region 4 with (fail)
  go_cut [31] from 21 (fun st wc => ∃ b : Bool, st = .bool b ∧ (b = false → leavesOk width zs1 = true) ∧ wc = w1)
  case first =>
    have C0 := s_LeavesOk width zs1 A1 c1 _ _ w1 O1.out.rd (by have := Z1.out; omega)
    cases hk : leavesOk width zs1
    · rw [hk] at C0
      replace C0 := hide C0
      set_option maxRecDepth 3000 in go_wp2_with (go_at_call 7; refine (C0.out).mono ?_; rintro e w' ⟨rfl, rfl⟩)
      go_meet
      case rel => exact ⟨true, rfl, fun h => (by cases h), rfl⟩
    · rw [hk] at C0
      replace C0 := hide C0
      set_option maxRecDepth 3000 in go_wp2_with (go_at_call 7; refine (C0.out).mono ?_; rintro e w' ⟨rfl, rfl⟩)
      go_meet
      case rel => exact ⟨false, rfl, fun _ => hk, rfl⟩
  case rest =>
  obtain ⟨bb, rfl, hbb, rfl⟩ := hcut
  go_upto_if 31 with (fail)
  go_cut [3, 4] from 21 (fun s3 s4 w' => ∃ (wd : Nat) (A : Option Addr) (c L H : Nat) (zs : List ByteArray), s3 = .int .i64 (wd : Int) ∧ s4 = .slice A zs.length c ∧ 1 ≤ wd ∧ wd ≤ 32 ∧ zs.length ≤ 512 ∧ (∀ s ∈ zs, s.size = wd) ∧ Rd w' L H A (strs zs) ∧ zs.length ≤ c ∧ c ≤ maxLen ∧ Below w.heap.size w w')
  case first =>
    cases bb
    · have hk := hbb rfl
      obtain ⟨h1, h2, h3, h4⟩ := leavesOk_spec hk
      obtain ⟨wd, rfl⟩ := Int.eq_ofNat_of_zero_le (show 0 ≤ width by omega)
      have hO := O1.out.cap
      clear hbb hk
      set_option maxRecDepth 3000 in go_wp2_with fail
      go_meet
      case rel => exact ⟨wd, A1, c1, _, _, zs1, rfl, rfl, by omega, by omega, h3, fun s hs => by have := h4 s hs; omega, O1.out.rd, by simpa [strs] using hO.1, hO.2, b1.out⟩
    · clear hbb
      set_option maxRecDepth 3000 in go_wp2_with fail
      go_meet
      case rel => exact ⟨2, _, _, _, _, [⟨#[97, 98]⟩, ⟨#[99, 100]⟩, ⟨#[101, 102]⟩], rfl, rfl, by decide, by decide, by decide, fun s hs => by simp at hs; rcases hs with rfl | rfl | rfl <;> rfl, Rd.made _ _ _ rfl, by decide, by decide, b1.out.alloc b1.out.size _⟩
  case rest =>
  clear hbb b1 O1 Z1 width A1 c1 zs1
  obtain ⟨wd, A, c, L, H, zs, rfl, rfl, wd1, wd32, n512, hm, hR, hc, hc2, hb⟩ := hcut
  have RC := hide (H1.out.below hb)
  have R := hide hR
  have B := hide hb
  clear hR hb
  go_wp2_with fail
  refine (s_DrawPlaces z0 a0 cap0 _ _ _ RC.out HB.out hn).mono ?_
  rintro e w2 ⟨A2, c2, ps, rfl, hpl, hpv, hb2, ho2⟩
  obtain ⟨g2, rfl, -, -, -, k0, -⟩ := ho2.at2 (k := 1) (by rw [length_ints, hpl]; decide)
  obtain ⟨-, -, -, k1, -⟩ := ho2.at3 (k := 0) (by rw [length_ints, hpl]; decide)
  rw [ints_get] at k1
  have q1 := hpv (ps[0]'(by omega)) (List.getElem_mem _)
  generalize ps[0]'(by omega) = p1 at *
  have R2 := hide (R.out.below hb2)
  have B2 := hide (bel_new B.out hb2 B.out.size)
  clear hb2 ho2 hpv hpl RC R B k0
  obtain ⟨m, em, lm⟩ : ∃ m : Nat, p1 % ((zs.length : Int) + 1) = (m : Int) ∧ m ≤ zs.length := ⟨(p1 % ((zs.length : Int) + 1)).toNat, by have := Int.emod_nonneg p1 (show (zs.length : Int) + 1 ≠ 0 by omega); omega, by have := Int.emod_lt_of_pos p1 (show (0 : Int) < (zs.length : Int) + 1 by omega); omega⟩
  have lk := range_ok wd1 wd32 n512 hm
  have htl : (zs.take m).length = m := by rw [List.length_take]; omega
  have hdl : (zs.drop m).length = zs.length - m := by rw [List.length_drop]
  have C1 := hide (fun W hW => i_GrowAll0 wd wd1 wd32 zs A c L H W n512 hm hW)
  have C2 := hide (show ∀ W, Rd W L H A (strs zs) → Calls Try.prog 9 #[.int .i64 (wd : Int), .agg #[.int .i64 0, .slice none 0 0], .slice A m c] W fun e w' => ∃ T k, e = .returned (.tuple #[.agg #[.int .i64 (m : Int), .slice T (grownW wd 0 [] (zs.take m)).length k], .int .i64 (madeP 0 (zs.take m) : Int), .bool true]) ∧ Below W.heap.size W w' ∧ Own w' W.heap.size w'.heap.size 9 (.slice T (grownW wd 0 [] (zs.take m)).length k) (strs (grownW wd 0 [] (zs.take m))) from fun W hW => by
    have := i_GrowAll0 wd wd1 wd32 (zs.take m) A c L H W (by omega) (fun s hs => hm s (List.mem_of_mem_take hs)) (by rw [strs, List.map_take]; exact hW.take m)
    rwa [htl] at this)
  have eG : grownW wd m (grownW wd 0 [] (zs.take m)) (zs.drop m) = grownW wd 0 [] zs := by
    have := grown_append (nodeT wd) (emptyT wd) (zs.take m) (zs.drop m) 0 []
    rw [List.take_append_drop, htl, Nat.zero_add] at this
    exact this.symm
  have eM : madeP 0 zs = madeP 0 (zs.take m) + madeP m (zs.drop m) := by
    have := madeP_append (zs.take m) (zs.drop m) 0
    rwa [List.take_append_drop, htl, Nat.zero_add] at this
  have C3 := hide (show ∀ T k L' H' W, Rd W L H A (strs zs) → Rd W L' H' T (strs (grownW wd 0 [] (zs.take m))) → Calls Try.prog 9 #[.int .i64 (wd : Int), .agg #[.int .i64 (m : Int), .slice T (grownW wd 0 [] (zs.take m)).length k], .slice (dropA c m A) (zs.length - m) (c - m)] W fun e w' => ∃ T k, e = .returned (.tuple #[.agg #[.int .i64 (zs.length : Int), .slice T (grownW wd 0 [] zs).length k], .int .i64 (madeP m (zs.drop m) : Int), .bool true]) ∧ Below W.heap.size W w' ∧ Own w' W.heap.size w'.heap.size 9 (.slice T (grownW wd 0 [] zs).length k) (strs (grownW wd 0 [] zs)) from fun T k L' H' W hW hT => by
    have := i_GrowAll wd m wd1 wd32 (grownW wd 0 [] (zs.take m)) T k L' H' (zs.drop m) (dropA c m A) (c - m) L H W (by omega) (fun s hs => hm s (List.mem_of_mem_drop hs)) (by rw [strs, List.map_drop]; unfold dropA; exact hW.drop (by simpa [strs] using hc)) (by have := range_len (wd := wd) (zs := zs.take m) (by omega); rwa [htl] at this) (range_mem wd32 (fun s hs => hm s (List.mem_of_mem_take hs))) hT
    rw [eG, hdl, show m + (zs.length - m) = zs.length by omega] at this
    exact this)
  have C4 := hide (show ∀ j (hj : j < zs.length) T k L' H' W, Rd W L' H' T (strs (grownW wd 0 [] (zs.take j))) → Calls Try.prog 10 #[.int .i64 (wd : Int), .agg #[.int .i64 (j : Int), .slice T (grownW wd 0 [] (zs.take j)).length k], .string (zs[j]'hj)] W fun e w' => ∃ T k, e = .returned (.tuple #[.agg #[.int .i64 ((j + 1 : Nat) : Int), .slice T (grownW wd 0 [] (zs.take (j + 1))).length k], .int .i64 (ones 10 j : Int), .bool true]) ∧ Below W.heap.size W w' ∧ Own w' W.heap.size w'.heap.size 9 (.slice T (grownW wd 0 [] (zs.take (j + 1))).length k) (strs (grownW wd 0 [] (zs.take (j + 1)))) from fun j hj T k L' H' W hT => by
    have hjl : (zs.take j).length = j := by rw [List.length_take]; omega
    have := i_Grow wd j wd1 wd32 (grownW wd 0 [] (zs.take j)) T k L' H' (zs[j]'hj) W (by omega) (hm _ (List.getElem_mem hj)) (by have := range_len (wd := wd) (zs := zs.take j) (by omega); rwa [hjl] at this) (range_mem wd32 (fun s hs => hm s (List.mem_of_mem_take hs))) hT
    have st := grownW_step wd 0 [] zs j hj
    rw [Nat.zero_add] at st
    rw [← st] at this
    exact this)
  have CK := hide (show ∀ T k L' H' W, Rd W L' H' T (strs (grownW wd 0 [] zs)) → Calls Try.prog 12 #[.int .i64 (wd : Int), .agg #[.int .i64 (zs.length : Int), .slice T (grownW wd 0 [] zs).length k]] W fun e w' => e = .returned (.bool true) ∧ Below W.heap.size W w' from fun T k L' H' W hT => by
    have hgl := range_len (wd := wd) (zs := zs) n512
    have hpl := pl_le zs.length n512
    have := i_RangeOk (wd : Int) (zs.length : Int) (grownW wd 0 [] zs) T k L' H' W hT (by omega)
    rwa [lk] at this)
  have hgl : (grownW wd 0 [] zs).length ≤ 9223372036854775807 := by have := range_len (wd := wd) (zs := zs) n512; have := pl_le zs.length n512; omega
  have T0 := hide (show zs.take zs.length = zs from List.take_length)
  have M1 := hide eM
  have MS := hide (fun j (h : j < zs.length) => madeP_step 0 zs j h)
  have mb := madeP_bound zs 0
  have MB := hide (fun j => madeP_bound (zs.take j) 0)
  generalize hG : grownW wd 0 [] zs = G at *
  generalize hGA : grownW wd 0 [] (zs.take m) = GA at *
  generalize madeP 0 (zs.take m) = mA at *
  generalize madeP m (zs.drop m) = mB at *
  have lm' : ¬ c < m := by omega
  have lm2 : ¬ zs.length < m := by omega
  have lc : zs.length ≤ c := hc
  have kf := k1
  clear eG eM lk hGA hm k1
  go_wp2_with fail
  refine (C1.out _ R2.out).mono ?_
  rintro e w3 ⟨T1, k1, rfl, hb3, ho3⟩
  obtain ⟨M1b, hM1⟩ : ∃ M, w3.heap.size = M := ⟨_, rfl⟩
  obtain ⟨W3, hW3⟩ : ∃ W, w3.alloc (.cells #[.int .i64 (zs.length : Int), .slice T1 G.length k1] 31) = W := ⟨_, rfl⟩
  have A1 := hide (show Arr W3 M1b 31 [.int .i64 (zs.length : Int), .slice T1 G.length k1] from hW3 ▸ Arr.new_ hM1.symm _ _)
  have R3 := hide (show Rd W3 L H A (strs zs) from hW3 ▸ (R2.out.below hb3).alloc _)
  have B3 := hide (show Below w.heap.size w W3 from hW3 ▸ (bel_new B2.out hb3 B2.out.size).alloc (Nat.le_trans B2.out.size hb3.size) _)
  have O1 := hide (show Rd W3 w2.heap.size w3.heap.size T1 (strs G) from hW3 ▸ (ho3.alloc _).rd)
  go_wp2_with fail
  try rw [hW3]
  try rw [hM1]
  clear hb3 ho3 hW3 hM1 R2 B2 kf
  refine (C2.out _ R3.out).mono ?_
  rintro e w4 ⟨T2, k2, rfl, hb4, ho4⟩
  obtain ⟨M2b, hM2⟩ : ∃ M, w4.heap.size = M := ⟨_, rfl⟩
  obtain ⟨V, hV⟩ : ∃ W, w4.alloc (.cells #[.int .i64 (m : Int), .slice T2 GA.length k2] 31) = W := ⟨_, rfl⟩
  have A2 := hide (show Arr V M2b 31 [.int .i64 (m : Int), .slice T2 GA.length k2] from hV ▸ Arr.new_ hM2.symm _ _)
  have A1v := hide (show Arr V M1b 31 [.int .i64 (zs.length : Int), .slice T1 G.length k1] from hV ▸ (A1.out.below hb4).alloc _)
  have R4 := hide (show Rd V L H A (strs zs) from hV ▸ (R3.out.below hb4).alloc _)
  have B4 := hide (show Below w.heap.size w V from hV ▸ (bel_new B3.out hb4 B3.out.size).alloc (Nat.le_trans B3.out.size hb4.size) _)
  have O1v := hide (show Rd V w2.heap.size w3.heap.size T1 (strs G) from hV ▸ (O1.out.below hb4).alloc _)
  have O2 := hide (show Rd V W3.heap.size w4.heap.size T2 (strs GA) from hV ▸ (ho4.alloc _).rd)
  go_wp2_with fail
  try rw [hV]
  try rw [hM2]
  clear hb4 ho4 hV hM2 A1 R3 B3 O1
  have f0 : V.cell? ⟨M2b, 0, none⟩ = some (.int .i64 (m : Int)) := A2.out.cell (k := 0) (by simp)
  have f1 : V.cell? ⟨M2b, 1, none⟩ = some (.slice T2 GA.length k2) := A2.out.cell (k := 1) (by simp)
  have lF := A2.out.lt
  have CC := hide (fun W (hW : Below V.heap.size V W) => C3.out T2 k2 _ _ W (R4.out.below hW) (O2.out.below hW))
  go_cut [12, 13, 14] from 21 (fun g mk ok wd' => ∃ (M' : Nat) (T' : Option Addr) (k' : Nat), g = .pointer (some ⟨M', 0, none⟩) ∧ mk = .int .i64 (mB : Int) ∧ ok = .bool true ∧ Arr wd' M' 31 [.int .i64 (zs.length : Int), .slice T' G.length k'] ∧ Below V.heap.size V wd' ∧ V.heap.size ≤ M' ∧ Own wd' V.heap.size wd'.heap.size 9 (.slice T' G.length k') (strs G))
  case first =>
    refine wp_region_held_drew (S := fun w' => Below V.heap.size V w') (by kernel_rfl) (below_drew (Below.refl _ _)) (fun hHeld => ?_)
    refine take_first 0 60 (.int .i64 (wd : Int)) rfl (by kernel_rfl) (by kernel_rfl) (by kernel_rfl) (fun _ _ _ h => h) rfl (yieldsIf_move rfl _ rfl rfl) hHeld ?_
    simp only [Act.put, List.setIfInBounds_toArray, List.set_cons_zero, List.set_cons_succ]
    refine take_first 1 61 (.agg #[.int .i64 (m : Int), .slice T2 GA.length k2]) rfl (by kernel_rfl) (by kernel_rfl) (by kernel_rfl) (fun _ _ _ h => h) rfl (.inl ⟨by rfl, fun w' hw' => by have c0 := (Below.cell hw' lF).trans f0; have c1 := (Below.cell hw' lF).trans f1; go_simp⟩) hHeld ?_
    simp only [Act.put, List.setIfInBounds_toArray, List.set_cons_zero, List.set_cons_succ]
    refine take_first 2 62 (.slice A zs.length c) rfl (by kernel_rfl) (by kernel_rfl) (by kernel_rfl) (fun _ _ _ h => h) rfl (yieldsIf_move rfl _ rfl rfl) hHeld ?_
    simp only [Act.put, List.setIfInBounds_toArray, List.set_cons_zero, List.set_cons_succ]
    refine take_first 3 63 (.int .i64 (m : Int)) rfl (by kernel_rfl) (by kernel_rfl) (by kernel_rfl) (fun _ _ _ h => h) rfl (yieldsIf_move rfl _ rfl rfl) hHeld ?_
    simp only [Act.put, List.setIfInBounds_toArray, List.set_cons_zero, List.set_cons_succ]
    refine take_first 4 64 (.slice (dropA c m A) (zs.length - m) (c - m)) rfl (by kernel_rfl) (by kernel_rfl) (by kernel_rfl) (fun _ _ _ h => h) rfl (.inl ⟨by rfl, fun w' hw' => by unfold dropA; go_simp⟩) hHeld ?_
    simp only [Act.put, List.setIfInBounds_toArray, List.set_cons_zero, List.set_cons_succ]
    refine wpAnyH_ready (rs := [5, 10]) (by kernel_rfl) (by simp) (AllReadyH.cons rfl (fun K hK => ?_) (AllReadyH.cons rfl (fun K hK => ?_) AllReadyH.nil))
    · go_simp
      refine (CC.out _ (below_drew (Below.refl _ _))).mono ?_
      rintro e w5 ⟨T3, k3, rfl, hb5, ho5⟩
      dsimp only
      have S5 := hide (bel_new hHeld hb5 hHeld.size)
      have O5 := hide (show Own w5 V.heap.size w5.heap.size 9 (.slice T3 G.length k3) (strs G) from ho5)
      clear hb5 ho5 hHeld
      refine hK.out _ _ (S5.out) (fun hHeld => ?_)
      clear hK K
      refine take_first 6 59 (.tuple #[.agg #[.int .i64 (zs.length : Int), .slice T3 G.length k3], .int .i64 (mB : Int), .bool true]) rfl (by kernel_rfl) (by kernel_rfl) (by kernel_rfl) (fun _ _ _ h => h) rfl (yieldsIf_move rfl _ rfl rfl) hHeld ?_
      simp only [Act.put, List.setIfInBounds_toArray, List.set_cons_zero, List.set_cons_succ]
      refine take_first 7 66 (.agg #[.int .i64 (zs.length : Int), .slice T3 G.length k3]) rfl (by kernel_rfl) (by kernel_rfl) (by kernel_rfl) (fun _ _ _ h => h) rfl (.inl ⟨by rfl, fun w' hw' => by go_simp⟩) hHeld ?_
      simp only [Act.put, List.setIfInBounds_toArray, List.set_cons_zero, List.set_cons_succ]
      refine take_first 8 67 (.int .i64 (mB : Int)) rfl (by kernel_rfl) (by kernel_rfl) (by kernel_rfl) (fun _ _ _ h => h) rfl (.inl ⟨by rfl, fun w' hw' => by go_simp⟩) hHeld ?_
      simp only [Act.put, List.setIfInBounds_toArray, List.set_cons_zero, List.set_cons_succ]
      refine take_first 9 68 (.bool true) rfl (by kernel_rfl) (by kernel_rfl) (by kernel_rfl) (fun _ _ _ h => h) rfl (.inl ⟨by rfl, fun w' hw' => by go_simp⟩) hHeld ?_
      simp only [Act.put, List.setIfInBounds_toArray, List.set_cons_zero, List.set_cons_succ]
      refine wpAnyH_ready (rs := [10]) (by kernel_rfl) (by simp) (AllReadyH.cons rfl (fun K hK => ?_) AllReadyH.nil)
      go_simp
      clear hHeld
      refine hK.out _ _ (S5.out.alloc S5.out.size _) (fun hHeld => ?_)
      clear hK K
      refine wpAnyH_ready (rs := [11]) (by kernel_rfl) (by simp) (AllReadyH.cons rfl (fun K hK => ?_) AllReadyH.nil)
      go_simp
      clear hHeld
      refine hK.out _ _ (by repeat (first | with_reducible exact S5.out | with_reducible refine Below.setCell ?_ (by have := S5.out.size; simp; try omega) _ | with_reducible refine Below.alloc ?_ S5.out.size _)) (fun hHeld => ?_)
      clear hK K
      refine take_first 12 13 (.int .i64 (mB : Int)) rfl (by kernel_rfl) (by kernel_rfl) (by kernel_rfl) (fun _ _ _ h => h) rfl (.inl ⟨by rfl, fun w' hw' => by go_simp⟩) hHeld ?_
      simp only [Act.put, List.setIfInBounds_toArray, List.set_cons_zero, List.set_cons_succ]
      refine take_first 13 14 (.bool true) rfl (by kernel_rfl) (by kernel_rfl) (by kernel_rfl) (fun _ _ _ h => h) rfl (.inl ⟨by rfl, fun w' hw' => by go_simp⟩) hHeld ?_
      simp only [Act.put, List.setIfInBounds_toArray, List.set_cons_zero, List.set_cons_succ]
      refine wpAnyH_done (by kernel_rfl) ?_ _
      set_option maxRecDepth 3000 in go_wp2_with fail
      go_meet
      case rel =>
        exact ⟨w5.heap.size, T3, k3, rfl, rfl, rfl, Arr.new_ rfl _ _, S5.out.alloc S5.out.size _, S5.out.size, (O5.out.alloc _).top⟩
    · go_simp
      obtain ⟨Y, hY⟩ : ∃ Y, (V.alloc (.cells #[.int .i64 0, .slice none 0 0] 31)).drew = Y := ⟨_, rfl⟩
      have AY := hide (show Arr Y V.heap.size 31 [.int .i64 0, .slice none 0 0] from hY ▸ (Arr.new_ (w := V) rfl [.int .i64 0, .slice none 0 0] 31).drew)
      have SY := hide (show Below V.heap.size V Y from hY ▸ below_drew ((Below.refl _ _).alloc (Nat.le_refl _) _))
      rw [hY]
      clear hY hHeld
      refine hK.out _ _ SY.out (fun hHeld => ?_)
      clear hK K
      refine wpAnyH_ready (rs := [5]) (by kernel_rfl) (by simp) (AllReadyH.cons rfl (fun K hK => ?_) AllReadyH.nil)
      go_simp
      refine (CC.out _ SY.out).mono ?_
      rintro e w5 ⟨T3, k3, rfl, hb5, ho5⟩
      dsimp only
      have S5 := hide (bel_new SY.out hb5 SY.out.size)
      have O5 := hide (show Own w5 Y.heap.size w5.heap.size 9 (.slice T3 G.length k3) (strs G) from ho5)
      have AN := hide (AY.out.below hb5)
      have LY := hide AY.out.lt
      clear hb5 ho5 hHeld
      refine hK.out _ _ (S5.out) (fun hHeld => ?_)
      clear hK K
      refine take_first 6 59 (.tuple #[.agg #[.int .i64 (zs.length : Int), .slice T3 G.length k3], .int .i64 (mB : Int), .bool true]) rfl (by kernel_rfl) (by kernel_rfl) (by kernel_rfl) (fun _ _ _ h => h) rfl (yieldsIf_move rfl _ rfl rfl) hHeld ?_
      simp only [Act.put, List.setIfInBounds_toArray, List.set_cons_zero, List.set_cons_succ]
      refine take_first 7 66 (.agg #[.int .i64 (zs.length : Int), .slice T3 G.length k3]) rfl (by kernel_rfl) (by kernel_rfl) (by kernel_rfl) (fun _ _ _ h => h) rfl (.inl ⟨by rfl, fun w' hw' => by go_simp⟩) hHeld ?_
      simp only [Act.put, List.setIfInBounds_toArray, List.set_cons_zero, List.set_cons_succ]
      refine take_first 8 67 (.int .i64 (mB : Int)) rfl (by kernel_rfl) (by kernel_rfl) (by kernel_rfl) (fun _ _ _ h => h) rfl (.inl ⟨by rfl, fun w' hw' => by go_simp⟩) hHeld ?_
      simp only [Act.put, List.setIfInBounds_toArray, List.set_cons_zero, List.set_cons_succ]
      refine take_first 9 68 (.bool true) rfl (by kernel_rfl) (by kernel_rfl) (by kernel_rfl) (fun _ _ _ h => h) rfl (.inl ⟨by rfl, fun w' hw' => by go_simp⟩) hHeld ?_
      simp only [Act.put, List.setIfInBounds_toArray, List.set_cons_zero, List.set_cons_succ]
      have r0 : w5.cell? ⟨V.heap.size, 0, none⟩ = some (.int .i64 0) := AN.out.cell (k := 0) (by simp)
      have t0' : w5.frozen? ⟨V.heap.size, 0, none⟩ = false := AN.out.free 0
      have r1 : w5.cell? ⟨V.heap.size, 1, none⟩ = some (.slice none 0 0) := AN.out.cell (k := 1) (by simp)
      have t1' : w5.frozen? ⟨V.heap.size, 1, none⟩ = false := AN.out.free 1
      refine wpAnyH_ready (rs := [11]) (by kernel_rfl) (by simp) (AllReadyH.cons rfl (fun K hK => ?_) AllReadyH.nil)
      go_simp
      obtain ⟨Z, hZ⟩ : ∃ Z, (w5.setCell ⟨V.heap.size, 0, none⟩ (.int .i64 (zs.length : Int))).setCell ⟨V.heap.size, 1, none⟩ (.slice T3 G.length k3) = Z := ⟨_, rfl⟩
      have AZ := hide (show Arr Z V.heap.size 31 [.int .i64 (zs.length : Int), .slice T3 G.length k3] from hZ ▸ (AN.out.set_ 0 (.int .i64 (zs.length : Int))).set_ 1 (.slice T3 G.length k3))
      have OZ := hide (show Own Z V.heap.size Z.heap.size 9 (.slice T3 G.length k3) (strs G) from hZ ▸ ((((O5.out.setCell (.inl LY.out) _).setCell (.inl LY.out) _).wide (Nat.le_of_lt LY.out) (Nat.le_refl _)).top))
      have SZ := hide (show Below V.heap.size V Z from hZ ▸ (S5.out.setCell (Nat.le_refl _) _).setCell (Nat.le_refl _) _)
      rw [hZ]
      clear hZ hHeld r0 r1 t0' t1'
      refine hK.out _ _ (SZ.out) (fun hHeld => ?_)
      clear hK K
      refine take_first 12 13 (.int .i64 (mB : Int)) rfl (by kernel_rfl) (by kernel_rfl) (by kernel_rfl) (fun _ _ _ h => h) rfl (.inl ⟨by rfl, fun w' hw' => by go_simp⟩) hHeld ?_
      simp only [Act.put, List.setIfInBounds_toArray, List.set_cons_zero, List.set_cons_succ]
      refine take_first 13 14 (.bool true) rfl (by kernel_rfl) (by kernel_rfl) (by kernel_rfl) (fun _ _ _ h => h) rfl (.inl ⟨by rfl, fun w' hw' => by go_simp⟩) hHeld ?_
      simp only [Act.put, List.setIfInBounds_toArray, List.set_cons_zero, List.set_cons_succ]
      refine wpAnyH_done (by kernel_rfl) ?_ _
      set_option maxRecDepth 3000 in go_wp2_with fail
      go_meet
      case rel =>
        exact ⟨V.heap.size, T3, k3, rfl, rfl, rfl, AZ.out, SZ.out, Nat.le_refl _, OZ.out⟩
  case rest =>
  obtain ⟨M3, T3, k3, rfl, rfl, rfl, a3, b3, lM3, o3⟩ := hcut
  have A3 := hide a3
  have O3 := hide o3.rd
  have A1w := hide (A1v.out.below b3)
  have O1w := hide (O1v.out.below b3)
  have R5 := hide (R4.out.below b3)
  have B5 := hide (bel_new B4.out b3 B4.out.size)
  clear a3 b3 o3 f0 f1 lF CC A2 A1v R4 B4 O1v O2 C1 C2 C3
  obtain ⟨X, rfl⟩ : ∃ X, X = wc := ⟨_, rfl⟩
  go_wp2
  go_loopw [16, 17, 18, 19, 20] (fun calls x nx mk ok wr => ∃ (j : Nat) (T : Option Addr) (k : Nat), j ≤ zs.length ∧ x = .int .i64 (j : Int) ∧ calls = .int .i64 (madeP 0 (zs.take j) : Int) ∧ Below X.heap.size X wr ∧ Arr wr X.heap.size 31 [.int .i64 (j : Int), .slice T (grownW wd 0 [] (zs.take j)).length k] ∧ Rd wr (X.heap.size + 1) wr.heap.size T (strs (grownW wd 0 [] (zs.take j)))) (fun _ x _ _ _ _ => zs.length - (intOf x).toNat)
  case atStart => exact ⟨0, none, 0, Nat.zero_le _, rfl, rfl, (Below.refl _ _).alloc (Nat.le_refl _) _, Arr.new X [.int .i64 0, .slice none 0 0] _, Rd.nil _ _ _ _⟩
  case round =>
    obtain ⟨j, T, k, hj, rfl, rfl, hb, ha, ho⟩ := hrel
    have BR := hide hb
    have AR := hide ha
    have OR := hide ho
    have lF := ha.lt
    clear hb ha ho
    by_cases hlt : j < zs.length
    · have hlt' : (j : Int) < (zs.length : Int) := by omega
      obtain ⟨ad, rfl, -, -, cx⟩ := (R5.out.below BR.out).at_ (k := j) (by rw [length_strs]; exact hlt)
      rw [strs_get] at cx
      have lax := cell_lt cx
      have CC := fun W (hW : Below wr.heap.size wr W) => C4.out j hlt T k _ _ W (OR.out.below hW)
      have ms := MS.out j hlt
      rw [Nat.zero_add] at ms
      have mbj := MB.out j
      have htj : (zs.take j).length ≤ 512 := by rw [List.length_take]; omega
      have ob := ones_bound 10 j
      obtain ⟨NJ, hNJ⟩ : ∃ NJ : Int, ((j + 1 : Nat) : Int) = NJ := ⟨_, rfl⟩
      rw [hNJ] at CC
      obtain ⟨G2, hG2⟩ : ∃ G2, grownW wd 0 [] (zs.take (j + 1)) = G2 := ⟨_, rfl⟩
      rw [hG2] at CC
      obtain ⟨m2, hm2⟩ : ∃ m2, madeP 0 (zs.take (j + 1)) = m2 := ⟨_, rfl⟩
      rw [hm2] at ms
      generalize zs[j]'hlt = xx at *
      generalize grownW wd 0 [] (zs.take j) = G1 at *
      generalize madeP 0 (zs.take j) = m1 at *
      generalize ones 10 j = oj at *
      have f0 : wr.cell? ⟨X.heap.size, 0, none⟩ = some (.int .i64 (j : Int)) := AR.out.cell (k := 0) (by simp)
      have f1 : wr.cell? ⟨X.heap.size, 1, none⟩ = some (.slice T G1.length k) := AR.out.cell (k := 1) (by simp)
      have HNJ := hide hNJ
      have HG2 := hide hG2
      have HM2 := hide hm2
      have HMS := hide ms
      have b1 : m1 ≤ 5120 := by omega
      replace CC := hide CC
      clear hNJ hG2 hm2 ms mbj htj
      go_upto_region 16 with (fail)
      go_cut [18, 19, 20] from 70 to 92 (fun g mk ok wd' => ∃ (M' : Nat) (T' : Option Addr) (k' : Nat), g = .pointer (some ⟨M', 0, none⟩) ∧ mk = .int .i64 (oj : Int) ∧ ok = .bool true ∧ Arr wd' M' 31 [.int .i64 NJ, .slice T' G2.length k'] ∧ Below wr.heap.size wr wd' ∧ wr.heap.size ≤ M' ∧ Own wd' wr.heap.size wd'.heap.size 9 (.slice T' G2.length k') (strs G2))
      case first =>
        refine wp_region_held_drew (S := fun w' => Below wr.heap.size wr w') (by kernel_rfl) (below_drew (Below.refl _ _)) (fun hHeld => ?_)
        refine take_first 0 77 (.int .i64 (wd : Int)) rfl (by kernel_rfl) (by kernel_rfl) (by kernel_rfl) (fun _ _ _ h => h) rfl (yieldsIf_move rfl _ rfl rfl) hHeld ?_
        simp only [Act.put, List.setIfInBounds_toArray, List.set_cons_zero, List.set_cons_succ]
        refine take_first 1 78 (.agg #[.int .i64 (j : Int), .slice T G1.length k]) rfl (by kernel_rfl) (by kernel_rfl) (by kernel_rfl) (fun _ _ _ h => h) rfl (.inl ⟨by rfl, fun w' hw' => by have c0 := (Below.cell hw' lF).trans f0; have c1 := (Below.cell hw' lF).trans f1; go_simp⟩) hHeld ?_
        simp only [Act.put, List.setIfInBounds_toArray, List.set_cons_zero, List.set_cons_succ]
        refine take_first 2 79 (.slice (some ad) zs.length c) rfl (by kernel_rfl) (by kernel_rfl) (by kernel_rfl) (fun _ _ _ h => h) rfl (yieldsIf_move rfl _ rfl rfl) hHeld ?_
        simp only [Act.put, List.setIfInBounds_toArray, List.set_cons_zero, List.set_cons_succ]
        refine take_first 3 80 (.int .i64 (j : Int)) rfl (by kernel_rfl) (by kernel_rfl) (by kernel_rfl) (fun _ _ _ h => h) rfl (yieldsIf_move rfl _ rfl rfl) hHeld ?_
        simp only [Act.put, List.setIfInBounds_toArray, List.set_cons_zero, List.set_cons_succ]
        refine take_first 4 81 (.pointer (some (ad.add j))) rfl (by kernel_rfl) (by kernel_rfl) (by kernel_rfl) (fun _ _ _ h => h) rfl (.inl ⟨by rfl, fun w' hw' => by go_simp⟩) hHeld ?_
        simp only [Act.put, List.setIfInBounds_toArray, List.set_cons_zero, List.set_cons_succ]
        refine take_first 5 82 (.string xx) rfl (by kernel_rfl) (by kernel_rfl) (by kernel_rfl) (fun _ _ _ h => h) rfl (.inl ⟨by rfl, fun w' hw' => by have cc := (Below.cell hw' lax).trans cx; go_simp⟩) hHeld ?_
        simp only [Act.put, List.setIfInBounds_toArray, List.set_cons_zero, List.set_cons_succ]
        refine wpAnyH_ready (rs := [6, 11]) (by kernel_rfl) (by simp) (AllReadyH.cons rfl (fun K hK => ?_) (AllReadyH.cons rfl (fun K hK => ?_) AllReadyH.nil))
        · go_simp
          refine (CC.out _ (below_drew (Below.refl _ _))).mono ?_
          rintro e w5 ⟨T4, k4, rfl, hb5, ho5⟩
          dsimp only
          have S5 := hide (bel_new hHeld hb5 hHeld.size)
          have O5 := hide (show Own w5 wr.heap.size w5.heap.size 9 (.slice T4 G2.length k4) (strs G2) from ho5)
          clear hb5 ho5 hHeld
          refine hK.out _ _ (S5.out) (fun hHeld => ?_)
          clear hK K
          refine take_first 7 76 (.tuple #[.agg #[.int .i64 NJ, .slice T4 G2.length k4], .int .i64 (oj : Int), .bool true]) rfl (by kernel_rfl) (by kernel_rfl) (by kernel_rfl) (fun _ _ _ h => h) rfl (yieldsIf_move rfl _ rfl rfl) hHeld ?_
          simp only [Act.put, List.setIfInBounds_toArray, List.set_cons_zero, List.set_cons_succ]
          refine take_first 8 84 (.agg #[.int .i64 NJ, .slice T4 G2.length k4]) rfl (by kernel_rfl) (by kernel_rfl) (by kernel_rfl) (fun _ _ _ h => h) rfl (.inl ⟨by rfl, fun w' hw' => by go_simp⟩) hHeld ?_
          simp only [Act.put, List.setIfInBounds_toArray, List.set_cons_zero, List.set_cons_succ]
          refine take_first 9 85 (.int .i64 (oj : Int)) rfl (by kernel_rfl) (by kernel_rfl) (by kernel_rfl) (fun _ _ _ h => h) rfl (.inl ⟨by rfl, fun w' hw' => by go_simp⟩) hHeld ?_
          simp only [Act.put, List.setIfInBounds_toArray, List.set_cons_zero, List.set_cons_succ]
          refine take_first 10 86 (.bool true) rfl (by kernel_rfl) (by kernel_rfl) (by kernel_rfl) (fun _ _ _ h => h) rfl (.inl ⟨by rfl, fun w' hw' => by go_simp⟩) hHeld ?_
          simp only [Act.put, List.setIfInBounds_toArray, List.set_cons_zero, List.set_cons_succ]
          refine wpAnyH_ready (rs := [11]) (by kernel_rfl) (by simp) (AllReadyH.cons rfl (fun K hK => ?_) AllReadyH.nil)
          go_simp
          clear hHeld
          refine hK.out _ _ (S5.out.alloc S5.out.size _) (fun hHeld => ?_)
          clear hK K
          refine wpAnyH_ready (rs := [12]) (by kernel_rfl) (by simp) (AllReadyH.cons rfl (fun K hK => ?_) AllReadyH.nil)
          go_simp
          clear hHeld
          refine hK.out _ _ (by repeat (first | with_reducible exact S5.out | with_reducible refine Below.setCell ?_ (by have := S5.out.size; simp; try omega) _ | with_reducible refine Below.alloc ?_ S5.out.size _)) (fun hHeld => ?_)
          clear hK K
          refine take_first 13 19 (.int .i64 (oj : Int)) rfl (by kernel_rfl) (by kernel_rfl) (by kernel_rfl) (fun _ _ _ h => h) rfl (.inl ⟨by rfl, fun w' hw' => by go_simp⟩) hHeld ?_
          simp only [Act.put, List.setIfInBounds_toArray, List.set_cons_zero, List.set_cons_succ]
          refine take_first 14 20 (.bool true) rfl (by kernel_rfl) (by kernel_rfl) (by kernel_rfl) (fun _ _ _ h => h) rfl (.inl ⟨by rfl, fun w' hw' => by go_simp⟩) hHeld ?_
          simp only [Act.put, List.setIfInBounds_toArray, List.set_cons_zero, List.set_cons_succ]
          refine wpAnyH_done (by kernel_rfl) ?_ _
          set_option maxRecDepth 3000 in go_wp2_with fail
          go_meet
          case rel =>
            exact ⟨w5.heap.size, T4, k4, rfl, rfl, rfl, Arr.new_ rfl _ _, S5.out.alloc S5.out.size _, S5.out.size, (O5.out.alloc _).top⟩
        · go_simp
          obtain ⟨Y, hY⟩ : ∃ Y, (wr.alloc (.cells #[.int .i64 0, .slice none 0 0] 31)).drew = Y := ⟨_, rfl⟩
          have AY := hide (show Arr Y wr.heap.size 31 [.int .i64 0, .slice none 0 0] from hY ▸ (Arr.new_ (w := wr) rfl [.int .i64 0, .slice none 0 0] 31).drew)
          have SY := hide (show Below wr.heap.size wr Y from hY ▸ below_drew ((Below.refl _ _).alloc (Nat.le_refl _) _))
          rw [hY]
          clear hY hHeld
          refine hK.out _ _ SY.out (fun hHeld => ?_)
          clear hK K
          refine wpAnyH_ready (rs := [6]) (by kernel_rfl) (by simp) (AllReadyH.cons rfl (fun K hK => ?_) AllReadyH.nil)
          go_simp
          refine (CC.out _ SY.out).mono ?_
          rintro e w5 ⟨T4, k4, rfl, hb5, ho5⟩
          dsimp only
          have S5 := hide (bel_new SY.out hb5 SY.out.size)
          have O5 := hide (show Own w5 Y.heap.size w5.heap.size 9 (.slice T4 G2.length k4) (strs G2) from ho5)
          have AN := hide (AY.out.below hb5)
          have LY := hide AY.out.lt
          clear hb5 ho5 hHeld
          refine hK.out _ _ (S5.out) (fun hHeld => ?_)
          clear hK K
          refine take_first 7 76 (.tuple #[.agg #[.int .i64 NJ, .slice T4 G2.length k4], .int .i64 (oj : Int), .bool true]) rfl (by kernel_rfl) (by kernel_rfl) (by kernel_rfl) (fun _ _ _ h => h) rfl (yieldsIf_move rfl _ rfl rfl) hHeld ?_
          simp only [Act.put, List.setIfInBounds_toArray, List.set_cons_zero, List.set_cons_succ]
          refine take_first 8 84 (.agg #[.int .i64 NJ, .slice T4 G2.length k4]) rfl (by kernel_rfl) (by kernel_rfl) (by kernel_rfl) (fun _ _ _ h => h) rfl (.inl ⟨by rfl, fun w' hw' => by go_simp⟩) hHeld ?_
          simp only [Act.put, List.setIfInBounds_toArray, List.set_cons_zero, List.set_cons_succ]
          refine take_first 9 85 (.int .i64 (oj : Int)) rfl (by kernel_rfl) (by kernel_rfl) (by kernel_rfl) (fun _ _ _ h => h) rfl (.inl ⟨by rfl, fun w' hw' => by go_simp⟩) hHeld ?_
          simp only [Act.put, List.setIfInBounds_toArray, List.set_cons_zero, List.set_cons_succ]
          refine take_first 10 86 (.bool true) rfl (by kernel_rfl) (by kernel_rfl) (by kernel_rfl) (fun _ _ _ h => h) rfl (.inl ⟨by rfl, fun w' hw' => by go_simp⟩) hHeld ?_
          simp only [Act.put, List.setIfInBounds_toArray, List.set_cons_zero, List.set_cons_succ]
          have r0 : w5.cell? ⟨wr.heap.size, 0, none⟩ = some (.int .i64 0) := AN.out.cell (k := 0) (by simp)
          have t0' : w5.frozen? ⟨wr.heap.size, 0, none⟩ = false := AN.out.free 0
          have r1 : w5.cell? ⟨wr.heap.size, 1, none⟩ = some (.slice none 0 0) := AN.out.cell (k := 1) (by simp)
          have t1' : w5.frozen? ⟨wr.heap.size, 1, none⟩ = false := AN.out.free 1
          refine wpAnyH_ready (rs := [12]) (by kernel_rfl) (by simp) (AllReadyH.cons rfl (fun K hK => ?_) AllReadyH.nil)
          go_simp
          obtain ⟨Z, hZ⟩ : ∃ Z, (w5.setCell ⟨wr.heap.size, 0, none⟩ (.int .i64 NJ)).setCell ⟨wr.heap.size, 1, none⟩ (.slice T4 G2.length k4) = Z := ⟨_, rfl⟩
          have AZ := hide (show Arr Z wr.heap.size 31 [.int .i64 NJ, .slice T4 G2.length k4] from hZ ▸ (AN.out.set_ 0 (.int .i64 NJ)).set_ 1 (.slice T4 G2.length k4))
          have OZ := hide (show Own Z wr.heap.size Z.heap.size 9 (.slice T4 G2.length k4) (strs G2) from hZ ▸ ((((O5.out.setCell (.inl LY.out) _).setCell (.inl LY.out) _).wide (Nat.le_of_lt LY.out) (Nat.le_refl _)).top))
          have SZ := hide (show Below wr.heap.size wr Z from hZ ▸ (S5.out.setCell (Nat.le_refl _) _).setCell (Nat.le_refl _) _)
          rw [hZ]
          clear hZ hHeld r0 r1 t0' t1'
          refine hK.out _ _ (SZ.out) (fun hHeld => ?_)
          clear hK K
          refine take_first 13 19 (.int .i64 (oj : Int)) rfl (by kernel_rfl) (by kernel_rfl) (by kernel_rfl) (fun _ _ _ h => h) rfl (.inl ⟨by rfl, fun w' hw' => by go_simp⟩) hHeld ?_
          simp only [Act.put, List.setIfInBounds_toArray, List.set_cons_zero, List.set_cons_succ]
          refine take_first 14 20 (.bool true) rfl (by kernel_rfl) (by kernel_rfl) (by kernel_rfl) (fun _ _ _ h => h) rfl (.inl ⟨by rfl, fun w' hw' => by go_simp⟩) hHeld ?_
          simp only [Act.put, List.setIfInBounds_toArray, List.set_cons_zero, List.set_cons_succ]
          refine wpAnyH_done (by kernel_rfl) ?_ _
          set_option maxRecDepth 3000 in go_wp2_with fail
          go_meet
          case rel =>
            exact ⟨wr.heap.size, T4, k4, rfl, rfl, rfl, AZ.out, SZ.out, Nat.le_refl _, OZ.out⟩
      case rest =>
        obtain ⟨M', T', k', rfl, rfl, rfl, a', b', lM, o'⟩ := hcut
        obtain ⟨Z, rfl⟩ : ∃ Z, Z = wc := ⟨_, rfl⟩
        have A' := hide (AR.out.below b')
        have B' := hide (BR.out.trans (b'.mono (Nat.le_of_lt lF)))
        have O' := hide (show Rd Z (X.heap.size + 1) Z.heap.size T' (strs G2) from (o'.rd).wide lF (Nat.le_refl _))
        have AM := hide a'
        have lM' := a'.lt
        clear a' b' o' f0 f1 cx lax CC AR BR OR
        have h0 : Z.cell? ⟨M', 0, none⟩ = some (.int .i64 NJ) := AM.out.cell (k := 0) (by simp)
        have h1 : Z.cell? ⟨M', 1, none⟩ = some (.slice T' G2.length k') := AM.out.cell (k := 1) (by simp)
        have z0 : Z.cell? ⟨X.heap.size, 0, none⟩ = some (.int .i64 (j : Int)) := A'.out.cell (k := 0) (by simp)
        have z1 : Z.cell? ⟨X.heap.size, 1, none⟩ = some (.slice T G1.length k) := A'.out.cell (k := 1) (by simp)
        have y0 := A'.out.free 0
        have y1 := A'.out.free 1
        have gw : IntKind.i64.wrap ((m1 : Int) + (oj : Int)) = (m1 : Int) + (oj : Int) := IntWalk.i64_in _ (by omega)
        go_wp2
        go_roundw
        case rel =>
          have hA := (A'.out.set_ 0 (.int .i64 NJ)).set_ 1 (.slice T' G2.length k')
          have hB : Below X.heap.size X ((Z.setCell ⟨X.heap.size, 0, none⟩ (.int .i64 NJ)).setCell ⟨X.heap.size, 1, none⟩ (.slice T' G2.length k')) := (B'.out.setCell (Nat.le_refl _) _).setCell (Nat.le_refl _) _
          have hO : Rd ((Z.setCell ⟨X.heap.size, 0, none⟩ (.int .i64 NJ)).setCell ⟨X.heap.size, 1, none⟩ (.slice T' G2.length k')) (X.heap.size + 1) ((Z.setCell ⟨X.heap.size, 0, none⟩ (.int .i64 NJ)).setCell ⟨X.heap.size, 1, none⟩ (.slice T' G2.length k')).heap.size T' (strs G2) := ((O'.out.setCell (.inl (Nat.lt_succ_self _)) _).setCell (.inl (Nat.lt_succ_self _)) _).top
          refine ⟨j + 1, T', k', by omega, by go_num, ?_, hB, ?_, ?_⟩
          · rw [HM2.out]
            congr 1
            have := HMS.out
            omega
          · rw [HG2.out, HNJ.out]; exact hA
          · rw [HG2.out]; exact hO
        case measure => simp [intOf]; omega
    · have e : j = zs.length := by omega
      subst e
      have t0 := T0.out
      have OF := hide (show Rd wr (X.heap.size + 1) wr.heap.size T (strs G) from by have := OR.out; rwa [t0, hG] at this)
      have AF := hide (show Arr wr X.heap.size 31 [.int .i64 (zs.length : Int), .slice T G.length k] from by have := AR.out; rwa [t0, hG] at this)
      have A1f := hide (A1w.out.below BR.out)
      have A3f := hide (A3.out.below BR.out)
      have O1f := hide (O1w.out.below BR.out)
      have O3f := hide (O3.out.below BR.out)
      have Bf := hide (B5.out.trans (BR.out.mono B5.out.size))
      rw [t0]
      have m1e := M1.out
      have gs : IntKind.i64.wrap ((mA : Int) + (mB : Int)) = (mA : Int) + (mB : Int) := IntWalk.i64_in _ (by omega)
      have eqm : ((madeP 0 zs : Int) == (mA : Int) + (mB : Int)) = true := by rw [beq_iff_eq]; omega
      clear m1e t0 hj hG
      generalize madeP 0 zs = MM at *
      clear A1w A3 O1w O3 B5 BR AR OR C4 M1 T0 MS mb MB R5
      have c10 : wr.cell? ⟨M1b, 0, none⟩ = some (.int .i64 (zs.length : Int)) := A1f.out.cell (k := 0) (by simp)
      have c11 : wr.cell? ⟨M1b, 1, none⟩ = some (.slice T1 G.length k1) := A1f.out.cell (k := 1) (by simp)
      have c30 : wr.cell? ⟨M3, 0, none⟩ = some (.int .i64 (zs.length : Int)) := A3f.out.cell (k := 0) (by simp)
      have c31 : wr.cell? ⟨M3, 1, none⟩ = some (.slice T3 G.length k3) := A3f.out.cell (k := 1) (by simp)
      go_wp2_with fail
      refine (l_sameRange (zs.length : Int) G T1 T3 k1 k3 _ _ _ _ _ O1f.out O3f.out hgl).mono ?_
      rintro e w6 ⟨rfl, hb6⟩
      have A1g := hide (A1f.out.below hb6)
      have AFg := hide (AF.out.below hb6)
      have O1g := hide (O1f.out.below hb6)
      have OFg := hide (OF.out.below hb6)
      have Bg := hide (bel_new Bf.out hb6 Bf.out.size)
      clear hb6 c10 c11 c30 c31 A1f A3f O1f O3f Bf AF OF
      have c10 : w6.cell? ⟨M1b, 0, none⟩ = some (.int .i64 (zs.length : Int)) := A1g.out.cell (k := 0) (by simp)
      have c11 : w6.cell? ⟨M1b, 1, none⟩ = some (.slice T1 G.length k1) := A1g.out.cell (k := 1) (by simp)
      have c50 : w6.cell? ⟨X.heap.size, 0, none⟩ = some (.int .i64 (zs.length : Int)) := AFg.out.cell (k := 0) (by simp)
      have c51 : w6.cell? ⟨X.heap.size, 1, none⟩ = some (.slice T G.length k) := AFg.out.cell (k := 1) (by simp)
      go_wp2_with fail
      refine (l_sameRange (zs.length : Int) G T1 T k1 k _ _ _ _ _ O1g.out OFg.out hgl).mono ?_
      rintro e w7 ⟨rfl, hb7⟩
      have A1h := hide (A1g.out.below hb7)
      have O1h := hide (O1g.out.below hb7)
      have Bh := hide (bel_new Bg.out hb7 Bg.out.size)
      clear hb7 c10 c11 c50 c51 A1g AFg O1g OFg Bg
      have c10 : w7.cell? ⟨M1b, 0, none⟩ = some (.int .i64 (zs.length : Int)) := A1h.out.cell (k := 0) (by simp)
      have c11 : w7.cell? ⟨M1b, 1, none⟩ = some (.slice T1 G.length k1) := A1h.out.cell (k := 1) (by simp)
      go_wp2_with fail
      refine (CK.out T1 k1 _ _ _ O1h.out).mono ?_
      rintro e w8 ⟨rfl, hb8⟩
      have Bi := hide (bel_new Bh.out hb8 Bh.out.size)
      clear hb8
      go_wp2
      go_ret
      exact ⟨rfl, Bi.out⟩

set_option maxRecDepth 100000 in
theorem lifted (os : Os) (started : os.Started) (H : Type) (enc : TypeId × Value → H) :
    ReturnsInHanded {} Try.checked os 3 .any (Rows.fnGrowsSpec.pre6 enc Try.prog Try.f3 Rows.fnGrowsRow.domain false) (Rows.fnGrowsSpec.post enc Try.prog Try.f3 false true false false) := by
  refine returnsInHanded_of_change (C := Try.checked) own started (by kernel_rfl) Try.func3
    (ChangeSpec.witness6 (enc := enc) (C := Try.checked) false ⟨#[], #[.slice none 0 0], []⟩ 8 (by kernel_rfl) (by kernel_rfl) (by kernel_rfl) (by kernel_rfl)) ?_
  intro W base args ds gs before hval0 hW hcnd _
  have hval : ∀ (j : Nat) t v, Try.f3.params[j]? = some t → args[j]? = some v → Value.okWide Try.prog W .any base t v := hval0
  have hW' := hW
  obtain ⟨p, q, hA0, hV, rfl, hfz, hnd⟩ := hW
  have hA : DataW.TrodAll enc Try.prog W 0 (fun _ => true) true Try.f3.params.toList args.toList ds p := hA0
  rw [Try.params3] at hA hval
  obtain ⟨v0, vs0, d0, ds0, p0, q0, hargs, rfl, rfl, h0, r0⟩ := trodAll_cons hA
  obtain ⟨rfl, rfl, rfl⟩ := trodAll_nil r0
  obtain rfl : args = #[v0] := by cases args; simp_all
  obtain ⟨rfl, rfl⟩ := trodVars_none hV
  have k0 := h0
  have lt0 : ∀ x ∈ p0, x.block < W.heap.size := by obtain ⟨m, hm⟩ := k0; exact DataW.trod_lt m _ _ _ hm
  obtain ⟨A0, L0, C0, rfl⟩ := okWide_slice Try.underlying22 (hval 0 22 v0 rfl rfl)
  obtain ⟨fuel0, hf0⟩ := h0
  obtain ⟨a0, cap0, z0, ea0, w0, l0, b0⟩ := rd_ints (v := .slice A0 L0 C0) Try.underlying22 Try.underlying5 (by kernel_rfl) (by simpa [Value.cells] using hf0)
  simp only [Value.slice.injEq] at ea0
  obtain ⟨xa0, ya0, ta0⟩ := ea0
  replace xa0 := xa0.symm
  replace ta0 := ta0.symm
  subst xa0
  subst ta0
  subst ya0
  clear hA0 hval0
  refine (walk a0 cap0 z0 W w0 l0 b0).mono fun e W' ⟨he, bel⟩ => ?_
  subst he
  exact ⟨_, rfl, _, _, _, [], _, [], hW', trodAll_mk1 (shut_bool Try.underlying4 _), (trodAll_cons_mk (Below.trod laidOut (by kernel_rfl) (of_decide_eq_true (by kernel_rfl)) k0 bel lt0) trodAll_mk0), rfl, bel.frame _, fun h => by cases h⟩

theorem over : Rows.fnGrowsRow.holds Try.pinned (OpenSpec.ofChange Rows.fnGrowsSpec) :=
  OpenClaim.holds_of_wide 3 Try.f3 rfl rfl rfl rfl rfl rfl rfl ⟨rfl, rfl, rfl, rfl, rfl⟩ rfl rfl rfl rfl rfl (by kernel_rfl) Try.func3 (by kernel_rfl)
    (of_decide_eq_true (by kernel_rfl)) (by unfold Func.isWrapper; first | (rw [if_pos (by decide +kernel)]; kernel_rfl) | (rw [if_neg (by decide +kernel)]; exact ⟨rfl, rfl⟩))
    (fun os started H enc _ => lifted os started H enc)

theorem proved : Rows.FnGrowsSaid := over
#print axioms proved
end Go.Proofs.Ytcebpfhokacccaa.fnGrows

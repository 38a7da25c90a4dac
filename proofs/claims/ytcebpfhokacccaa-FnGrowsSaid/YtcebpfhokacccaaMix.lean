/-
  The walks of mixed and MixIn, and of Constant.
-/
import Derived.Test.YtcebpfhokacccaaStart
import Derived.Test.YtcebpfhokacccaaArr
import Derived.Test.YtcebpfhokacccaaTurn
import Derived.Test.YtcebpfhokacccaaMixPlain
import Derived.StillTailTactics
import Derived.Outline
namespace Go.Proofs.Ytcebpfhokacccaa
set_option linter.unusedVariables false
open Go.RowKit

theorem list8 {l : List Int} (h : l.length = 8) : ∃ a0 a1 a2 a3 a4 a5 a6 a7, l = [a0, a1, a2, a3, a4, a5, a6, a7] := by
  match l, h with
  | [a0, a1, a2, a3, a4, a5, a6, a7], _ => exact ⟨a0, a1, a2, a3, a4, a5, a6, a7, rfl⟩
theorem list16 {l : List Int} (h : l.length = 16) : ∃ a0 a1 a2 a3 a4 a5 a6 a7 b0 b1 b2 b3 b4 b5 b6 b7, l = [a0, a1, a2, a3, a4, a5, a6, a7, b0, b1, b2, b3, b4, b5, b6, b7] := by
  match l, h with
  | [a0, a1, a2, a3, a4, a5, a6, a7, b0, b1, b2, b3, b4, b5, b6, b7], _ => exact ⟨a0, a1, a2, a3, a4, a5, a6, a7, b0, b1, b2, b3, b4, b5, b6, b7, rfl⟩

theorem calls_same {P : Program} {f : FuncId} {args : Array Value} {w : World} {v : Value} (h : Calls P f args w fun e w' => e = .returned v ∧ w = w') : Calls P f args w fun e w' => e = .returned v ∧ w' = w :=
  h.mono fun _ _ h => ⟨h.1, h.2.symm⟩
theorem ints_cell {w : World} {N : Nat} {t : TypeId} {k : IntKind} {zs : List Int} (h : Arr w N t (ints k zs)) {j : Nat} (hj : j < zs.length) : w.cell? ⟨N, j, none⟩ = some (.int k (wd zs j)) := by
  rw [h.cell (by rw [length_ints]; exact hj), ints_get, wd_get]
theorem ints_set (k : IntKind) (zs : List Int) (i : Nat) (x : Int) : (ints k zs).set i (.int k x) = ints k (zs.set i x) := by
  unfold ints; exact List.map_set.symm
theorem wd_set_same (l : List Int) (i : Nat) (x : Int) (h : i < l.length) : wd (l.set i x) i = x := by simp [wd, h]
theorem wd_set_other (l : List Int) (i j : Nat) (x : Int) (h : i ≠ j) : wd (l.set i x) j = wd l j := by simp [wd, h]
theorem below_drew {B : Nat} {a w : World} (h : Below B a w) : Below B a w.drew := h.trans ⟨rfl, rfl, rfl, Nat.le_refl _, fun _ _ => rfl⟩
theorem i_Constant (k : Int) (h0 : 0 ≤ k) (hk : k ≤ 1000) (w : World) :
    Calls Try.prog 64 #[.int .i64 k] w fun e w' => e = .returned (.int .u32 (cst k)) ∧ w = w' := by
  go_enter Try.func64, Try.ntmps64
  go_wp2
  go_ret
  exact ⟨ret_int (by unfold cst; omega), rfl⟩
theorem info_chain : (Try.prog.info? 81).map (·.size) = some 8 := by kernel_rfl
set_option maxRecDepth 100000 in
set_option maxHeartbeats 2000000 in
theorem i_mixed (s b : List Int) (hs : s.length = 8) (hb : b.length = 16) (w : World) :
    Calls Try.prog 59 #[chainV s, chainV b] w fun e w' => e = .returned (chainV (mixL s b)) ∧ Below w.heap.size w w' := by
  obtain ⟨s0, s1, s2, s3, s4, s5, s6, s7, rfl⟩ := list8 hs
  obtain ⟨b0, b1, b2, b3, b4, b5, b6, b7, b8, b9, b10, b11, b12, b13, b14, b15, rfl⟩ := list16 hb
  clear hs hb
  obtain ⟨S, hS⟩ : ∃ S, [s0, s1, s2, s3, s4, s5, s6, s7] = S := ⟨_, rfl⟩
  obtain ⟨B, hB⟩ : ∃ B, [b0, b1, b2, b3, b4, b5, b6, b7, b8, b9, b10, b11, b12, b13, b14, b15] = B := ⟨_, rfl⟩
  have e1 : chainV [s0, s1, s2, s3, s4, s5, s6, s7] = .agg #[.int .u32 s0, .int .u32 s1, .int .u32 s2, .int .u32 s3, .int .u32 s4, .int .u32 s5, .int .u32 s6, .int .u32 s7] := rfl
  have e2 : chainV [b0, b1, b2, b3, b4, b5, b6, b7, b8, b9, b10, b11, b12, b13, b14, b15] = .agg #[.int .u32 b0, .int .u32 b1, .int .u32 b2, .int .u32 b3, .int .u32 b4, .int .u32 b5, .int .u32 b6, .int .u32 b7, .int .u32 b8, .int .u32 b9, .int .u32 b10, .int .u32 b11, .int .u32 b12, .int .u32 b13, .int .u32 b14, .int .u32 b15] := rfl
  rw [e1, e2, hS, hB]
  replace hS := hide hS
  replace hB := hide hB
  clear e1 e2
  go_enter Try.func59, Try.ntmps59
  go_wp2
  have hS0 := hS
  go_loopw [10] (fun c wr => ∃ r : Nat, r ≤ 12 ∧ c = .int .i64 (r : Int) ∧ Below w.heap.size w wr ∧ Arr wr w.heap.size 81 (ints .u32 S) ∧ Arr wr (w.heap.size + 1) 86 (ints .u32 B) ∧ Arr wr (w.heap.size + 1 + 1) 81 (ints .u32 [0, 0, 0, 0, 0, 0, 0, 0]) ∧ Arr wr (w.heap.size + 1 + 1 + 1) 81 (ints .u32 (mixTo B S r))) (fun c _ => 12 - (intOf c).toNat)
  case atStart =>
    refine ⟨0, by omega, rfl, ?_, ?_, ?_, ?_, ?_⟩
    · repeat (first | exact Below.refl _ _ | refine Below.alloc ?_ (by simp; try omega) _)
    · rw [← hS.out]; exact (((Arr.new_ rfl (ints .u32 [_, _, _, _, _, _, _, _]) _).alloc _).alloc _).alloc _
    · rw [← hB.out]; exact ((Arr.new_ (by simp) (ints .u32 [_, _, _, _, _, _, _, _, _, _, _, _, _, _, _, _]) _).alloc _).alloc _
    · exact (Arr.new_ (by simp) (ints .u32 [_, _, _, _, _, _, _, _]) _).alloc _
    · rw [← hS.out]; exact Arr.new_ (by simp) (ints .u32 [_, _, _, _, _, _, _, _]) _
  case round =>
    obtain ⟨r, hr, rfl, hb, h1, h2, h3, h4⟩ := hrel
    have HB := hide hb
    have H1 := hide h1
    have H2 := hide h2
    have H3 := hide h3
    have H4 := hide h4
    clear hb h1 h2 h3 h4
    by_cases hlt : r < 12
    · have hlt' : (r : Int) < 12 := by omega
      go_wp2
      go_loopw [13] (fun c wx => ∃ i : Nat, i ≤ 8 ∧ c = .int .i64 (i : Int) ∧ Below w.heap.size w wx ∧ Arr wx w.heap.size 81 (ints .u32 S) ∧ Arr wx (w.heap.size + 1) 86 (ints .u32 B) ∧ Arr wx (w.heap.size + 1 + 1) 81 (ints .u32 [0, 0, 0, 0, 0, 0, 0, 0]) ∧ Arr wx (w.heap.size + 1 + 1 + 1) 81 (ints .u32 (mixRow B (mixTo B S r) r i))) (fun c _ => 8 - (intOf c).toNat)
      case atStart => exact ⟨0, by omega, rfl, HB.out, H1.out, H2.out, H3.out, H4.out⟩
      case round =>
        clear HB H1 H2 H3 H4
        obtain ⟨i, hi, rfl, hb, h1, h2, h3, h4⟩ := hrel
        have HB := hide hb
        have H1 := hide h1
        have H2 := hide h2
        have H3 := hide h3
        have H4 := hide h4
        clear hb h1 h2 h3 h4
        by_cases hi8 : i < 8
        · have hi8' : (i : Int) < 8 := by omega
          obtain ⟨i1, hi1⟩ : ∃ i1, (i + 1) % 8 = i1 := ⟨_, rfl⟩
          obtain ⟨i3, hi3⟩ : ∃ i3, (i + 3) % 8 = i3 := ⟨_, rfl⟩
          obtain ⟨j, hj⟩ : ∃ j, (8 * r + 5 * i + r / 2) % 16 = j := ⟨_, rfl⟩
          obtain ⟨q, hq⟩ : ∃ q, 5 + (i + 3 * r) % 23 = q := ⟨_, rfl⟩
          have l1 : i1 < 8 := by omega
          have l3 : i3 < 8 := by omega
          have lj : j < 16 := by omega
          have m1 : ((i : Int) + 1).tmod 8 = (i1 : Int) := by rw [Int.tmod_eq_emod_of_nonneg (by omega)]; omega
          have mj : (8 * (r : Int) + 5 * (i : Int) + (r : Int) / 2).tmod 16 = (j : Int) := by rw [Int.tmod_eq_emod_of_nonneg (by omega)]; omega
          have md : (r : Int).tdiv 2 = (r : Int) / 2 := Int.tdiv_eq_ediv_of_nonneg (by omega)
          have HL := hide (show (mixRow B (mixTo B S r) r i).length = 8 by rw [length_mixRow, length_mixTo, ← hS.out]; rfl)
          have HLB := hide (show B.length = 16 by rw [← hB.out]; rfl)
          obtain ⟨x0, hx0⟩ : ∃ x, wd (mixRow B (mixTo B S r) r i) i = x := ⟨_, rfl⟩
          obtain ⟨x1, hx1⟩ : ∃ x, wd (mixRow B (mixTo B S r) r i) i1 = x := ⟨_, rfl⟩
          obtain ⟨x3, hx3⟩ : ∃ x, wd (mixRow B (mixTo B S r) r i) i3 = x := ⟨_, rfl⟩
          obtain ⟨y, hy⟩ : ∃ y, wd B j = y := ⟨_, rfl⟩
          have c0 := ints_cell H4.out (j := i) (by rw [HL.out]; exact hi8)
          have c1 := ints_cell H4.out (j := i1) (by rw [HL.out]; exact l1)
          have c3 := ints_cell H4.out (j := i3) (by rw [HL.out]; exact l3)
          have cj := ints_cell H2.out (j := j) (by rw [HLB.out]; exact lj)
          rw [hx0] at c0
          rw [hx1] at c1
          rw [hx3] at c3
          rw [hy] at cj
          have f0 := H4.out.free i
          replace hx0 := hide hx0
          replace hx1 := hide hx1
          replace hx3 := hide hx3
          replace hy := hide hy
          replace hi1 := hide hi1
          replace hi3 := hide hi3
          replace hj := hide hj
          replace hq := hide hq
          have k1 : (i1 : Int) < 8 := by omega
          have k3 : (i3 : Int) < 8 := by omega
          have kj : (j : Int) < 16 := by omega
          have w1 : IntKind.i64.wrap (8 * (r : Int)) = 8 * (r : Int) := IntWalk.i64_in _ (by omega)
          have w2 : IntKind.i64.wrap (8 * (r : Int) + (i : Int)) = 8 * (r : Int) + (i : Int) := IntWalk.i64_in _ (by omega)
          have w3 : IntKind.i64.wrap ((i : Int) + 1) = (i : Int) + 1 := IntWalk.i64_in _ (by omega)
          have w5 : IntKind.i64.wrap (5 * (i : Int)) = 5 * (i : Int) := IntWalk.i64_in _ (by omega)
          have w6 : IntKind.i64.wrap (8 * (r : Int) + 5 * (i : Int)) = 8 * (r : Int) + 5 * (i : Int) := IntWalk.i64_in _ (by omega)
          have w7 : IntKind.i64.wrap ((r : Int) / 2) = (r : Int) / 2 := IntWalk.i64_in _ (by omega)
          have w8 : IntKind.i64.wrap (8 * (r : Int) + 5 * (i : Int) + (r : Int) / 2) = 8 * (r : Int) + 5 * (i : Int) + (r : Int) / 2 := IntWalk.i64_in _ (by omega)
          have w9 : IntKind.i64.wrap (i1 : Int) = (i1 : Int) := IntWalk.i64_in _ (by omega)
          have w10 : IntKind.i64.wrap (j : Int) = (j : Int) := IntWalk.i64_in _ (by omega)
          obtain ⟨Y, hY⟩ : ∃ Y, IntKind.u32.wrap (x0 + IntKind.u32.wrap (cst (8 * (r : Int) + (i : Int)) + bits .xor .u32 x1 y)) = Y := ⟨_, rfl⟩
          have C0 := hide (calls_same (i_Constant (8 * (r : Int) + (i : Int)) (by omega) (by omega) wr.drew))
          go_wp2
          refine wp_region_still_tail 28 (by kernel_rfl) (by kernel_rfl) ?_
          simp only [List.take_succ_cons, List.take_zero, List.drop_succ_cons, List.drop_zero]
          repeat still_step
          still_call C0.out
          repeat still_step
          refine wpStill_nil ?_
          clear C0 w1 w2 w3 w5 w6 w7 w8 w9 w10 c1 cj m1 mj md k1 kj l1 lj
          replace hY := hide hY
          change wpList _ _ _ _ _ wr.drew
          go_wp2
          have A1 := hide (H1.out.setCell (p := ⟨w.heap.size + 1 + 1 + 1, i, none⟩) (by simp; omega) (.int .u32 Y)).drew
          have A2 := hide (H2.out.setCell (p := ⟨w.heap.size + 1 + 1 + 1, i, none⟩) (by simp; omega) (.int .u32 Y)).drew
          have A3 := hide (H3.out.setCell (p := ⟨w.heap.size + 1 + 1 + 1, i, none⟩) (by simp) (.int .u32 Y)).drew
          have A4 := hide (H4.out.set_ i (.int .u32 Y)).drew
          have AB := hide (below_drew (HB.out.setCell (p := ⟨w.heap.size + 1 + 1 + 1, i, none⟩) (by simp; omega) (.int .u32 Y)))
          obtain ⟨w2, hw2⟩ : ∃ w2, (wr.setCell ⟨w.heap.size + 1 + 1 + 1, i, none⟩ (.int .u32 Y)).drew = w2 := ⟨_, rfl⟩
          rw [hw2] at A1 A2 A3 A4 AB ⊢
          clear hw2 H1 H2 H3 H4 HB c0 c3 f0
          replace A4 := hide (show Arr w2 (w.heap.size + 1 + 1 + 1) 81 (ints .u32 ((mixRow B (mixTo B S r) r i).set i Y)) by rw [← ints_set]; exact A4.out)
          have c0 := ints_cell A4.out (j := i) (by rw [List.length_set, HL.out]; exact hi8)
          have c3 := ints_cell A4.out (j := i3) (by rw [List.length_set, HL.out]; exact l3)
          rw [wd_set_same _ _ _ (by rw [HL.out]; exact hi8)] at c0
          rw [wd_set_other _ _ _ _ (by have := hi3.out; omega), hx3.out] at c3
          have f0 := A4.out.free i
          obtain ⟨q0, hq0⟩ : ∃ q0, (i + 3 * r) % 23 = q0 := ⟨_, rfl⟩
          have lq : q0 < 23 := by omega
          have YB : 0 ≤ Y ∧ Y ≤ 4294967295 := by rw [← hY.out]; simp [IntKind.wrap, IntKind.bits, IntKind.signed]; omega
          obtain ⟨T, hT⟩ : ∃ T : Int, ((rotl Y.toNat ((5 + (q0 : Int)) % 32).toNat : Nat) : Int) = T := ⟨_, rfl⟩
          have C0 := calls_same (i_Turn Y (5 + (q0 : Int)) YB.1 YB.2 w2.drew)
          rw [hT] at C0
          replace C0 := hide C0
          replace hT := hide hT
          replace hq0 := hide hq0
          have mq : ((i : Int) + 3 * (r : Int)).tmod 23 = (q0 : Int) := by rw [Int.tmod_eq_emod_of_nonneg (by omega)]; have := hq0.out; omega
          have m3 : ((i : Int) + 3).tmod 8 = (i3 : Int) := by rw [Int.tmod_eq_emod_of_nonneg (by omega)]; have := hi3.out; omega
          have w1 : IntKind.i64.wrap (3 * (r : Int)) = 3 * (r : Int) := IntWalk.i64_in _ (by omega)
          have w2 : IntKind.i64.wrap ((i : Int) + 3 * (r : Int)) = (i : Int) + 3 * (r : Int) := IntWalk.i64_in _ (by omega)
          have w3 : IntKind.i64.wrap ((i : Int) + 3) = (i : Int) + 3 := IntWalk.i64_in _ (by omega)
          have w4 : IntKind.i64.wrap (q0 : Int) = (q0 : Int) := IntWalk.i64_in _ (by omega)
          have w5 : IntKind.i64.wrap (5 + (q0 : Int)) = 5 + (q0 : Int) := IntWalk.i64_in _ (by omega)
          have w6 : IntKind.i64.wrap (i3 : Int) = (i3 : Int) := IntWalk.i64_in _ (by omega)
          clear YB
          refine wp_region_still_tail 18 (by kernel_rfl) (by kernel_rfl) ?_
          simp only [List.take_succ_cons, List.take_zero, List.drop_succ_cons, List.drop_zero]
          repeat still_step
          still_call C0.out
          repeat still_step
          refine wpStill_nil ?_
          clear C0 w1 w2 w3 w4 w5 w6 mq m3 k3
          change wpList _ _ _ _ _ (World.drew _)
          go_wp2
          go_roundw
          case rel =>
            refine ⟨i + 1, by omega, by go_num, ?_, ?_, ?_, ?_, ?_⟩
            · exact below_drew (AB.out.setCell (by simp; omega) _)
            · exact (A1.out.setCell (by simp; omega) _).drew
            · exact (A2.out.setCell (by simp; omega) _).drew
            · exact (A3.out.setCell (by simp) _).drew
            · have := A4.out.set_ i (.int .u32 (bits .xor .u32 T x3))
              rw [ints_set, List.set_set] at this
              have e : mixRow B (mixTo B S r) r (i + 1) = (mixRow B (mixTo B S r) r i).set i (bits .xor .u32 T x3) := by
                have hr1 : ((5 + (q0 : Int)) % 32).toNat = 5 + (i + 3 * r) % 23 := by rw [hq0.out]; omega
                show mixStep _ _ _ _ = _
                rw [mixStep, mixW, mixY, hi1.out, hi3.out, hj.out, hx0.out, hx1.out, hx3.out, hy.out, ← hT.out, hr1, ← hY.out]
                simp only [IntKind.wrap, IntKind.bits, IntKind.signed]
                rfl
              rw [e]
              exact this.drew
          case measure => simp [intOf]; omega
        · obtain rfl : i = 8 := by omega
          go_wp2
          go_roundw
          case rel => exact ⟨r + 1, by omega, by go_num, HB.out, H1.out, H2.out, H3.out, H4.out⟩
          case measure => simp [intOf]; omega
    · have hge : 12 ≤ r := by omega
      have hge' : ¬ (r : Int) < 12 := by omega
      obtain ⟨M, hM⟩ : ∃ M, mixTo B S r = M := ⟨_, rfl⟩
      have HM := hide (show M.length = 8 by rw [← hM, length_mixTo, ← hS.out]; rfl)
      have HS := hide (show S.length = 8 by rw [← hS.out]; rfl)
      rw [hM] at H4
      replace hM := hide (show mixTo B S 12 = M by rw [← hM, show r = 12 by omega])
      go_wp2
      go_loopw [64] (fun c wx => ∃ i : Nat, i ≤ 8 ∧ c = .int .i64 (i : Int) ∧ Below w.heap.size w wx ∧ Arr wx w.heap.size 81 (ints .u32 S) ∧ Arr wx (w.heap.size + 1 + 1) 81 (ints .u32 [0, 0, 0, 0, 0, 0, 0, 0]) ∧ Arr wx (w.heap.size + 1 + 1 + 1) 81 (ints .u32 (addTo S M i))) (fun c _ => 8 - (intOf c).toNat)
      case atStart => exact ⟨0, by omega, rfl, HB.out, H1.out, H3.out, by rw [addTo_zero _ _ HM.out]; exact H4.out⟩
      case round =>
        clear HB H1 H2 H3 H4
        obtain ⟨i, hi, rfl, hb, h1, h3, h4⟩ := hrel
        have HB := hide hb
        have H1 := hide h1
        have H3 := hide h3
        have H4 := hide h4
        clear hb h1 h3 h4
        by_cases hi8 : i < 8
        · have hi8' : (i : Int) < 8 := by omega
          obtain ⟨x0, hx0⟩ : ∃ x, wd M i = x := ⟨_, rfl⟩
          obtain ⟨x1, hx1⟩ : ∃ x, wd S i = x := ⟨_, rfl⟩
          have c0 := ints_cell H4.out (j := i) (by rw [length_addTo]; exact hi8)
          have c1 := ints_cell H1.out (j := i) (by rw [HS.out]; exact hi8)
          rw [addTo_wd _ _ _ hi8, hx0] at c0
          rw [hx1] at c1
          have f0 := H4.out.free i
          replace hx0 := hide hx0
          replace hx1 := hide hx1
          go_wp2
          refine wp_region_still_tail 8 (by kernel_rfl) (by kernel_rfl) ?_
          simp only [List.take_succ_cons, List.take_zero, List.drop_succ_cons, List.drop_zero]
          repeat still_step
          refine wpStill_nil ?_
          change wpList _ _ _ _ _ (World.drew _)
          go_wp2
          go_roundw
          case rel =>
            refine ⟨i + 1, by omega, by go_num, ?_, ?_, ?_, ?_⟩
            · exact below_drew (HB.out.setCell (by simp; omega) _)
            · exact (H1.out.setCell (by simp; omega) _).drew
            · exact (H3.out.setCell (by simp) _).drew
            · have := H4.out.set_ i (.int .u32 ((x0 + x1) % 4294967296))
              rw [ints_set, ← hx0.out, ← hx1.out, addTo_succ _ _ _ hi8, hx0.out, hx1.out] at this
              exact this.drew
          case measure => simp [intOf]; omega
        · obtain rfl : i = 8 := by omega
          have HL := hide (show mixL S B = addTo S M 8 by rw [← hM.out]; rfl)
          obtain ⟨L, hL⟩ : ∃ L, addTo S M 8 = L := ⟨_, rfl⟩
          have HN := hide (show L.length = 8 by rw [← hL, length_addTo])
          rw [hL] at H4 HL
          clear hL
          go_wp2_with (first | (refine wpList_load_arr rfl 81 (.tmp 5) rfl (w.heap.size + 1 + 1 + 1) rfl 81 (ints .u32 L) 8 73 H4.out Try.underlying81 (by rw [length_ints, HN.out]; exact info_chain) ?_) | (refine wpList_store_arr rfl 81 (.tmp 4) (.tmp 76) rfl (w.heap.size + 1 + 1) (ints .u32 L) rfl rfl 81 _ H3.out (by rw [length_ints, HN.out]; exact info_chain) (by rw [length_ints, length_ints, HN.out]; rfl) (ints_one .u32 L) ?_))
          refine bodyPost_ret (results_arr rfl rfl (H3.out.setRow (ints .u32 L)) Try.underlying81 (by rw [length_ints, HN.out]; exact info_chain)) rfl ⟨?_, ?_⟩
          · rw [HL.out]; rfl
          · exact below_setRow HB.out (by omega) _
end Go.Proofs.Ytcebpfhokacccaa

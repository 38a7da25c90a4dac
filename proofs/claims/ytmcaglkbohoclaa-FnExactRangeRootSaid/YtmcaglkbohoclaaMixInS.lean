/-
  The walk of the reference's MixIn.
-/
import Derived.Test.YtmcaglkbohoclaaMixIn
import Derived.Deep.RegionHeld3
namespace Go.Proofs.Ytmcaglkbohoclaa
set_option linter.unusedVariables false
open Go.RowKit

theorem infoU32m : (Try.prog.info? 80).map (fun i => (i.zero, i.size, i.bytes)) = some (some (.int .u32 0), 1, 4) := by kernel_rfl
theorem own_cell {w : World} {B C : Nat} {e : TypeId} {g n c : Nat} {k : IntKind} {zs : List Int} (h : Own w B C e (.slice (some ⟨g, 0, none⟩) n c) (ints k zs)) {j : Nat} (hj : j < zs.length) : w.cell? ⟨g, j, none⟩ = some (.int k (wd zs j)) := by
  rw [(h.at3 (by rw [length_ints]; exact hj)).2.2.2.1, ints_get, wd_get]
theorem rd_cell {w : World} {L H : Nat} {ad : Addr} {k : IntKind} {zs : List Int} (h : Rd w L H (some ad) (ints k zs)) {j : Nat} (hj : j < zs.length) : w.cell? (ad.add j) = some (.int k (wd zs j)) := by
  refine h.cells j _ ?_
  rw [List.getElem?_eq_getElem (by rw [length_ints]; exact hj), ints_get, wd_get]
theorem own_set8 {w : World} {B C : Nat} {e : TypeId} {g c n : Nat} {k : IntKind} {zs : List Int} (hz : zs.length = n) (h : Own w B C e (.slice (some ⟨g, 0, none⟩) n c) (ints k zs)) {i : Nat} (hi : i < n) (x : Int) :
    Own (w.setCell ⟨g, i, none⟩ (.int k x)) B C e (.slice (some ⟨g, 0, none⟩) n c) (ints k (zs.set i x)) := by
  have hl : (ints k zs).length = n := by rw [length_ints, hz]
  have := Own.set_ (cap := c) (by rw [hl]; exact h) (show i < (ints k zs).length by rw [hl]; exact hi) (.int k x)
  rw [List.length_set, hl, ints_set] at this
  exact this
theorem keepD {w w1 : World} {D : Nat} {a b : Addr} {u v : Value} (ha : a.block < D) (hb : b.block < D) (h : w.cell? a = some u ∧ w.cell? b = some v) (hB : Below D w w1) : w1.cell? a = some u ∧ w1.cell? b = some v :=
  ⟨(hB.cell ha).trans h.1, (hB.cell hb).trans h.2⟩
set_option maxRecDepth 100000 in
set_option maxHeartbeats 4000000 in
theorem s_MixIn_in (s b : List Int) (hs : s.length = 8) (hb : b.length = 16) (A A' : Option Addr) (c c' L H L' H' : Nat) (w : World) (h : Rd w L H A (ints .u32 s)) (h' : Rd w L' H' A' (ints .u32 b)) :
    Calls Try.prog 72 #[.slice A 8 c, .slice A' 16 c'] w fun e w' => ∃ v, e = .returned (.tuple #[v, .bool true]) ∧ Below w.heap.size w w' ∧ Own w' w.heap.size w'.heap.size 80 v (ints .u32 (mixL s b)) := by
  obtain ⟨ad, rfl, -⟩ := h (by rw [length_ints, hs]; decide)
  obtain ⟨ad', rfl, -⟩ := h' (by rw [length_ints, hb]; decide)
  have R1 := hide h.top
  have R2 := hide h'.top
  have HS := hide hs
  have HB := hide hb
  clear h h' hs hb
  go_enter Try.func72, Try.ntmps72
  go_wp2_with (at_builtin; refine wpList_app rfl _ _ _ rfl 80 (.int .u32 0) 4 Try.underlying71 infoU32m rfl w.heap.size _ _ rfl (Own.made #[] _ _ (Nat.le_refl _) (by simp [maxLen])).top ad 8 c (ints .u32 s) rfl (by rw [length_ints, HS.out]) (R1.out.alloc _).cells (ints_one .u32 s) (by simp) (by omega) (by simp) ?_; intro v' w1 hown1 hb1 _; have O1 := hide hown1; have B1 := hide (((Below.refl _ _).alloc (Nat.le_refl _) _).trans hb1); clear hown1 hb1)
  obtain ⟨A1, cap, rfl, ho⟩ := O1.out.shape
  obtain ⟨g, rfl, hg1, hg2, -⟩ := ho.at2 (k := 0) (by simp [ints]; have := HS.out; omega)
  have HS' := hide (show (ints .u32 s).length = 8 by rw [length_ints, HS.out])
  simp only [List.nil_append] at ho ⊢
  rw [HS'.out] at ho ⊢
  have O2 := hide ho
  clear ho O1 HS'
  obtain ⟨C, hC⟩ : ∃ C, w1.heap.size = C := ⟨_, rfl⟩
  rw [hC] at O2 hg2
  clear hC
  go_loopw [7] (fun q wr => ∃ r : Nat, r ≤ 12 ∧ q = .int .i64 (r : Int) ∧ Below w.heap.size w wr ∧ Own wr w.heap.size C 80 (.slice (some ⟨g, 0, none⟩) 8 cap) (ints .u32 (mixTo b s r))) (fun q _ => 12 - (intOf q).toNat)
  case atStart => exact ⟨0, by omega, rfl, B1.out, O2.out⟩
  case round =>
    clear B1 O2
    obtain ⟨r, hr, rfl, hb, ho⟩ := hrel
    have B1 := hide hb
    have O1 := hide ho
    clear hb ho
    by_cases hlt : r < 12
    · have hlt' : (r : Int) < 12 := by omega
      go_wp2
      go_loopw [8] (fun q wx => ∃ i : Nat, i ≤ 8 ∧ q = .int .i64 (i : Int) ∧ Below w.heap.size w wx ∧ Own wx w.heap.size C 80 (.slice (some ⟨g, 0, none⟩) 8 cap) (ints .u32 (mixRow b (mixTo b s r) r i))) (fun q _ => 8 - (intOf q).toNat)
      case atStart => exact ⟨0, by omega, rfl, B1.out, O1.out⟩
      case round =>
        clear B1 O1
        obtain ⟨i, hi, rfl, hb, ho⟩ := hrel
        have B1 := hide hb
        have O1 := hide ho
        clear hb ho
        by_cases hi8 : i < 8
        · have hi8' : (i : Int) < 8 := by omega
          obtain ⟨i1, hi1⟩ : ∃ i1, (i + 1) % 8 = i1 := ⟨_, rfl⟩
          obtain ⟨i3, hi3⟩ : ∃ i3, (i + 3) % 8 = i3 := ⟨_, rfl⟩
          obtain ⟨j, hj⟩ : ∃ j, (8 * r + 5 * i + r / 2) % 16 = j := ⟨_, rfl⟩
          obtain ⟨q0, hq0⟩ : ∃ q0, (i + 3 * r) % 23 = q0 := ⟨_, rfl⟩
          have l1 : i1 < 8 := by omega
          have l3 : i3 < 8 := by omega
          have lj : j < 16 := by omega
          have lq : q0 < 23 := by omega
          have m1 : ((i : Int) + 1).tmod 8 = (i1 : Int) := by rw [Int.tmod_eq_emod_of_nonneg (by omega)]; omega
          have m3 : ((i : Int) + 3).tmod 8 = (i3 : Int) := by rw [Int.tmod_eq_emod_of_nonneg (by omega)]; omega
          have mj : (8 * (r : Int) + 5 * (i : Int) + (r : Int) / 2).tmod 16 = (j : Int) := by rw [Int.tmod_eq_emod_of_nonneg (by omega)]; omega
          have mq : ((i : Int) + 3 * (r : Int)).tmod 23 = (q0 : Int) := by rw [Int.tmod_eq_emod_of_nonneg (by omega)]; omega
          have md : (r : Int).tdiv 2 = (r : Int) / 2 := Int.tdiv_eq_ediv_of_nonneg (by omega)
          have HL := hide (show (mixRow b (mixTo b s r) r i).length = 8 by rw [length_mixRow, length_mixTo, HS.out])
          obtain ⟨x0, hx0⟩ : ∃ x, wd (mixRow b (mixTo b s r) r i) i = x := ⟨_, rfl⟩
          obtain ⟨x1, hx1⟩ : ∃ x, wd (mixRow b (mixTo b s r) r i) i1 = x := ⟨_, rfl⟩
          obtain ⟨x3, hx3⟩ : ∃ x, wd (mixRow b (mixTo b s r) r i) i3 = x := ⟨_, rfl⟩
          obtain ⟨y, hy⟩ : ∃ y, wd b j = y := ⟨_, rfl⟩
          have c0 := own_cell O1.out (j := i) (by rw [HL.out]; exact hi8)
          have c1 := own_cell O1.out (j := i1) (by rw [HL.out]; exact l1)
          have c3 := own_cell O1.out (j := i3) (by rw [HL.out]; exact l3)
          have cj := rd_cell (R2.out.below B1.out) (j := j) (by rw [HB.out]; exact lj)
          have f0 := (O1.out.at3 (k := i) (by rw [length_ints, HL.out]; exact hi8)).2.2.2.2
          rw [hx0] at c0
          rw [hx1] at c1
          rw [hx3] at c3
          rw [hy] at cj
          replace hx0 := hide hx0
          replace hx1 := hide hx1
          replace hx3 := hide hx3
          replace hy := hide hy
          replace hi1 := hide hi1
          replace hi3 := hide hi3
          replace hj := hide hj
          replace hq0 := hide hq0
          have k1 : (i1 : Int) < 8 := by omega
          have k3 : (i3 : Int) < 8 := by omega
          have kj : (j : Int) < 16 := by omega
          have w1 : IntKind.i64.wrap (8 * (r : Int)) = 8 * (r : Int) := IntWalk.i64_in _ (by omega)
          have w2 : IntKind.i64.wrap (8 * (r : Int) + (i : Int)) = 8 * (r : Int) + (i : Int) := IntWalk.i64_in _ (by omega)
          have w3 : IntKind.i64.wrap ((i : Int) + 1) = (i : Int) + 1 := IntWalk.i64_in _ (by omega)
          have w5 : IntKind.i64.wrap (5 * (i : Int)) = 5 * (i : Int) := IntWalk.i64_in _ (by omega)
          have w6 : IntKind.i64.wrap (8 * (r : Int) + 5 * (i : Int)) = 8 * (r : Int) + 5 * (i : Int) := IntWalk.i64_in _ (by omega)
          have w7 : IntKind.i64.wrap ((r : Int) / 2) = (r : Int) / 2 := IntWalk.i64_in _ (by omega)
          have w8 : IntKind.i64.wrap (8 * (r : Int) + 5 * (i : Int) + (r : Int) / 2) = 8 * (r : Int) + 5 * (i : Int) + (r : Int) / 2 := IntWalk.i64_in _ (by omega)
          have w9 : IntKind.i64.wrap (i1 : Int) = (i1 : Int) := IntWalk.i64_in _ (by omega)
          have w10 : IntKind.i64.wrap (j : Int) = (j : Int) := IntWalk.i64_in _ (by omega)
          go_wp2
          go_still (by kernel_rfl)
          change Exit.then _ _ .normal _ wr.drew
          obtain ⟨wy, hwy⟩ : ∃ x, wr.drew = x := ⟨_, rfl⟩
          rw [hwy]
          replace c0 : wy.cell? ⟨g, i, none⟩ = some (.int .u32 x0) := by rw [← hwy]; exact c0
          replace c3 : wy.cell? ⟨g, i3, none⟩ = some (.int .u32 x3) := by rw [← hwy]; exact c3
          replace f0 : wy.frozen? ⟨g, i, none⟩ = false := by rw [← hwy]; exact f0
          replace B1 := hide (show Below w.heap.size w wy by rw [← hwy]; exact below_drew B1.out)
          replace O1 := hide (show Own wy w.heap.size C 80 (.slice (some ⟨g, 0, none⟩) 8 cap) (ints .u32 (mixRow b (mixTo b s r) r i)) by rw [← hwy]; exact O1.out.drew)
          clear hwy
          clear w3 w5 w6 w7 w8 w9 w10 c1 cj m1 mj md k1 kj l1 lj
          obtain ⟨X, hX⟩ : ∃ X, bits .xor .u32 x1 y = X := ⟨_, rfl⟩
          obtain ⟨Y, hY⟩ : ∃ Y, IntKind.u32.wrap (IntKind.u32.wrap (x0 + cst (8 * (r : Int) + (i : Int))) + X) = Y := ⟨_, rfl⟩
          have C0 := hide (calls_same (s_Constant (8 * (r : Int) + (i : Int)) (by omega) (by omega) wy.drew))
          go_wp2
          refine wp_region_still_tail 15 (by kernel_rfl) (by kernel_rfl) ?_
          simp only [List.take_succ_cons, List.take_zero, List.drop_succ_cons, List.drop_zero]
          repeat still_step
          still_call C0.out
          repeat still_step
          refine wpStill_nil ?_
          clear C0 w1 w2
          replace hX := hide hX
          replace hY := hide hY
          change wpList _ _ _ _ _ (World.drew _)
          go_wp2
          have A1 := hide (own_set8 HL.out O1.out hi8 Y).drew
          have AB := hide (below_drew (B1.out.setCell (p := ⟨g, i, none⟩) hg1 (.int .u32 Y)))
          obtain ⟨w2, hw2⟩ : ∃ w2, (wy.setCell ⟨g, i, none⟩ (.int .u32 Y)).drew = w2 := ⟨_, rfl⟩
          rw [hw2] at A1 AB ⊢
          clear hw2 O1 B1 c0 c3 f0
          have HL2 := hide (show ((mixRow b (mixTo b s r) r i).set i Y).length = 8 by rw [List.length_set, HL.out])
          have c0 := own_cell A1.out (j := i) (by rw [HL2.out]; exact hi8)
          have c3 := own_cell A1.out (j := i3) (by rw [HL2.out]; exact l3)
          rw [wd_set_same _ _ _ (by rw [HL.out]; exact hi8)] at c0
          rw [wd_set_other _ _ _ _ (by have := hi3.out; omega), hx3.out] at c3
          have f0 := (A1.out.at3 (k := i) (by rw [length_ints, HL2.out]; exact hi8)).2.2.2.2
          have YB : 0 ≤ Y ∧ Y ≤ 4294967295 := by rw [← hY.out]; simp [IntKind.wrap, IntKind.bits, IntKind.signed]; omega
          obtain ⟨T, hT⟩ : ∃ T : Int, ((rotl Y.toNat ((5 + (q0 : Int)) % 32).toNat : Nat) : Int) = T := ⟨_, rfl⟩
          have C0 := calls_same (s_Turn Y (5 + (q0 : Int)) YB.1 YB.2 w2.drew)
          rw [hT] at C0
          replace C0 := hide C0
          replace hT := hide hT
          have v1 : IntKind.i64.wrap (3 * (r : Int)) = 3 * (r : Int) := IntWalk.i64_in _ (by omega)
          have v2 : IntKind.i64.wrap ((i : Int) + 3 * (r : Int)) = (i : Int) + 3 * (r : Int) := IntWalk.i64_in _ (by omega)
          have v3 : IntKind.i64.wrap ((i : Int) + 3) = (i : Int) + 3 := IntWalk.i64_in _ (by omega)
          have v4 : IntKind.i64.wrap (q0 : Int) = (q0 : Int) := IntWalk.i64_in _ (by omega)
          have v5 : IntKind.i64.wrap (5 + (q0 : Int)) = 5 + (q0 : Int) := IntWalk.i64_in _ (by omega)
          have v6 : IntKind.i64.wrap (i3 : Int) = (i3 : Int) := IntWalk.i64_in _ (by omega)
          clear YB
          refine wp_region_still_tail 21 (by kernel_rfl) (by kernel_rfl) ?_
          simp only [List.take_succ_cons, List.take_zero, List.drop_succ_cons, List.drop_zero]
          repeat still_step
          still_call C0.out
          repeat still_step
          refine wpStill_nil ?_
          clear C0 v1 v2 v3 v4 v5 v6 mq m3 k3
          change wpList _ _ _ _ _ (World.drew _)
          go_wp2
          go_roundw
          case rel =>
            refine ⟨i + 1, by omega, by go_num, below_drew (AB.out.setCell hg1 _), ?_⟩
            have := own_set8 HL2.out A1.out hi8 (bits .xor .u32 T x3)
            rw [List.set_set] at this
            have e : mixRow b (mixTo b s r) r (i + 1) = (mixRow b (mixTo b s r) r i).set i (bits .xor .u32 T x3) := by
              have hr1 : ((5 + (q0 : Int)) % 32).toNat = 5 + (i + 3 * r) % 23 := by rw [hq0.out]; omega
              have hy1 : mixY b (mixRow b (mixTo b s r) r i) r i = Y := by
                rw [mixY, hi1.out, hj.out, hx0.out, hx1.out, hy.out, hX.out, ← hY.out]
                simp [IntKind.wrap, IntKind.bits, IntKind.signed]
                omega
              show mixStep _ _ _ _ = _
              rw [mixStep, mixW, hi3.out, hx3.out, hy1, ← hT.out, hr1]
            rw [e]
            exact this.drew
          case measure => simp [intOf]; omega
        · obtain rfl : i = 8 := by omega
          go_wp2
          go_roundw
          case rel => exact ⟨r + 1, by omega, by go_num, B1.out, O1.out⟩
          case measure => simp [intOf]; omega
    · have hge : 12 ≤ r := by omega
      have hge' : ¬ (r : Int) < 12 := by omega
      obtain ⟨M, hM⟩ : ∃ M, mixTo b s r = M := ⟨_, rfl⟩
      have HM := hide (show M.length = 8 by rw [← hM, length_mixTo, HS.out])
      rw [hM] at O1
      replace hM := hide (show mixTo b s 12 = M by rw [← hM, show r = 12 by omega])
      go_wp2
      have HD : w.heap.size ≤ wr.heap.size := B1.out.size
      have W0 := hide (B1.out.alloc B1.out.size (.cells #[] 80))
      have V0 := hide (O1.out.top.alloc (.cells #[] 80))
      have N0 := hide (Own.made (w := wr) #[] 80 wr.heap.size (Nat.le_refl _) (by simp [maxLen])).top
      obtain ⟨D, hD⟩ : ∃ D, wr.heap.size = D := ⟨_, rfl⟩
      rw [hD] at V0 N0 HD
      replace hD := hide hD
      clear B1 O1
      go_loopw [10, 11] (fun v q wx => ∃ i : Nat, i ≤ 8 ∧ q = .int .i64 (i : Int) ∧ Below w.heap.size w wx ∧ Own wx w.heap.size D 80 (.slice (some ⟨g, 0, none⟩) 8 cap) (ints .u32 M) ∧ Own wx D wx.heap.size 80 v (ints .u32 ((mixL s b).take i)) ∧ D ≤ wx.heap.size) (fun _ q _ => 8 - (intOf q).toNat)
      case atStart => exact ⟨0, by omega, rfl, W0.out, V0.out, by rw [hD.out]; exact N0.out, by simp; have := hD.out; omega⟩
      case round =>
        clear W0 V0 N0 hD
        obtain ⟨i, hi, rfl, hb, hv, ho, hd⟩ := hrel
        have B1 := hide hb
        have V1 := hide hv
        have O1 := hide ho
        clear hb hv ho
        by_cases hi8 : i < 8
        · have hi8' : (i : Int) < 8 := by omega
          obtain ⟨x0, hx0⟩ : ∃ x, wd s i = x := ⟨_, rfl⟩
          obtain ⟨x1, hx1⟩ : ∃ x, wd M i = x := ⟨_, rfl⟩
          have c0 := rd_cell (R1.out.below B1.out) (j := i) (by rw [HS.out]; exact hi8)
          have c1 := own_cell V1.out (j := i) (by rw [HM.out]; exact hi8)
          rw [hx0] at c0
          rw [hx1] at c1
          replace hx0 := hide hx0
          replace hx1 := hide hx1
          have hst := hide (mixL_take s b i hi8)
          have HT := hide (show (ints .u32 ((mixL s b).take i)).length ≤ 8 by rw [length_ints, List.length_take]; omega)
          have la : (ad.add i).block < D := by have := cell_lt c0; have := (R1.out.at_ (k := i) (by rw [length_ints, HS.out]; exact hi8)); obtain ⟨_, he, _, hlt, _⟩ := this; injection he with he; subst he; rw [block_add]; omega
          have lb : (⟨g, i, none⟩ : Addr).block < D := (V1.out.at3 (k := i) (by rw [length_ints, HM.out]; exact hi8)).2.1
          go_wp2
          obtain ⟨X, hX⟩ : ∃ X, IntKind.u32.wrap (x0 + x1) = X := ⟨_, rfl⟩
          refine wp_region_held_drew (S := fun w' => Below D wr w') (by kernel_rfl) (below_drew (Below.refl _ _)) (fun hHeld => ?_)
          refine take_first 0 92 (u10) rfl (by kernel_rfl) (by kernel_rfl) (by kernel_rfl) (fun _ _ _ h => h) rfl (yieldsIf_move rfl _ rfl rfl) hHeld ?_
          simp only [Act.put, List.setIfInBounds_toArray, List.set_cons_zero, List.set_cons_succ]
          refine take_first 1 93 (.slice (some ad) 8 c) rfl (by kernel_rfl) (by kernel_rfl) (by kernel_rfl) (fun _ _ _ h => h) rfl (yieldsIf_move rfl _ rfl rfl) hHeld ?_
          simp only [Act.put, List.setIfInBounds_toArray, List.set_cons_zero, List.set_cons_succ]
          refine take_first 2 94 (.int .i64 (i : Int)) rfl (by kernel_rfl) (by kernel_rfl) (by kernel_rfl) (fun _ _ _ h => h) rfl (yieldsIf_move rfl _ rfl rfl) hHeld ?_
          simp only [Act.put, List.setIfInBounds_toArray, List.set_cons_zero, List.set_cons_succ]
          refine take_first 3 95 (.pointer (some (ad.add i))) rfl (by kernel_rfl) (by kernel_rfl) (by kernel_rfl) (fun _ _ _ h => h) rfl (.inl ⟨by rfl, fun w' hw' => by go_simp⟩) hHeld ?_
          simp only [Act.put, List.setIfInBounds_toArray, List.set_cons_zero, List.set_cons_succ]
          refine take_first 4 96 (.int .u32 x0) rfl (by kernel_rfl) (by kernel_rfl) (by kernel_rfl) (fun _ _ _ h => h) rfl (.inl ⟨by rfl, fun w' hw' => by have cc := (hw'.cell la).trans c0; go_simp⟩) hHeld ?_
          simp only [Act.put, List.setIfInBounds_toArray, List.set_cons_zero, List.set_cons_succ]
          refine take_first 5 97 (.slice (some ⟨g, 0, none⟩) 8 cap) rfl (by kernel_rfl) (by kernel_rfl) (by kernel_rfl) (fun _ _ _ h => h) rfl (yieldsIf_move rfl _ rfl rfl) hHeld ?_
          simp only [Act.put, List.setIfInBounds_toArray, List.set_cons_zero, List.set_cons_succ]
          refine take_first 6 98 (.int .i64 (i : Int)) rfl (by kernel_rfl) (by kernel_rfl) (by kernel_rfl) (fun _ _ _ h => h) rfl (yieldsIf_move rfl _ rfl rfl) hHeld ?_
          simp only [Act.put, List.setIfInBounds_toArray, List.set_cons_zero, List.set_cons_succ]
          refine take_first 7 99 (.pointer (some ⟨g, i, none⟩)) rfl (by kernel_rfl) (by kernel_rfl) (by kernel_rfl) (fun _ _ _ h => h) rfl (.inl ⟨by rfl, fun w' hw' => by go_simp⟩) hHeld ?_
          simp only [Act.put, List.setIfInBounds_toArray, List.set_cons_zero, List.set_cons_succ]
          refine take_first 8 100 (.int .u32 x1) rfl (by kernel_rfl) (by kernel_rfl) (by kernel_rfl) (fun _ _ _ h => h) rfl (.inl ⟨by rfl, fun w' hw' => by have cc := (hw'.cell lb).trans c1; go_simp⟩) hHeld ?_
          simp only [Act.put, List.setIfInBounds_toArray, List.set_cons_zero, List.set_cons_succ]
          refine take_first 9 101 (.int .u32 X) rfl (by kernel_rfl) (by kernel_rfl) (by kernel_rfl) (fun _ _ _ h => h) rfl (.inl ⟨by rfl, fun w' hw' => by go_simp⟩) hHeld ?_
          simp only [Act.put, List.setIfInBounds_toArray, List.set_cons_zero, List.set_cons_succ]
          refine wpAnyH_ready (rs := [10]) (by kernel_rfl) (by simp) (AllReadyH.cons rfl (fun K hK => ?_) AllReadyH.nil)
          replace hX := hide hX
          go_simp
          have H0 := hide (below_drew ((Below.refl D wr).alloc hd (.cells #[.int .u32 X] 80)))
          refine hK.out _ _ H0.out (fun _ => ?_)
          clear hK K
          refine wpAnyH_ready (rs := [11]) (by kernel_rfl) (by simp) (AllReadyH.cons rfl (fun K hK => ?_) AllReadyH.nil)
          rw [if_pos (by rfl)]
          refine wp_app (.tmp 92) (.tmp 102) 71 rfl 80 (.int .u32 0) 4 Try.underlying71 infoU32m rfl D u10 _ rfl ((O1.out.alloc _).drew.top) ⟨wr.heap.size, 0, none⟩ 1 1 [.int .u32 X] rfl rfl (new_cells #[.int .u32 X] _) (ints_one .u32 [X]) (by have := HT.out; omega) (by omega) (by simp; omega) ?_
          intro v' w2 hown2 hb2 _
          have O2 := hide hown2
          have H1 := hide (H0.out.trans hb2)
          clear hown2 hb2 H0
          refine hK.out _ _ H1.out (fun _ => ?_)
          clear hK K
          refine wpAnyH_ready (rs := [12]) (by kernel_rfl) (by simp) (AllReadyH.cons rfl (fun K hK => ?_) AllReadyH.nil)
          go_simp
          refine hK.out _ _ H1.out (fun _ => ?_)
          clear hK K
          refine wpAnyH_done (by kernel_rfl) ?_ _
          go_wp2
          go_roundw
          case rel =>
            refine ⟨i + 1, by omega, by go_num, B1.out.trans (H1.out.mono HD), V1.out.keep (fun k hk h1 h2 => H1.out.block k h2), ?_, Nat.le_trans hd H1.out.size⟩
            have := O2.out
            rw [← hst.out]
            have e : (wd s i + wd (mixTo b s 12) i) % 4294967296 = X := by rw [hM.out, hx0.out, hx1.out, ← hX.out]; simp [IntKind.wrap, IntKind.bits, IntKind.signed]
            rw [e]
            unfold ints at this ⊢
            rw [List.map_append]
            exact this
          case measure => simp [intOf]; omega
        · obtain rfl : i = 8 := by omega
          have e : (mixL s b).take 8 = mixL s b := List.take_of_length_le (by rw [length_mixL]; omega)
          rw [e] at O1
          go_wp2
          go_ret2
          exact ⟨_, rfl, B1.out, O1.out.wide HD (Nat.le_refl _)⟩
theorem s_MixIn (s b : List Int) (A A' : Option Addr) (c c' L H L' H' : Nat) (w : World) (h : Rd w L H A (ints .u32 s)) (h' : Rd w L' H' A' (ints .u32 b)) :
    Calls Try.prog 72 #[.slice A s.length c, .slice A' b.length c'] w fun e w' => ∃ A1 c1, e = .returned (.tuple #[.slice A1 (mixI s b).length c1, .bool (mixOk s b)]) ∧ Below w.heap.size w w' ∧ Own w' w.heap.size w'.heap.size 80 (.slice A1 (mixI s b).length c1) (ints .u32 (mixI s b)) := by
  rcases mixOk_cases s b with ⟨h1, h2, h3, h4⟩ | ⟨h1, h4, d1 | ⟨d1, d2⟩⟩
  · rw [h4, h1]
    rw [h2, h3]
    refine (s_MixIn_in s b h2 h3 A A' c c' L H L' H' w h h').mono ?_
    rintro e w' ⟨v, rfl, hb, ho⟩
    obtain ⟨A1, c1, rfl, ho'⟩ := ho.shape
    rw [length_ints] at ho' ⊢
    exact ⟨A1, c1, rfl, hb, ho'⟩
  all_goals
    rw [h4, h1]
    clear h h' h1 h4
    go_enter Try.func72, Try.ntmps72
    go_wp2
    go_ret2
    exact ⟨_, _, rfl, (Below.refl _ _).alloc (Nat.le_refl _) _, (Own.made #[] _ _ (Nat.le_refl _) (by simp [maxLen])).top⟩
end Go.Proofs.Ytmcaglkbohoclaa

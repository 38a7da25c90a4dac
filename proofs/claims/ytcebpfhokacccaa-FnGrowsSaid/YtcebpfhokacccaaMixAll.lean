/-
  The walks of mixAll and l02Mixed: the whole blocks of a text are mixed into a state.
-/
import Derived.Test.YtcebpfhokacccaaMixTextPlain
import Derived.Test.YtcebpfhokacccaaMixInS
import Derived.Test.YtcebpfhokacccaaLibU
namespace Go.Proofs.Ytcebpfhokacccaa
set_option linter.unusedVariables false
open Go.RowKit

def lenOf : Value → Nat
  | .string u => u.size
  | _ => 0
theorem info_block16 : (Try.prog.info? 86).map (·.size) = some 16 := by kernel_rfl
theorem fill_set (zs : List Int) (n j : Nat) (hz : zs.length = n) (h : j < zs.length) : (ints .u32 (zs.take j ++ List.replicate (n - j) 0)).set j (.int .u32 zs[j]) = ints .u32 (zs.take (j + 1) ++ List.replicate (n - (j + 1)) 0) := by
  subst hz
  exact toSetU zs j h
set_option maxRecDepth 100000 in
set_option maxHeartbeats 2000000 in
theorem i_mixAll (s : List Int) (hs : s.length = 8) (t : ByteArray) (ht : t.size ≤ 1099511627776) (w : World) :
    Calls Try.prog 54 #[.agg (ints .u32 s).toArray, .string t] w fun e w' => e = .returned (.agg (ints .u32 (mixT s t)).toArray) ∧ Below w.heap.size w w' := by
  obtain ⟨s0, s1, s2, s3, s4, s5, s6, s7, hs8⟩ := list8 hs
  have e1 : (ints .u32 s).toArray = #[.int .u32 s0, .int .u32 s1, .int .u32 s2, .int .u32 s3, .int .u32 s4, .int .u32 s5, .int .u32 s6, .int .u32 s7] := by rw [hs8]; rfl
  have HS := hide hs
  have HS8 := hide hs8
  rw [e1]
  clear e1 hs hs8
  go_enter Try.func54, Try.ntmps54
  go_wp2
  go_loopw [1] (fun q wr => ∃ (k : Nat) (u : ByteArray), q = .string u ∧ u.size + 64 * k = t.size ∧ Hid (RestOf t u (64 * k)) ∧ Below w.heap.size w wr ∧ Arr wr w.heap.size 81 (ints .u32 (mixN t s k)) ∧ Arr wr (w.heap.size + 1) 81 (ints .u32 [0, 0, 0, 0, 0, 0, 0, 0])) (fun q _ => lenOf q)
  case atStart =>
    refine ⟨0, t, rfl, by omega, RestOf.zero t, ?_, ?_, ?_⟩
    · exact ((Below.refl _ _).alloc (Nat.le_refl _) _).alloc (by simp) _
    · show Arr _ _ _ (ints .u32 s)
      rw [HS8.out]; exact (Arr.new_ rfl (ints .u32 [_, _, _, _, _, _, _, _]) _).alloc _
    · exact Arr.new_ (by simp) (ints .u32 [_, _, _, _, _, _, _, _]) _
  case round =>
    obtain ⟨k, u, rfl, hu, hr, hb, h1, h2⟩ := hrel
    have HB := hide hb
    have H1 := hide h1
    have H2 := hide h2
    have HU := hide hu
    have hul : u.size ≤ 9223372036854775807 := by omega
    clear hb h1 h2 hu
    by_cases h64 : 64 ≤ u.size
    · have h64' : (64 : Int) ≤ u.size := by omega
      have dd : decide ((64 : Int) ≤ u.size) = true := by simp; omega
      have hlW := length_blkW t (64 * k)
      go_wp2
      have W0 := hide (HB.out.alloc HB.out.size (.cells #[.int .u32 0, .int .u32 0, .int .u32 0, .int .u32 0, .int .u32 0, .int .u32 0, .int .u32 0, .int .u32 0, .int .u32 0, .int .u32 0, .int .u32 0, .int .u32 0, .int .u32 0, .int .u32 0, .int .u32 0, .int .u32 0] 86))
      have A1 := hide (H1.out.alloc (.cells #[.int .u32 0, .int .u32 0, .int .u32 0, .int .u32 0, .int .u32 0, .int .u32 0, .int .u32 0, .int .u32 0, .int .u32 0, .int .u32 0, .int .u32 0, .int .u32 0, .int .u32 0, .int .u32 0, .int .u32 0, .int .u32 0] 86))
      have A2 := hide (H2.out.alloc (.cells #[.int .u32 0, .int .u32 0, .int .u32 0, .int .u32 0, .int .u32 0, .int .u32 0, .int .u32 0, .int .u32 0, .int .u32 0, .int .u32 0, .int .u32 0, .int .u32 0, .int .u32 0, .int .u32 0, .int .u32 0, .int .u32 0] 86))
      have A3 := hide (Arr.new wr (ints .u32 [0, 0, 0, 0, 0, 0, 0, 0, 0, 0, 0, 0, 0, 0, 0, 0]) 86)
      have hN1 : w.heap.size + 1 < wr.heap.size := H2.out.lt
      obtain ⟨N, hN⟩ : ∃ N, wr.heap.size = N := ⟨_, rfl⟩
      rw [hN] at A3 hN1 ⊢
      clear H1 H2 HB hN
      obtain ⟨M, hM⟩ : ∃ M, mixN t s k = M := ⟨_, rfl⟩
      rw [hM] at A1
      replace hM := hide hM
      obtain ⟨W, hW⟩ : ∃ W, blkW t (64 * k) = W := ⟨_, rfl⟩
      rw [hW] at hlW
      have HW16 := hide hlW
      have HWD := hide (show ∀ j, j < 16 → ∀ hl : j < W.length, wordAtI u (4 * (j : Int)) = W[j] by subst hW; exact fun j hj hl => hr.out.wordI hj h64 hl)
      replace hW := hide hW
      clear hlW
      go_loopw [12] (fun c wx => ∃ j : Nat, j ≤ 16 ∧ c = .int .i64 (j : Int) ∧ Below w.heap.size w wx ∧ Arr wx w.heap.size 81 (ints .u32 M) ∧ Arr wx (w.heap.size + 1) 81 (ints .u32 [0, 0, 0, 0, 0, 0, 0, 0]) ∧ Arr wx N 86 (ints .u32 (W.take j ++ List.replicate (16 - j) 0))) (fun c _ => 16 - (intOf c).toNat)
      case atStart => exact ⟨0, by omega, rfl, W0.out, A1.out, A2.out, A3.out⟩
      case round =>
        clear W0 A1 A2 A3
        obtain ⟨j, hj, rfl, hb, h1, h2, h3⟩ := hrel
        have HB := hide hb
        have H1 := hide h1
        have H2 := hide h2
        have H3 := hide h3
        clear hb h1 h2 h3
        by_cases hj16 : j < 16
        · have hj16' : (j : Int) < 16 := by omega
          have hjW : j < W.length := by rw [HW16.out]; exact hj16
          have hx := hide (HWD.out j hj16 hjW)
          have hst := hide (fill_set W 16 j HW16.out hjW)
          obtain ⟨x, hxx⟩ : ∃ x, W[j] = x := ⟨_, rfl⟩
          rw [hxx] at hx hst
          clear hxx
          have f0 := H3.out.free j
          have cc := H3.out.cell (k := j) (by simp [ints]; have := HW16.out; omega)
          obtain ⟨y, hy⟩ : ∃ y, (ints .u32 (W.take j ++ List.replicate (16 - j) 0))[j]'(by simp [ints]; have := HW16.out; omega) = y := ⟨_, rfl⟩
          rw [hy] at cc
          clear hy
          go_wp2_with (go_at_call 58; refine (i_WordAt u (4 * (j : Int)) hul _).mono ?_; rintro e w1 ⟨rfl, hb1⟩; rw [hx.out]; have B1 := hide (bel_new HB.out hb1 HB.out.size); have G1 := hide (H1.out.below hb1); have G2 := hide (H2.out.below hb1); have G3 := hide (H3.out.below hb1); have f1 := G3.out.free j; have c1 := ((bcell hb1).1 N j H3.out.lt).trans cc; clear hb1)
          go_roundw
          case rel =>
            refine ⟨j + 1, by omega, by go_num, B1.out.setCell (by show w.heap.size ≤ N; omega) _, G1.out.setCell (by show N ≠ w.heap.size; omega) _, G2.out.setCell (by show N ≠ w.heap.size + 1; omega) _, ?_⟩
            have := G3.out.set_ j (.int .u32 x)
            rw [hst.out] at this
            exact this
          case measure => simp [intOf]; omega
        · have e16 := hide (show W.take j ++ List.replicate (16 - j) 0 = W by rw [List.take_of_length_le (by rw [HW16.out]; omega), show 16 - j = 0 by omega, List.replicate_zero, List.append_nil])
          have hj16' : ¬ (j : Int) < 16 := by omega
          replace H3 := hide (show Arr wr N 86 (ints .u32 W) by have := H3.out; rw [e16.out] at this; exact this)
          have HM := hide (show M.length = 8 by rw [← hM.out]; exact length_mixN _ _ _ HS.out)
          have HML := hide (length_mixL M W)
          go_wp2_with (first
            | (refine wpList_load_arr rfl 81 (.tmp 2) rfl w.heap.size rfl 81 (ints .u32 M) 8 73 H1.out Try.underlying81 (by rw [length_ints, HM.out]; exact info_chain) ?_)
            | (refine wpList_load_arr rfl 86 (.tmp 5) rfl N rfl 86 (ints .u32 W) 16 73 H3.out Try.underlying86 (by rw [length_ints, HW16.out]; exact info_block16) ?_)
            | (go_at_call 59; refine (i_mixed M W HM.out HW16.out _).mono ?_; rintro e w1 ⟨rfl, hb1⟩; have B1 := hide (bel_new HB.out hb1 HB.out.size); have G1 := hide (H1.out.below hb1); have G2 := hide (H2.out.below hb1); clear hb1)
            | (refine wpList_store_arr rfl 81 (.tmp 2) (.tmp 24) rfl w.heap.size (ints .u32 (mixL M W)) rfl rfl 81 _ G1.out (by rw [length_ints, HML.out]; exact info_chain) (by rw [length_ints, length_ints, HML.out, HM.out]) (ints_one .u32 _) ?_; have K1 := hide (G1.out.setRow (ints .u32 (mixL M W))); have K2 := hide (G2.out.setRow_other (M := w.heap.size) (by omega) (ints .u32 (mixL M W)).toArray); have KB := hide (below_setRow B1.out (Nat.le_refl _) (ints .u32 (mixL M W)).toArray)))
          go_roundw
          case rel =>
            refine ⟨k + 1, u.extract 64 u.size, rfl, ?_, ?_, KB.out, ?_, K2.out⟩
            · have := HU.out; simp; omega
            · have := hr.out.step 64
              rw [show 64 * k + 64 = 64 * (k + 1) by omega] at this
              exact this
            · have e : mixN t s (k + 1) = mixL M W := by rw [← hM.out, ← hW.out]; rfl
              rw [e]
              exact K1.out
          case measure => simp [lenOf]; omega
    · have h64' : (u.size : Int) < 64 := by omega
      have hk := hide (show t.size / 64 = k by have := HU.out; omega)
      have HL := hide (show (mixN t s k).length = 8 from length_mixN _ _ _ HS.out)
      go_wp2_with (first | (refine wpList_load_arr rfl 81 (.tmp 2) rfl w.heap.size rfl 81 (ints .u32 (mixN t s k)) 8 73 H1.out Try.underlying81 (by rw [length_ints, HL.out]; exact info_chain) ?_) | (refine wpList_store_arr rfl 81 (.tmp 4) (.tmp 25) rfl (w.heap.size + 1) (ints .u32 (mixN t s k)) rfl rfl 81 _ H2.out (by rw [length_ints, HL.out]; exact info_chain) (by rw [length_ints, length_ints, HL.out]; rfl) (ints_one .u32 _) ?_))
      refine bodyPost_ret (results_arr rfl rfl (H2.out.setRow (ints .u32 (mixN t s k))) Try.underlying81 (by rw [length_ints, HL.out]; exact info_chain)) rfl ⟨?_, ?_⟩
      · unfold mixT; rw [hk.out]
      · exact below_setRow HB.out (by omega) _
end Go.Proofs.Ytcebpfhokacccaa

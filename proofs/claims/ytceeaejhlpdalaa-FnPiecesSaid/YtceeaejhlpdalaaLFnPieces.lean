/-
  The law 'FnPieces' returns true, at every input, under no condition: the statement 'Rows.FnPiecesSaid'. The walk takes the functions that the law calls by their contracts; the frame about it opens the arguments and hands them back as they were.
-/
import Derived.Test.YtceeaejhlpdalaaPieces
import Derived.Test.YtceeaejhlpdalaaOpen
import Derived.Test.YtceeaejhlpdalaaRows
import Derived.WalkKit
import Derived.ProofKit
import Derived.OpenShut
import Derived.ShutString
import Derived.ChangeOld
import Derived.Below
namespace Go.Proofs.Ytceeaejhlpdalaa.fnPieces
open Go.Joins (open_agg2 open_agg3)
open Go.ChangeShapes Go.WideShapes Go.ChangeAt Go.RowKit
open Go.ChangeMaps (open_string shut_string)
set_option linter.unusedVariables false

theorem own : ownKnob Try.prog.godebug = none := by kernel_rfl
theorem laidOut : laidOutB Try.prog = true := by kernel_rfl

set_option maxHeartbeats 2000000 in
theorem walk (a0 : Option Addr) (cap0 : Nat) (z0 : List Int) (w : World) (w0 : Rd w 0 w.heap.size a0 (ints .u8 z0)) (l0 : z0.length ≤ cap0 ∧ cap0 ≤ maxLen) (b0 : ∀ n ∈ z0, (Lit.int .u8 n).wf = true) :
    Calls Try.prog 4 #[.slice a0 z0.length cap0] w fun e w' => e = .returned (.bool true) ∧ Below w.heap.size w w' := by
  have hb : ∀ b ∈ z0, 0 ≤ b ∧ b ≤ 255 := fun x hx => by
    have := b0 x hx
    simpa [Lit.wf, IntKind.min, IntKind.max, IntKind.signed, IntKind.bits] using this
  have HB := hide hb
  have H1 := hide w0
  clear w0 b0 l0 hb
  by_cases hbig : 1048576 < z0.length
  · have CB := hide (l_big_out z0 a0 cap0 hbig)
    go_enter Try.func4, Try.ntmps4
    go_wp2_with (go_at_call 5; refine (CB.out _).mono ?_; rintro e w1 ⟨rfl, rfl⟩)
    go_ret
    exact ⟨rfl, Below.refl _ _⟩
  have hn : z0.length ≤ 1048576 := by omega
  have CB := hide (l_big_in z0 a0 cap0 hn)
  clear hbig
  obtain ⟨wd, hwd, hw1, hw32⟩ : ∃ wd : Nat, 1 + (z0.length : Int) % 32 = (wd : Int) ∧ 1 ≤ wd ∧ wd ≤ 32 := ⟨1 + z0.length % 32, by omega, by omega, by omega⟩
  go_enter Try.func4, Try.ntmps4
  go_wp2_with (go_at_call 5; refine (CB.out _).mono ?_; rintro e w1 ⟨rfl, rfl⟩)
  refine (s_DrawDigest z0 a0 cap0 _ _ _ H1.out HB.out hn).mono ?_
  rintro e w1 ⟨d1, tg, T, rfl, hs, hb1⟩
  have R1 := hide (H1.out.below hb1)
  have b1 := hide hb1
  clear hb1 CB
  go_upto_region 5 with (fail)
  go_cut [43] from 21 (fun s43 wc => ∃ b : Bool, s43 = .bool b ∧ (b = false → 0 ≤ tg ∧ tg ≤ 255 ∧ T.size ≤ 4000) ∧ wc = w1)
  case first =>
    have hc : (0 ≤ tg ∧ tg ≤ 255 ∧ T.size ≤ 4000) ∨ tg < 0 ∨ (0 ≤ tg ∧ 255 < tg) ∨ (0 ≤ tg ∧ tg ≤ 255 ∧ 4000 < T.size) := by omega
    rcases hc with ⟨t0, t1, hT4⟩ | t0 | ⟨t0, t1⟩ | ⟨t0, t1, hT4⟩
    · have d0' : decide (tg < 0) = false := by simp; omega
      have d1' : decide (255 < tg) = false := by simp; omega
      have d2' : decide ((4000 : Int) < (T.size : Int)) = false := by simp; omega
      set_option maxRecDepth 3000 in go_wp2_with fail
      go_meet
      case rel => exact ⟨_, rfl, fun _ => ⟨t0, t1, hT4⟩, rfl⟩
    · set_option maxRecDepth 3000 in go_wp2_with fail
      go_meet
      case rel => exact ⟨true, rfl, fun h => (by cases h), rfl⟩
    · have d0' : decide (tg < 0) = false := by simp; omega
      set_option maxRecDepth 3000 in go_wp2_with fail
      go_meet
      case rel => exact ⟨true, rfl, fun h => (by cases h), rfl⟩
    · have d0' : decide (tg < 0) = false := by simp; omega
      have d1' : decide (255 < tg) = false := by simp; omega
      have d2' : (4000 : Int) < (T.size : Int) := by omega
      set_option maxRecDepth 3000 in go_wp2_with fail
      go_meet
      case rel => exact ⟨true, rfl, fun h => (by cases h), rfl⟩
  case rest =>
  obtain ⟨bb, rfl, hbb, rfl⟩ := hcut
  go_upto_if 43 with (fail)
  go_cut [4, 5] from 21 (fun s4 s5 w' => ∃ (g : Int) (U : ByteArray), s4 = .int .i64 g ∧ s5 = .string U ∧ 0 ≤ g ∧ g ≤ 255 ∧ U.size ≤ 4000 ∧ w' = wc)
  case first =>
    cases bb
    · obtain ⟨t0, t1, hT4⟩ := hbb rfl
      set_option maxRecDepth 3000 in go_wp2_with fail
      go_meet
      case rel => exact ⟨tg, T, rfl, rfl, t0, t1, hT4, rfl⟩
    · set_option maxRecDepth 3000 in go_wp2_with fail
      go_meet
      case rel => exact ⟨3, ⟨#[120, 121, 122]⟩, rfl, rfl, by decide, by decide, by decide, rfl⟩
  case rest =>
    clear hbb hs T tg
    obtain ⟨tg, T, rfl, rfl, t0, t1, hT4, rfl⟩ := hcut
    go_wp2_with fail
    refine (s_DrawPlaces z0 a0 cap0 _ _ _ R1.out HB.out hn).mono ?_
    rintro e w2 ⟨A2, c2, ps, rfl, hpl, hpv, hb2, ho2⟩
    obtain ⟨g2, rfl, -, -, lg, k0, -⟩ := ho2.at2 (k := 0) (by rw [length_ints, hpl]; decide)
    obtain ⟨-, -, -, k1, -⟩ := ho2.at3 (k := 1) (by rw [length_ints, hpl]; decide)
    rw [ints_get] at k0 k1
    have q0 := hpv (ps[0]'(by omega)) (List.getElem_mem _)
    have q1 := hpv (ps[1]'(by omega)) (List.getElem_mem _)
    generalize ps[0]'(by omega) = p0 at *
    generalize ps[1]'(by omega) = p1 at *
    have b2 := hide (bel_new b1.out hb2 b1.out.size)
    clear hb2 ho2 hpv hpl R1 b1
    obtain ⟨a, ea, la⟩ : ∃ a : Nat, p0 % ((T.size : Int) + 1) = (a : Int) ∧ a ≤ T.size := ⟨(p0 % ((T.size : Int) + 1)).toNat, by have := Int.emod_nonneg p0 (show (T.size : Int) + 1 ≠ 0 by omega); omega, by have := Int.emod_lt_of_pos p0 (show (0 : Int) < (T.size : Int) + 1 by omega); omega⟩
    obtain ⟨b, eb, lb, lb2⟩ : ∃ b : Nat, (a : Int) + p1 % ((T.size : Int) - a + 1) = (b : Int) ∧ a ≤ b ∧ b ≤ T.size := by
      have h1 := Int.emod_nonneg p1 (show (T.size : Int) - a + 1 ≠ 0 by omega)
      have h2 := Int.emod_lt_of_pos p1 (show (0 : Int) < (T.size : Int) - a + 1 by omega)
      exact ⟨((a : Int) + p1 % ((T.size : Int) - a + 1)).toNat, by omega, by omega, by omega⟩
    have CD := hide (fun W => i_Digest_in wd hw1 hw32 tg t0 t1 T hT4 W)
    have hD := digT_size wd tg T hw32
    have CN := hide (show ∀ W, Calls Try.prog 12 #[.int .i64 (wd : Int), .int .i64 tg] W fun e w' => ∃ A c, e = .returned (.tuple #[.agg #[.int .i64 (wd : Int), .int .i64 tg, .slice A 8 c, .string ⟨#[]⟩, .int .i64 0], .bool true]) ∧ Below W.heap.size W w' ∧ Own w' W.heap.size w'.heap.size 47 (.slice A 8 c) (ints .u32 (mixT (start8 tg) ⟨#[]⟩)) from fun W => by
      have e0 : newOk (wd : Int) tg = true := by unfold newOk; rw [inR_true t0 t1, inR_true (by omega) (by omega)]; rfl
      have := i_FeedNew (wd : Int) tg W
      simp only [newSt, newN, e0, if_pos, startI_in t0 t1] at this
      exact this)
    have x1s : (T.extract 0 a).size = a := by rw [ByteArray.size_extract]; omega
    have x2s : (T.extract a b).size = b - a := by rw [ByteArray.size_extract]; omega
    have x3s : (T.extract b T.size).size = T.size - b := by rw [ByteArray.size_extract]; omega
    have t3 := three_parts T a b lb lb2
    obtain ⟨x1, hx1⟩ : ∃ x1, T.extract 0 a = x1 := ⟨_, rfl⟩
    obtain ⟨x2, hx2⟩ : ∃ x2, T.extract a b = x2 := ⟨_, rfl⟩
    obtain ⟨x3, hx3⟩ : ∃ x3, T.extract b T.size = x3 := ⟨_, rfl⟩
    rw [hx1, hx2, hx3] at t3
    rw [hx1] at x1s
    rw [hx2] at x2s
    rw [hx3] at x3s
    have sz1 : x1.size = a := x1s
    have sz2 : (x1 ++ x2).size = b := by rw [ByteArray.size_append]; omega
    have wf := (show (1 : Int) ≤ (wd : Int) ∧ (wd : Int) ≤ 32 from ⟨by omega, by omega⟩)
    have C1 := hide (show ∀ A c B C W, Own W B C 47 (.slice A 8 c) (ints .u32 (mixT (start8 tg) ⟨#[]⟩)) → Calls Try.prog 13 #[.agg #[.int .i64 (wd : Int), .int .i64 tg, .slice A 8 c, .string ⟨#[]⟩, .int .i64 0], .string x1] W fun e w' => ∃ A' c', e = .returned (.tuple #[.agg #[.int .i64 (wd : Int), .int .i64 tg, .slice A' 8 c', .string (restT x1), .int .i64 (a : Int)], .bool true]) ∧ Below W.heap.size W w' ∧ Own w' W.heap.size w'.heap.size 47 (.slice A' 8 c') (ints .u32 (mixT (start8 tg) x1)) from fun A c B C W h => by
      have := i_More (wd : Int) tg wf ⟨t0, t1⟩ (start8 tg) rfl ⟨#[]⟩ x1 (by show 0 + x1.size ≤ 4000; omega) A c B C W h
      rw [append_nil, sz1] at this
      exact this)
    have C2 := hide (show ∀ A c B C W, Own W B C 47 (.slice A 8 c) (ints .u32 (mixT (start8 tg) x1)) → Calls Try.prog 13 #[.agg #[.int .i64 (wd : Int), .int .i64 tg, .slice A 8 c, .string (restT x1), .int .i64 (a : Int)], .string x2] W fun e w' => ∃ A' c', e = .returned (.tuple #[.agg #[.int .i64 (wd : Int), .int .i64 tg, .slice A' 8 c', .string (restT (x1 ++ x2)), .int .i64 (b : Int)], .bool true]) ∧ Below W.heap.size W w' ∧ Own w' W.heap.size w'.heap.size 47 (.slice A' 8 c') (ints .u32 (mixT (start8 tg) (x1 ++ x2))) from fun A c B C W h => by
      have := i_More (wd : Int) tg wf ⟨t0, t1⟩ (start8 tg) rfl x1 x2 (by omega) A c B C W (by exact h)
      rw [sz2, sz1] at this
      exact this)
    have C3 := hide (show ∀ A c B C W, Own W B C 47 (.slice A 8 c) (ints .u32 (mixT (start8 tg) (x1 ++ x2))) → Calls Try.prog 13 #[.agg #[.int .i64 (wd : Int), .int .i64 tg, .slice A 8 c, .string (restT (x1 ++ x2)), .int .i64 (b : Int)], .string x3] W fun e w' => ∃ A' c', e = .returned (.tuple #[.agg #[.int .i64 (wd : Int), .int .i64 tg, .slice A' 8 c', .string (restT T), .int .i64 (T.size : Int)], .bool true]) ∧ Below W.heap.size W w' ∧ Own w' W.heap.size w'.heap.size 47 (.slice A' 8 c') (ints .u32 (mixT (start8 tg) T)) from fun A c B C W h => by
      have := i_More (wd : Int) tg wf ⟨t0, t1⟩ (start8 tg) rfl (x1 ++ x2) x3 (by rw [sz2]; omega) A c B C W (by exact h)
      rw [t3, sz2] at this
      exact this)
    have CE := hide (show ∀ A c B C W, Own W B C 47 (.slice A 8 c) (ints .u32 (mixT (start8 tg) T)) → Calls Try.prog 14 #[.agg #[.int .i64 (wd : Int), .int .i64 tg, .slice A 8 c, .string (restT T), .int .i64 (T.size : Int)]] W fun e w' => e = .returned (.tuple #[.string (digT wd tg T), .bool true]) ∧ Below W.heap.size W w' from fun A c B C W h => by
      have hr := restT_size T
      have := i_FeedEnd_in wd tg (mixT (start8 tg) T) A c B C (restT T) T.size hw32 (length_mixT _ _ rfl) (mixT_ok _ _ (start8_ok tg)) hT4 (by omega) (feed_ok wf ⟨t0, t1⟩ hT4) W h
      rw [(feed_more (start8 tg) T (padText T.size)).1] at this
      exact this)
    have K3 := hide (show ∀ A c W, Calls Try.prog 15 #[.agg #[.int .i64 (wd : Int), .int .i64 tg, .slice A 8 c, .string (restT T), .int .i64 (T.size : Int)]] W fun e w' => e = .returned (.bool true) ∧ Below W.heap.size W w' from fun A c W => by
      have := i_FeedOk (wd : Int) tg A 8 c (restT T) (T.size : Int) W
      rw [feed_ok wf ⟨t0, t1⟩ hT4] at this
      exact this.mono fun e w' h => ⟨h.1, h.2 ▸ (Below.refl _ _).alloc (Nat.le_refl _) _⟩)
    have K2 := hide (show ∀ A c W, Calls Try.prog 15 #[.agg #[.int .i64 (wd : Int), .int .i64 tg, .slice A 8 c, .string (restT (x1 ++ x2)), .int .i64 (b : Int)]] W fun e w' => e = .returned (.bool true) ∧ Below W.heap.size W w' from fun A c W => by
      have := i_FeedOk (wd : Int) tg A 8 c (restT (x1 ++ x2)) (b : Int) W
      have e2 := feed_ok wf ⟨t0, t1⟩ (u := x1 ++ x2) (by rw [sz2]; omega)
      rw [sz2] at e2
      rw [e2] at this
      exact this.mono fun e w' h => ⟨h.1, h.2 ▸ (Below.refl _ _).alloc (Nat.le_refl _) _⟩)
    have X1 := hide hx1
    have X2 := hide hx2
    have X3 := hide hx3
    generalize digT wd tg T = dg at *
    generalize restT T = u3 at *
    generalize restT (x1 ++ x2) = u2 at *
    generalize restT x1 = u1 at *
    generalize mixT (start8 tg) T = m3 at *
    generalize mixT (start8 tg) (x1 ++ x2) = m2 at *
    generalize mixT (start8 tg) x1 = m1 at *
    generalize mixT (start8 tg) ⟨#[]⟩ = m0 at *
    have dS : ((dg.size : Int) == (wd : Int)) = true := by rw [beq_iff_eq]; omega
    have la' : (a : Int) ≤ (T.size : Int) := by omega
    have lb' : (a : Int) ≤ (b : Int) := by omega
    have lb3 : (b : Int) ≤ (T.size : Int) := by omega
    clear t3 x1s x2s x3s sz1 sz2 hD hx1 hx2 hx3 wf
    go_wp2_with fail
    refine (CD.out _).mono ?_
    rintro e w3 ⟨rfl, hb3⟩
    have b3 := hide (bel_new b2.out hb3 b2.out.size)
    clear hb3 k0 k1 b2 CD lg
    go_wp2_with fail
    refine (CN.out _).mono ?_
    rintro e w4 ⟨A4, c4, rfl, hb4, ho4⟩
    have b4 := hide (bel_new b3.out hb4 b3.out.size)
    have O4 := hide ho4
    clear hb4 ho4 b3 CN
    go_wp2_with fail
    obtain ⟨W, hW⟩ : ∃ W, w4.alloc (.cells #[.int .i64 (wd : Int), .int .i64 tg, .slice A4 8 c4, .string ⟨#[]⟩, .int .i64 (0)] 35) = W := ⟨_, rfl⟩
    obtain ⟨F, hF⟩ : ∃ F, w4.heap.size = F := ⟨_, rfl⟩
    have AF := hide (show Arr W F 35 [.int .i64 (wd : Int), .int .i64 tg, .slice A4 8 c4, .string ⟨#[]⟩, .int .i64 (0)] from hW ▸ Arr.new_ hF.symm _ _)
    have B0 := hide (show Below w.heap.size w W from hW ▸ b4.out.alloc b4.out.size _)
    have O0 := hide (show Own W w3.heap.size w4.heap.size 47 (.slice A4 8 c4) (ints .u32 m0) from hW ▸ O4.out.alloc _)
    have LF : w.heap.size ≤ F := by have := b4.out.size; omega
    rw [hW, hF]
    clear hW hF b4 O4
    have f0 : W.cell? ⟨F, 0, none⟩ = some (.int .i64 (wd : Int)) := AF.out.cell (k := 0) (by simp)
    have f1 : W.cell? ⟨F, 1, none⟩ = some (.int .i64 tg) := AF.out.cell (k := 1) (by simp)
    have f2 : W.cell? ⟨F, 2, none⟩ = some (.slice A4 8 c4) := AF.out.cell (k := 2) (by simp)
    have f3 : W.cell? ⟨F, 3, none⟩ = some (.string ⟨#[]⟩) := AF.out.cell (k := 3) (by simp)
    have f4 : W.cell? ⟨F, 4, none⟩ = some (.int .i64 (0)) := AF.out.cell (k := 4) (by simp)
    have lF := AF.out.lt
    refine wp_region_held_drew (S := fun w' => Below F W w') (by kernel_rfl) (below_drew (Below.refl _ _)) (fun hHeld => ?_)
    refine take_first 1 79 (.string T) rfl (by kernel_rfl) (by kernel_rfl) (by kernel_rfl) (fun _ _ _ h => h) rfl (yieldsIf_move rfl _ rfl rfl) hHeld ?_
    simp only [Act.put, List.setIfInBounds_toArray, List.set_cons_zero, List.set_cons_succ]
    refine take_first 2 80 (.int .i64 (a : Int)) rfl (by kernel_rfl) (by kernel_rfl) (by kernel_rfl) (fun _ _ _ h => h) rfl (yieldsIf_move rfl _ rfl rfl) hHeld ?_
    simp only [Act.put, List.setIfInBounds_toArray, List.set_cons_zero, List.set_cons_succ]
    refine take_first 3 81 (.string x1) rfl (by kernel_rfl) (by kernel_rfl) (by kernel_rfl) (fun _ _ _ h => h) rfl (.inl ⟨by rfl, fun w' hw' => by have xx := X1.out; go_simp⟩) hHeld ?_
    simp only [Act.put, List.setIfInBounds_toArray, List.set_cons_zero, List.set_cons_succ]
    refine wpAnyH_ready (rs := [0]) (by kernel_rfl) (by simp) (AllReadyH.cons rfl (fun K hK => ?_) AllReadyH.nil)
    go_simp
    have S0 := hide hHeld
    clear hHeld
    refine hK.out _ _ (S0.out) (fun hHeld => ?_)
    clear hK K
    refine wpAnyH_ready (rs := [4]) (by kernel_rfl) (by simp) (AllReadyH.cons rfl (fun K hK => ?_) AllReadyH.nil)
    go_simp
    refine (C1.out _ _ _ _ _ O0.out.drew).mono ?_
    rintro e w5 ⟨A5, c5, rfl, hb5, ho5⟩
    dsimp only
    have S5 := hide (S0.out.trans (hb5.mono (Nat.le_of_lt lF)))
    have O5 := hide ho5
    have AG := hide ((AF.out.drew).below hb5)
    have B5 := hide (bel_new (below_drew B0.out) hb5 B0.out.size)
    clear hb5 ho5 hHeld
    refine hK.out _ _ (S5.out) (fun hHeld => ?_)
    clear hK K
    refine take_first 5 77 (.tuple #[.agg #[.int .i64 (wd : Int), .int .i64 tg, .slice A5 8 c5, .string u1, .int .i64 (a : Int)], .bool true]) rfl (by kernel_rfl) (by kernel_rfl) (by kernel_rfl) (fun _ _ _ h => h) rfl (yieldsIf_move rfl _ rfl rfl) hHeld ?_
    simp only [Act.put, List.setIfInBounds_toArray, List.set_cons_zero, List.set_cons_succ]
    refine take_first 6 83 (.agg #[.int .i64 (wd : Int), .int .i64 tg, .slice A5 8 c5, .string u1, .int .i64 (a : Int)]) rfl (by kernel_rfl) (by kernel_rfl) (by kernel_rfl) (fun _ _ _ h => h) rfl (.inl ⟨by rfl, fun w' hw' => by go_simp⟩) hHeld ?_
    simp only [Act.put, List.setIfInBounds_toArray, List.set_cons_zero, List.set_cons_succ]
    refine take_first 7 84 (.bool true) rfl (by kernel_rfl) (by kernel_rfl) (by kernel_rfl) (fun _ _ _ h => h) rfl (.inl ⟨by rfl, fun w' hw' => by go_simp⟩) hHeld ?_
    simp only [Act.put, List.setIfInBounds_toArray, List.set_cons_zero, List.set_cons_succ]
    have r0 : w5.cell? ⟨F, 0, none⟩ = some (.int .i64 (wd : Int)) := AG.out.cell (k := 0) (by simp)
    have t0' := AG.out.free 0
    have r1 : w5.cell? ⟨F, 1, none⟩ = some (.int .i64 tg) := AG.out.cell (k := 1) (by simp)
    have t1' := AG.out.free 1
    have r2 : w5.cell? ⟨F, 2, none⟩ = some (.slice A4 8 c4) := AG.out.cell (k := 2) (by simp)
    have t2' := AG.out.free 2
    have r3 : w5.cell? ⟨F, 3, none⟩ = some (.string ⟨#[]⟩) := AG.out.cell (k := 3) (by simp)
    have t3' := AG.out.free 3
    have r4 : w5.cell? ⟨F, 4, none⟩ = some (.int .i64 (0)) := AG.out.cell (k := 4) (by simp)
    have t4' := AG.out.free 4
    refine wpAnyH_ready (rs := [8]) (by kernel_rfl) (by simp) (AllReadyH.cons rfl (fun K hK => ?_) AllReadyH.nil)
    go_simp
    clear hHeld
    refine hK.out _ _ (by repeat (first | with_reducible exact S5.out | with_reducible refine Below.setCell ?_ (by simp) _)) (fun hHeld => ?_)
    clear hK K
    refine take_first 9 14 (.bool true) rfl (by kernel_rfl) (by kernel_rfl) (by kernel_rfl) (fun _ _ _ h => h) rfl (.inl ⟨by rfl, fun w' hw' => by go_simp⟩) hHeld ?_
    simp only [Act.put, List.setIfInBounds_toArray, List.set_cons_zero, List.set_cons_succ]
    refine wpAnyH_done (by kernel_rfl) ?_ _
    obtain ⟨V, hV⟩ : ∃ V, (((((w5.setCell ⟨F, 0, none⟩ (.int .i64 (wd : Int))).setCell ⟨F, 1, none⟩ (.int .i64 tg)).setCell ⟨F, 2, none⟩ (.slice A5 8 c5)).setCell ⟨F, 3, none⟩ (.string u1)).setCell ⟨F, 4, none⟩ (.int .i64 (a : Int))) = V := ⟨_, rfl⟩
    have LF2 : F < W.drew.heap.size := lF
    have AF1 := hide (show Arr V F 35 [.int .i64 (wd : Int), .int .i64 tg, .slice A5 8 c5, .string u1, .int .i64 (a : Int)] from hV ▸ (((((AG.out.set_ 0 (.int .i64 (wd : Int))).set_ 1 (.int .i64 tg)).set_ 2 (.slice A5 8 c5)).set_ 3 (.string u1)).set_ 4 (.int .i64 (a : Int))))
    have B1 := hide (show Below w.heap.size w V from hV ▸ (((((B5.out.setCell LF (.int .i64 (wd : Int))).setCell LF (.int .i64 tg)).setCell LF (.slice A5 8 c5)).setCell LF (.string u1)).setCell LF (.int .i64 (a : Int))))
    have O1 := hide (show Own V W.drew.heap.size V.heap.size 47 (.slice A5 8 c5) (ints .u32 m1) from hV ▸ ((((((O5.out.setCell (.inl LF2) (.int .i64 (wd : Int))).setCell (.inl LF2) (.int .i64 tg)).setCell (.inl LF2) (.slice A5 8 c5)).setCell (.inl LF2) (.string u1)).setCell (.inl LF2) (.int .i64 (a : Int)))).top)
    rw [hV]
    clear hV f0 f1 f2 f3 f4 r0 r1 r2 r3 r4 t0' t1' t2' t3' t4' S5 S0 O5 AG B5 AF B0 O0 hHeld
    go_wp2_with fail
    have f0 : V.cell? ⟨F, 0, none⟩ = some (.int .i64 (wd : Int)) := AF1.out.cell (k := 0) (by simp)
    have f1 : V.cell? ⟨F, 1, none⟩ = some (.int .i64 tg) := AF1.out.cell (k := 1) (by simp)
    have f2 : V.cell? ⟨F, 2, none⟩ = some (.slice A5 8 c5) := AF1.out.cell (k := 2) (by simp)
    have f3 : V.cell? ⟨F, 3, none⟩ = some (.string u1) := AF1.out.cell (k := 3) (by simp)
    have f4 : V.cell? ⟨F, 4, none⟩ = some (.int .i64 (a : Int)) := AF1.out.cell (k := 4) (by simp)
    have lF1 := AF1.out.lt
    go_cut [15, 16] from 21 (fun g ok wc => ∃ (G : Nat) (A : Option Addr) (c B C : Nat), g = .pointer (some ⟨G, 0, none⟩) ∧ ok = .bool true ∧ Arr wc G 35 [.int .i64 (wd : Int), .int .i64 tg, .slice A 8 c, .string u2, .int .i64 (b : Int)] ∧ Below w.heap.size w wc ∧ Own wc B C 47 (.slice A 8 c) (ints .u32 m2))
    case first =>
      refine wp_region_held_drew (S := fun w' => Below V.heap.size V w') (by kernel_rfl) (below_drew (Below.refl _ _)) (fun hHeld => ?_)
      refine take_first 0 86 (.agg #[.int .i64 (wd : Int), .int .i64 tg, .slice A5 8 c5, .string u1, .int .i64 (a : Int)]) rfl (by kernel_rfl) (by kernel_rfl) (by kernel_rfl) (fun _ _ _ h => h) rfl (.inl ⟨by rfl, fun w' hw' => by have c0 := (Below.cell hw' lF1).trans f0; have c1 := (Below.cell hw' lF1).trans f1; have c2 := (Below.cell hw' lF1).trans f2; have c3 := (Below.cell hw' lF1).trans f3; have c4 := (Below.cell hw' lF1).trans f4; go_simp⟩) hHeld ?_
      simp only [Act.put, List.setIfInBounds_toArray, List.set_cons_zero, List.set_cons_succ]
      refine take_first 1 87 (.string T) rfl (by kernel_rfl) (by kernel_rfl) (by kernel_rfl) (fun _ _ _ h => h) rfl (yieldsIf_move rfl _ rfl rfl) hHeld ?_
      simp only [Act.put, List.setIfInBounds_toArray, List.set_cons_zero, List.set_cons_succ]
      refine take_first 2 88 (.int .i64 (a : Int)) rfl (by kernel_rfl) (by kernel_rfl) (by kernel_rfl) (fun _ _ _ h => h) rfl (yieldsIf_move rfl _ rfl rfl) hHeld ?_
      simp only [Act.put, List.setIfInBounds_toArray, List.set_cons_zero, List.set_cons_succ]
      refine take_first 3 89 (.int .i64 (b : Int)) rfl (by kernel_rfl) (by kernel_rfl) (by kernel_rfl) (fun _ _ _ h => h) rfl (yieldsIf_move rfl _ rfl rfl) hHeld ?_
      simp only [Act.put, List.setIfInBounds_toArray, List.set_cons_zero, List.set_cons_succ]
      refine take_first 4 90 (.string x2) rfl (by kernel_rfl) (by kernel_rfl) (by kernel_rfl) (fun _ _ _ h => h) rfl (.inl ⟨by rfl, fun w' hw' => by have xx := X2.out; go_simp⟩) hHeld ?_
      simp only [Act.put, List.setIfInBounds_toArray, List.set_cons_zero, List.set_cons_succ]
      refine wpAnyH_ready (rs := [5, 9]) (by kernel_rfl) (by simp) (AllReadyH.cons rfl (fun K hK => ?_) (AllReadyH.cons rfl (fun K hK => ?_) AllReadyH.nil))
      · go_simp
        refine (C2.out _ _ _ _ _ O1.out.drew).mono ?_
        rintro e w5 ⟨A6, c6, rfl, hb5, ho5⟩
        dsimp only
        have S5 := hide (bel_new hHeld hb5 hHeld.size)
        have O5 := hide ho5
        have B5 := hide (bel_new (below_drew B1.out) hb5 B1.out.size)
        clear hb5 ho5 hHeld
        refine hK.out _ _ (S5.out) (fun hHeld => ?_)
        clear hK K
        refine take_first 6 85 (.tuple #[.agg #[.int .i64 (wd : Int), .int .i64 tg, .slice A6 8 c6, .string u2, .int .i64 (b : Int)], .bool true]) rfl (by kernel_rfl) (by kernel_rfl) (by kernel_rfl) (fun _ _ _ h => h) rfl (yieldsIf_move rfl _ rfl rfl) hHeld ?_
        simp only [Act.put, List.setIfInBounds_toArray, List.set_cons_zero, List.set_cons_succ]
        refine take_first 7 92 (.agg #[.int .i64 (wd : Int), .int .i64 tg, .slice A6 8 c6, .string u2, .int .i64 (b : Int)]) rfl (by kernel_rfl) (by kernel_rfl) (by kernel_rfl) (fun _ _ _ h => h) rfl (.inl ⟨by rfl, fun w' hw' => by go_simp⟩) hHeld ?_
        simp only [Act.put, List.setIfInBounds_toArray, List.set_cons_zero, List.set_cons_succ]
        refine take_first 8 93 (.bool true) rfl (by kernel_rfl) (by kernel_rfl) (by kernel_rfl) (fun _ _ _ h => h) rfl (.inl ⟨by rfl, fun w' hw' => by go_simp⟩) hHeld ?_
        simp only [Act.put, List.setIfInBounds_toArray, List.set_cons_zero, List.set_cons_succ]
        refine wpAnyH_ready (rs := [9]) (by kernel_rfl) (by simp) (AllReadyH.cons rfl (fun K hK => ?_) AllReadyH.nil)
        go_simp
        clear hHeld
        refine hK.out _ _ (S5.out.alloc S5.out.size _) (fun hHeld => ?_)
        clear hK K
        refine wpAnyH_ready (rs := [10]) (by kernel_rfl) (by simp) (AllReadyH.cons rfl (fun K hK => ?_) AllReadyH.nil)
        go_simp
        clear hHeld
        refine hK.out _ _ (by repeat (first | with_reducible exact S5.out | with_reducible refine Below.setCell ?_ (by have := S5.out.size; simp; try omega) _ | with_reducible refine Below.alloc ?_ S5.out.size _)) (fun hHeld => ?_)
        clear hK K
        refine take_first 11 16 (.bool true) rfl (by kernel_rfl) (by kernel_rfl) (by kernel_rfl) (fun _ _ _ h => h) rfl (.inl ⟨by rfl, fun w' hw' => by go_simp⟩) hHeld ?_
        simp only [Act.put, List.setIfInBounds_toArray, List.set_cons_zero, List.set_cons_succ]
        refine wpAnyH_done (by kernel_rfl) ?_ _
        set_option maxRecDepth 3000 in go_wp2_with fail
        go_meet
        case rel =>
          exact ⟨w5.heap.size, A6, c6, _, _, rfl, rfl, Arr.new_ rfl _ _, B5.out.alloc B5.out.size _, O5.out.alloc _⟩
      · go_simp
        obtain ⟨Y, hY⟩ : ∃ Y, (V.alloc (.cells #[.int .i64 0, .int .i64 0, .slice none 0 0, .string ⟨#[]⟩, .int .i64 0] 35)).drew = Y := ⟨_, rfl⟩
        have AY := hide (show Arr Y V.heap.size 35 [.int .i64 0, .int .i64 0, .slice none 0 0, .string ⟨#[]⟩, .int .i64 0] from hY ▸ (Arr.new_ (w := V) rfl _ _).drew)
        have BY := hide (show Below w.heap.size w Y from hY ▸ below_drew (B1.out.alloc B1.out.size _))
        have OY := hide (show Own Y W.drew.heap.size V.heap.size 47 (.slice A5 8 c5) (ints .u32 m1) from hY ▸ (O1.out.alloc _).drew)
        have SY := hide (show Below V.heap.size V Y from hY ▸ below_drew ((Below.refl _ _).alloc (Nat.le_refl _) _))
        rw [hY]
        clear hY hHeld
        refine hK.out _ _ SY.out (fun hHeld => ?_)
        clear hK K
        refine wpAnyH_ready (rs := [5]) (by kernel_rfl) (by simp) (AllReadyH.cons rfl (fun K hK => ?_) AllReadyH.nil)
        go_simp
        refine (C2.out _ _ _ _ _ OY.out).mono ?_
        rintro e w5 ⟨A6, c6, rfl, hb5, ho5⟩
        dsimp only
        have S5 := hide (bel_new SY.out hb5 SY.out.size)
        have O5 := hide ho5
        have B5 := hide (bel_new BY.out hb5 BY.out.size)
        have AN := hide (AY.out.below hb5)
        have LV := hide B1.out.size
        have LY := hide AY.out.lt
        clear hb5 ho5 hHeld
        refine hK.out _ _ (S5.out) (fun hHeld => ?_)
        clear hK K
        refine take_first 6 85 (.tuple #[.agg #[.int .i64 (wd : Int), .int .i64 tg, .slice A6 8 c6, .string u2, .int .i64 (b : Int)], .bool true]) rfl (by kernel_rfl) (by kernel_rfl) (by kernel_rfl) (fun _ _ _ h => h) rfl (yieldsIf_move rfl _ rfl rfl) hHeld ?_
        simp only [Act.put, List.setIfInBounds_toArray, List.set_cons_zero, List.set_cons_succ]
        refine take_first 7 92 (.agg #[.int .i64 (wd : Int), .int .i64 tg, .slice A6 8 c6, .string u2, .int .i64 (b : Int)]) rfl (by kernel_rfl) (by kernel_rfl) (by kernel_rfl) (fun _ _ _ h => h) rfl (.inl ⟨by rfl, fun w' hw' => by go_simp⟩) hHeld ?_
        simp only [Act.put, List.setIfInBounds_toArray, List.set_cons_zero, List.set_cons_succ]
        refine take_first 8 93 (.bool true) rfl (by kernel_rfl) (by kernel_rfl) (by kernel_rfl) (fun _ _ _ h => h) rfl (.inl ⟨by rfl, fun w' hw' => by go_simp⟩) hHeld ?_
        simp only [Act.put, List.setIfInBounds_toArray, List.set_cons_zero, List.set_cons_succ]
        have r0 : w5.cell? ⟨V.heap.size, 0, none⟩ = some (.int .i64 0) := AN.out.cell (k := 0) (by simp)
        have t0' : w5.frozen? ⟨V.heap.size, 0, none⟩ = false := AN.out.free 0
        have r1 : w5.cell? ⟨V.heap.size, 1, none⟩ = some (.int .i64 0) := AN.out.cell (k := 1) (by simp)
        have t1' : w5.frozen? ⟨V.heap.size, 1, none⟩ = false := AN.out.free 1
        have r2 : w5.cell? ⟨V.heap.size, 2, none⟩ = some (.slice none 0 0) := AN.out.cell (k := 2) (by simp)
        have t2' : w5.frozen? ⟨V.heap.size, 2, none⟩ = false := AN.out.free 2
        have r3 : w5.cell? ⟨V.heap.size, 3, none⟩ = some (.string ⟨#[]⟩) := AN.out.cell (k := 3) (by simp)
        have t3' : w5.frozen? ⟨V.heap.size, 3, none⟩ = false := AN.out.free 3
        have r4 : w5.cell? ⟨V.heap.size, 4, none⟩ = some (.int .i64 0) := AN.out.cell (k := 4) (by simp)
        have t4' : w5.frozen? ⟨V.heap.size, 4, none⟩ = false := AN.out.free 4
        refine wpAnyH_ready (rs := [10]) (by kernel_rfl) (by simp) (AllReadyH.cons rfl (fun K hK => ?_) AllReadyH.nil)
        go_simp
        obtain ⟨Z, hZ⟩ : ∃ Z, (((((w5.setCell ⟨V.heap.size, 0, none⟩ (.int .i64 (wd : Int))).setCell ⟨V.heap.size, 1, none⟩ (.int .i64 tg)).setCell ⟨V.heap.size, 2, none⟩ (.slice A6 8 c6)).setCell ⟨V.heap.size, 3, none⟩ (.string u2)).setCell ⟨V.heap.size, 4, none⟩ (.int .i64 (b : Int))) = Z := ⟨_, rfl⟩
        have AZ := hide (show Arr Z V.heap.size 35 [.int .i64 (wd : Int), .int .i64 tg, .slice A6 8 c6, .string u2, .int .i64 (b : Int)] from hZ ▸ (((((AN.out.set_ 0 (.int .i64 (wd : Int))).set_ 1 (.int .i64 tg)).set_ 2 (.slice A6 8 c6)).set_ 3 (.string u2)).set_ 4 (.int .i64 (b : Int))))
        have BZ := hide (show Below w.heap.size w Z from hZ ▸ (((((B5.out.setCell LV.out (.int .i64 (wd : Int))).setCell LV.out (.int .i64 tg)).setCell LV.out (.slice A6 8 c6)).setCell LV.out (.string u2)).setCell LV.out (.int .i64 (b : Int))))
        have OZ := hide (show Own Z Y.heap.size w5.heap.size 47 (.slice A6 8 c6) (ints .u32 m2) from hZ ▸ (((((O5.out.setCell (.inl LY.out) (.int .i64 (wd : Int))).setCell (.inl LY.out) (.int .i64 tg)).setCell (.inl LY.out) (.slice A6 8 c6)).setCell (.inl LY.out) (.string u2)).setCell (.inl LY.out) (.int .i64 (b : Int))))
        have SZ := hide (show Below V.heap.size V Z from hZ ▸ (((((S5.out.setCell (Nat.le_refl _) (.int .i64 (wd : Int))).setCell (Nat.le_refl _) (.int .i64 tg)).setCell (Nat.le_refl _) (.slice A6 8 c6)).setCell (Nat.le_refl _) (.string u2)).setCell (Nat.le_refl _) (.int .i64 (b : Int))))
        rw [hZ]
        clear hZ hHeld r0 r1 r2 r3 r4 t0' t1' t2' t3' t4'
        refine hK.out _ _ (SZ.out) (fun hHeld => ?_)
        clear hK K
        refine take_first 11 16 (.bool true) rfl (by kernel_rfl) (by kernel_rfl) (by kernel_rfl) (fun _ _ _ h => h) rfl (.inl ⟨by rfl, fun w' hw' => by go_simp⟩) hHeld ?_
        simp only [Act.put, List.setIfInBounds_toArray, List.set_cons_zero, List.set_cons_succ]
        refine wpAnyH_done (by kernel_rfl) ?_ _
        set_option maxRecDepth 3000 in go_wp2_with fail
        go_meet
        case rel =>
          exact ⟨V.heap.size, A6, c6, _, _, rfl, rfl, AZ.out, BZ.out, OZ.out⟩
    case rest =>
      obtain ⟨G, A6, c6, B6, C6, rfl, rfl, ag, bg, og⟩ := hcut
      obtain ⟨X, hX⟩ : ∃ X, wc = X := ⟨_, rfl⟩
      subst hX
      have AG := hide ag
      have BG := hide bg
      have OG := hide og
      clear ag bg og f0 f1 f2 f3 f4 AF1 B1 O1 lF1
      go_wp2_with fail
      have f0 : wc.cell? ⟨G, 0, none⟩ = some (.int .i64 (wd : Int)) := AG.out.cell (k := 0) (by simp)
      have f1 : wc.cell? ⟨G, 1, none⟩ = some (.int .i64 tg) := AG.out.cell (k := 1) (by simp)
      have f2 : wc.cell? ⟨G, 2, none⟩ = some (.slice A6 8 c6) := AG.out.cell (k := 2) (by simp)
      have f3 : wc.cell? ⟨G, 3, none⟩ = some (.string u2) := AG.out.cell (k := 3) (by simp)
      have f4 : wc.cell? ⟨G, 4, none⟩ = some (.int .i64 (b : Int)) := AG.out.cell (k := 4) (by simp)
      have lG := AG.out.lt
      go_cut [17, 18] from 21 (fun g ok wd' => ∃ (H' : Nat) (A : Option Addr) (c B C : Nat), g = .pointer (some ⟨H', 0, none⟩) ∧ ok = .bool true ∧ Arr wd' H' 35 [.int .i64 (wd : Int), .int .i64 tg, .slice A 8 c, .string u3, .int .i64 (T.size : Int)] ∧ Arr wd' G 35 [.int .i64 (wd : Int), .int .i64 tg, .slice A6 8 c6, .string u2, .int .i64 (b : Int)] ∧ Below w.heap.size w wd' ∧ Own wd' B C 47 (.slice A 8 c) (ints .u32 m3))
      case first =>
        refine wp_region_held_drew (S := fun w' => Below wc.heap.size wc w') (by kernel_rfl) (below_drew (Below.refl _ _)) (fun hHeld => ?_)
        refine take_first 0 95 (.agg #[.int .i64 (wd : Int), .int .i64 tg, .slice A6 8 c6, .string u2, .int .i64 (b : Int)]) rfl (by kernel_rfl) (by kernel_rfl) (by kernel_rfl) (fun _ _ _ h => h) rfl (.inl ⟨by rfl, fun w' hw' => by have c0 := (Below.cell hw' lG).trans f0; have c1 := (Below.cell hw' lG).trans f1; have c2 := (Below.cell hw' lG).trans f2; have c3 := (Below.cell hw' lG).trans f3; have c4 := (Below.cell hw' lG).trans f4; go_simp⟩) hHeld ?_
        simp only [Act.put, List.setIfInBounds_toArray, List.set_cons_zero, List.set_cons_succ]
        refine take_first 1 96 (.string T) rfl (by kernel_rfl) (by kernel_rfl) (by kernel_rfl) (fun _ _ _ h => h) rfl (yieldsIf_move rfl _ rfl rfl) hHeld ?_
        simp only [Act.put, List.setIfInBounds_toArray, List.set_cons_zero, List.set_cons_succ]
        refine take_first 2 97 (.int .i64 (b : Int)) rfl (by kernel_rfl) (by kernel_rfl) (by kernel_rfl) (fun _ _ _ h => h) rfl (yieldsIf_move rfl _ rfl rfl) hHeld ?_
        simp only [Act.put, List.setIfInBounds_toArray, List.set_cons_zero, List.set_cons_succ]
        refine take_first 3 98 (.string x3) rfl (by kernel_rfl) (by kernel_rfl) (by kernel_rfl) (fun _ _ _ h => h) rfl (.inl ⟨by rfl, fun w' hw' => by have xx := X3.out; go_simp⟩) hHeld ?_
        simp only [Act.put, List.setIfInBounds_toArray, List.set_cons_zero, List.set_cons_succ]
        refine wpAnyH_ready (rs := [4, 8]) (by kernel_rfl) (by simp) (AllReadyH.cons rfl (fun K hK => ?_) (AllReadyH.cons rfl (fun K hK => ?_) AllReadyH.nil))
        · go_simp
          refine (C3.out _ _ _ _ _ OG.out.drew).mono ?_
          rintro e w5 ⟨A7, c7, rfl, hb5, ho5⟩
          dsimp only
          have S5 := hide (bel_new hHeld hb5 hHeld.size)
          have O5 := hide ho5
          have B5 := hide (bel_new (below_drew BG.out) hb5 BG.out.size)
          have G5 := hide ((AG.out.drew).below hb5)
          clear hb5 ho5 hHeld
          refine hK.out _ _ (S5.out) (fun hHeld => ?_)
          clear hK K
          refine take_first 5 94 (.tuple #[.agg #[.int .i64 (wd : Int), .int .i64 tg, .slice A7 8 c7, .string u3, .int .i64 (T.size : Int)], .bool true]) rfl (by kernel_rfl) (by kernel_rfl) (by kernel_rfl) (fun _ _ _ h => h) rfl (yieldsIf_move rfl _ rfl rfl) hHeld ?_
          simp only [Act.put, List.setIfInBounds_toArray, List.set_cons_zero, List.set_cons_succ]
          refine take_first 6 100 (.agg #[.int .i64 (wd : Int), .int .i64 tg, .slice A7 8 c7, .string u3, .int .i64 (T.size : Int)]) rfl (by kernel_rfl) (by kernel_rfl) (by kernel_rfl) (fun _ _ _ h => h) rfl (.inl ⟨by rfl, fun w' hw' => by go_simp⟩) hHeld ?_
          simp only [Act.put, List.setIfInBounds_toArray, List.set_cons_zero, List.set_cons_succ]
          refine take_first 7 101 (.bool true) rfl (by kernel_rfl) (by kernel_rfl) (by kernel_rfl) (fun _ _ _ h => h) rfl (.inl ⟨by rfl, fun w' hw' => by go_simp⟩) hHeld ?_
          simp only [Act.put, List.setIfInBounds_toArray, List.set_cons_zero, List.set_cons_succ]
          refine wpAnyH_ready (rs := [8]) (by kernel_rfl) (by simp) (AllReadyH.cons rfl (fun K hK => ?_) AllReadyH.nil)
          go_simp
          clear hHeld
          refine hK.out _ _ (S5.out.alloc S5.out.size _) (fun hHeld => ?_)
          clear hK K
          refine wpAnyH_ready (rs := [9]) (by kernel_rfl) (by simp) (AllReadyH.cons rfl (fun K hK => ?_) AllReadyH.nil)
          go_simp
          clear hHeld
          refine hK.out _ _ (by repeat (first | with_reducible exact S5.out | with_reducible refine Below.setCell ?_ (by have := S5.out.size; simp; try omega) _ | with_reducible refine Below.alloc ?_ S5.out.size _)) (fun hHeld => ?_)
          clear hK K
          refine take_first 10 18 (.bool true) rfl (by kernel_rfl) (by kernel_rfl) (by kernel_rfl) (fun _ _ _ h => h) rfl (.inl ⟨by rfl, fun w' hw' => by go_simp⟩) hHeld ?_
          simp only [Act.put, List.setIfInBounds_toArray, List.set_cons_zero, List.set_cons_succ]
          refine wpAnyH_done (by kernel_rfl) ?_ _
          set_option maxRecDepth 3000 in go_wp2_with fail
          go_meet
          case rel =>
            exact ⟨w5.heap.size, A7, c7, _, _, rfl, rfl, Arr.new_ rfl _ _, G5.out.alloc _, B5.out.alloc B5.out.size _, O5.out.alloc _⟩
        · go_simp
          obtain ⟨Y, hY⟩ : ∃ Y, (wc.alloc (.cells #[.int .i64 0, .int .i64 0, .slice none 0 0, .string ⟨#[]⟩, .int .i64 0] 35)).drew = Y := ⟨_, rfl⟩
          have AY := hide (show Arr Y wc.heap.size 35 [.int .i64 0, .int .i64 0, .slice none 0 0, .string ⟨#[]⟩, .int .i64 0] from hY ▸ (Arr.new_ (w := wc) rfl _ _).drew)
          have BY := hide (show Below w.heap.size w Y from hY ▸ below_drew (BG.out.alloc BG.out.size _))
          have OY := hide (show Own Y B6 C6 47 (.slice A6 8 c6) (ints .u32 m2) from hY ▸ (OG.out.alloc _).drew)
          have SY := hide (show Below wc.heap.size wc Y from hY ▸ below_drew ((Below.refl _ _).alloc (Nat.le_refl _) _))
          have GY := hide (show Arr Y G 35 [.int .i64 (wd : Int), .int .i64 tg, .slice A6 8 c6, .string u2, .int .i64 (b : Int)] from hY ▸ (AG.out.alloc _).drew)
          rw [hY]
          clear hY hHeld
          refine hK.out _ _ SY.out (fun hHeld => ?_)
          clear hK K
          refine wpAnyH_ready (rs := [4]) (by kernel_rfl) (by simp) (AllReadyH.cons rfl (fun K hK => ?_) AllReadyH.nil)
          go_simp
          refine (C3.out _ _ _ _ _ OY.out).mono ?_
          rintro e w5 ⟨A7, c7, rfl, hb5, ho5⟩
          dsimp only
          have S5 := hide (bel_new SY.out hb5 SY.out.size)
          have O5 := hide ho5
          have B5 := hide (bel_new BY.out hb5 BY.out.size)
          have AN := hide (AY.out.below hb5)
          have LV := hide BG.out.size
          have LY := hide AY.out.lt
          have GN := hide (GY.out.below hb5)
          clear hb5 ho5 hHeld
          refine hK.out _ _ (S5.out) (fun hHeld => ?_)
          clear hK K
          refine take_first 5 94 (.tuple #[.agg #[.int .i64 (wd : Int), .int .i64 tg, .slice A7 8 c7, .string u3, .int .i64 (T.size : Int)], .bool true]) rfl (by kernel_rfl) (by kernel_rfl) (by kernel_rfl) (fun _ _ _ h => h) rfl (yieldsIf_move rfl _ rfl rfl) hHeld ?_
          simp only [Act.put, List.setIfInBounds_toArray, List.set_cons_zero, List.set_cons_succ]
          refine take_first 6 100 (.agg #[.int .i64 (wd : Int), .int .i64 tg, .slice A7 8 c7, .string u3, .int .i64 (T.size : Int)]) rfl (by kernel_rfl) (by kernel_rfl) (by kernel_rfl) (fun _ _ _ h => h) rfl (.inl ⟨by rfl, fun w' hw' => by go_simp⟩) hHeld ?_
          simp only [Act.put, List.setIfInBounds_toArray, List.set_cons_zero, List.set_cons_succ]
          refine take_first 7 101 (.bool true) rfl (by kernel_rfl) (by kernel_rfl) (by kernel_rfl) (fun _ _ _ h => h) rfl (.inl ⟨by rfl, fun w' hw' => by go_simp⟩) hHeld ?_
          simp only [Act.put, List.setIfInBounds_toArray, List.set_cons_zero, List.set_cons_succ]
          have r0 : w5.cell? ⟨wc.heap.size, 0, none⟩ = some (.int .i64 0) := AN.out.cell (k := 0) (by simp)
          have t0' : w5.frozen? ⟨wc.heap.size, 0, none⟩ = false := AN.out.free 0
          have r1 : w5.cell? ⟨wc.heap.size, 1, none⟩ = some (.int .i64 0) := AN.out.cell (k := 1) (by simp)
          have t1' : w5.frozen? ⟨wc.heap.size, 1, none⟩ = false := AN.out.free 1
          have r2 : w5.cell? ⟨wc.heap.size, 2, none⟩ = some (.slice none 0 0) := AN.out.cell (k := 2) (by simp)
          have t2' : w5.frozen? ⟨wc.heap.size, 2, none⟩ = false := AN.out.free 2
          have r3 : w5.cell? ⟨wc.heap.size, 3, none⟩ = some (.string ⟨#[]⟩) := AN.out.cell (k := 3) (by simp)
          have t3' : w5.frozen? ⟨wc.heap.size, 3, none⟩ = false := AN.out.free 3
          have r4 : w5.cell? ⟨wc.heap.size, 4, none⟩ = some (.int .i64 0) := AN.out.cell (k := 4) (by simp)
          have t4' : w5.frozen? ⟨wc.heap.size, 4, none⟩ = false := AN.out.free 4
          refine wpAnyH_ready (rs := [9]) (by kernel_rfl) (by simp) (AllReadyH.cons rfl (fun K hK => ?_) AllReadyH.nil)
          go_simp
          obtain ⟨Z, hZ⟩ : ∃ Z, (((((w5.setCell ⟨wc.heap.size, 0, none⟩ (.int .i64 (wd : Int))).setCell ⟨wc.heap.size, 1, none⟩ (.int .i64 tg)).setCell ⟨wc.heap.size, 2, none⟩ (.slice A7 8 c7)).setCell ⟨wc.heap.size, 3, none⟩ (.string u3)).setCell ⟨wc.heap.size, 4, none⟩ (.int .i64 (T.size : Int))) = Z := ⟨_, rfl⟩
          have AZ := hide (show Arr Z wc.heap.size 35 [.int .i64 (wd : Int), .int .i64 tg, .slice A7 8 c7, .string u3, .int .i64 (T.size : Int)] from hZ ▸ (((((AN.out.set_ 0 (.int .i64 (wd : Int))).set_ 1 (.int .i64 tg)).set_ 2 (.slice A7 8 c7)).set_ 3 (.string u3)).set_ 4 (.int .i64 (T.size : Int))))
          have BZ := hide (show Below w.heap.size w Z from hZ ▸ (((((B5.out.setCell LV.out (.int .i64 (wd : Int))).setCell LV.out (.int .i64 tg)).setCell LV.out (.slice A7 8 c7)).setCell LV.out (.string u3)).setCell LV.out (.int .i64 (T.size : Int))))
          have OZ := hide (show Own Z Y.heap.size w5.heap.size 47 (.slice A7 8 c7) (ints .u32 m3) from hZ ▸ (((((O5.out.setCell (.inl LY.out) (.int .i64 (wd : Int))).setCell (.inl LY.out) (.int .i64 tg)).setCell (.inl LY.out) (.slice A7 8 c7)).setCell (.inl LY.out) (.string u3)).setCell (.inl LY.out) (.int .i64 (T.size : Int))))
          have SZ := hide (show Below wc.heap.size wc Z from hZ ▸ (((((S5.out.setCell (Nat.le_refl _) (.int .i64 (wd : Int))).setCell (Nat.le_refl _) (.int .i64 tg)).setCell (Nat.le_refl _) (.slice A7 8 c7)).setCell (Nat.le_refl _) (.string u3)).setCell (Nat.le_refl _) (.int .i64 (T.size : Int))))
          have GZ := hide (show Arr Z G 35 [.int .i64 (wd : Int), .int .i64 tg, .slice A6 8 c6, .string u2, .int .i64 (b : Int)] from hZ ▸ (((((GN.out.setCell (Nat.ne_of_gt lG) (.int .i64 (wd : Int))).setCell (Nat.ne_of_gt lG) (.int .i64 tg)).setCell (Nat.ne_of_gt lG) (.slice A7 8 c7)).setCell (Nat.ne_of_gt lG) (.string u3)).setCell (Nat.ne_of_gt lG) (.int .i64 (T.size : Int))))
          rw [hZ]
          clear hZ hHeld r0 r1 r2 r3 r4 t0' t1' t2' t3' t4'
          refine hK.out _ _ (SZ.out) (fun hHeld => ?_)
          clear hK K
          refine take_first 10 18 (.bool true) rfl (by kernel_rfl) (by kernel_rfl) (by kernel_rfl) (fun _ _ _ h => h) rfl (.inl ⟨by rfl, fun w' hw' => by go_simp⟩) hHeld ?_
          simp only [Act.put, List.setIfInBounds_toArray, List.set_cons_zero, List.set_cons_succ]
          refine wpAnyH_done (by kernel_rfl) ?_ _
          set_option maxRecDepth 3000 in go_wp2_with fail
          go_meet
          case rel =>
            exact ⟨wc.heap.size, A7, c7, _, _, rfl, rfl, AZ.out, GZ.out, BZ.out, OZ.out⟩
      case rest =>
        clear f0 f1 f2 f3 f4 AG BG OG lG
        obtain ⟨Hh, A7, c7, B7, C7, rfl, rfl, ah, ag, bh, oh⟩ := hcut
        have AH := hide ah
        have AG := hide ag
        have BH := hide bh
        have OH := hide oh
        clear ah ag bh oh C1 C2 C3 X1 X2 X3
        have h0 : wc.cell? ⟨Hh, 0, none⟩ = some (.int .i64 (wd : Int)) := AH.out.cell (k := 0) (by simp)
        have h1 : wc.cell? ⟨Hh, 1, none⟩ = some (.int .i64 tg) := AH.out.cell (k := 1) (by simp)
        have h2 : wc.cell? ⟨Hh, 2, none⟩ = some (.slice A7 8 c7) := AH.out.cell (k := 2) (by simp)
        have h3 : wc.cell? ⟨Hh, 3, none⟩ = some (.string u3) := AH.out.cell (k := 3) (by simp)
        have h4 : wc.cell? ⟨Hh, 4, none⟩ = some (.int .i64 (T.size : Int)) := AH.out.cell (k := 4) (by simp)
        go_wp2_with fail
        refine (CE.out _ _ _ _ _ OH.out).mono ?_
        rintro e w8 ⟨rfl, hb8⟩
        have AH8 := hide (AH.out.below hb8)
        have AG8 := hide (AG.out.below hb8)
        have B8 := hide (bel_new BH.out hb8 BH.out.size)
        clear hb8 h0 h1 h2 h3 h4 AH AG BH OH
        have h0 : w8.cell? ⟨Hh, 0, none⟩ = some (.int .i64 (wd : Int)) := AH8.out.cell (k := 0) (by simp)
        have h1 : w8.cell? ⟨Hh, 1, none⟩ = some (.int .i64 tg) := AH8.out.cell (k := 1) (by simp)
        have h2 : w8.cell? ⟨Hh, 2, none⟩ = some (.slice A7 8 c7) := AH8.out.cell (k := 2) (by simp)
        have h3 : w8.cell? ⟨Hh, 3, none⟩ = some (.string u3) := AH8.out.cell (k := 3) (by simp)
        have h4 : w8.cell? ⟨Hh, 4, none⟩ = some (.int .i64 (T.size : Int)) := AH8.out.cell (k := 4) (by simp)
        go_wp2_with fail
        refine (K3.out _ _ _).mono ?_
        rintro e w9 ⟨rfl, hb9⟩
        have AG9 := hide (AG8.out.below hb9)
        have B9 := hide (bel_new B8.out hb9 B8.out.size)
        clear hb9 h0 h1 h2 h3 h4 AH8 AG8 B8
        have h0 : w9.cell? ⟨G, 0, none⟩ = some (.int .i64 (wd : Int)) := AG9.out.cell (k := 0) (by simp)
        have h1 : w9.cell? ⟨G, 1, none⟩ = some (.int .i64 tg) := AG9.out.cell (k := 1) (by simp)
        have h2 : w9.cell? ⟨G, 2, none⟩ = some (.slice A6 8 c6) := AG9.out.cell (k := 2) (by simp)
        have h3 : w9.cell? ⟨G, 3, none⟩ = some (.string u2) := AG9.out.cell (k := 3) (by simp)
        have h4 : w9.cell? ⟨G, 4, none⟩ = some (.int .i64 (b : Int)) := AG9.out.cell (k := 4) (by simp)
        go_wp2_with fail
        refine (K2.out _ _ _).mono ?_
        rintro e w10 ⟨rfl, hb10⟩
        have B10 := hide (bel_new B9.out hb10 B9.out.size)
        clear hb10
        go_wp2
        go_ret
        exact ⟨rfl, B10.out⟩

set_option maxRecDepth 100000 in
theorem lifted (os : Os) (started : os.Started) (H : Type) (enc : TypeId × Value → H) :
    ReturnsInHanded {} Try.checked os 4 .any (Rows.fnPiecesSpec.pre6 enc Try.prog Try.f4 Rows.fnPiecesRow.domain false) (Rows.fnPiecesSpec.post enc Try.prog Try.f4 false true false false) := by
  refine returnsInHanded_of_change (C := Try.checked) own started (by kernel_rfl) Try.func4
    (ChangeSpec.witness6 (enc := enc) (C := Try.checked) false ⟨#[], #[.slice none 0 0], []⟩ 8 (by kernel_rfl) (by kernel_rfl) (by kernel_rfl) (by kernel_rfl)) ?_
  intro W base args ds gs before hval0 hW hcnd _
  have hval : ∀ (j : Nat) t v, Try.f4.params[j]? = some t → args[j]? = some v → Value.okWide Try.prog W .any base t v := hval0
  have hW' := hW
  obtain ⟨p, q, hA0, hV, rfl, hfz, hnd⟩ := hW
  have hA : DataW.TrodAll enc Try.prog W 0 (fun _ => true) true Try.f4.params.toList args.toList ds p := hA0
  rw [Try.params4] at hA hval
  obtain ⟨v0, vs0, d0, ds0, p0, q0, hargs, rfl, rfl, h0, r0⟩ := trodAll_cons hA
  obtain ⟨rfl, rfl, rfl⟩ := trodAll_nil r0
  obtain rfl : args = #[v0] := by cases args; simp_all
  obtain ⟨rfl, rfl⟩ := trodVars_none hV
  have k0 := h0
  have lt0 : ∀ x ∈ p0, x.block < W.heap.size := by obtain ⟨m, hm⟩ := k0; exact DataW.trod_lt m _ _ _ hm
  obtain ⟨A0, L0, C0, rfl⟩ := okWide_slice Try.underlying22 (hval 0 22 v0 rfl rfl)
  obtain ⟨fuel0, hf0⟩ := h0
  obtain ⟨a0, cap0, z0, ea0, w0, l0, b0⟩ := rd_ints (v := .slice A0 L0 C0) Try.underlying22 Try.underlying5 (by kernel_rfl) (by simpa [Value.cells] using hf0)
  simp only [Value.slice.injEq] at ea0
  obtain ⟨xa0, ya0, ta0⟩ := ea0
  replace xa0 := xa0.symm
  replace ta0 := ta0.symm
  subst xa0
  subst ta0
  subst ya0
  clear hA0 hval0
  refine (walk a0 cap0 z0 W w0 l0 b0).mono fun e W' ⟨he, bel⟩ => ?_
  subst he
  exact ⟨_, rfl, _, _, _, [], _, [], hW', trodAll_mk1 (shut_bool Try.underlying4 _), (trodAll_cons_mk (Below.trod laidOut (by kernel_rfl) (of_decide_eq_true (by kernel_rfl)) k0 bel lt0) trodAll_mk0), rfl, bel.frame _, fun h => by cases h⟩

theorem over : Rows.fnPiecesRow.holds Try.pinned (OpenSpec.ofChange Rows.fnPiecesSpec) :=
  OpenClaim.holds_of_wide 4 Try.f4 rfl rfl rfl rfl rfl rfl rfl ⟨rfl, rfl, rfl, rfl, rfl⟩ rfl rfl rfl rfl rfl (by kernel_rfl) Try.func4 (by kernel_rfl)
    (of_decide_eq_true (by kernel_rfl)) (by unfold Func.isWrapper; first | (rw [if_pos (by decide +kernel)]; kernel_rfl) | (rw [if_neg (by decide +kernel)]; exact ⟨rfl, rfl⟩))
    (fun os started H enc _ => lifted os started H enc)

theorem proved : Rows.FnPiecesSaid := over
#print axioms proved
end Go.Proofs.Ytceeaejhlpdalaa.fnPieces

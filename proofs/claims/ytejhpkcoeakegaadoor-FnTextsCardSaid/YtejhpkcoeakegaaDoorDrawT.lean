/-
  The walks of the draws of lines and texts.
-/
import Derived.Test.YtejhpkcoeakegaaDoorDraw
import Derived.Test.YtejhpkcoeakegaaDoorHex2
import Derived.Test.YtejhpkcoeakegaaDoorText
import Derived.Test.YtejhpkcoeakegaaDoorLibS
namespace Go.Proofs.YtejhpkcoeakegaaDoor
set_option linter.unusedVariables false
open Go.RowKit

theorem ints_set2 (k : IntKind) (zs : List Int) (i : Nat) (x : Int) : (ints k zs).set i (.int k x) = ints k (zs.set i x) := by
  unfold ints; exact List.map_set.symm
set_option maxRecDepth 100000 in
set_option maxHeartbeats 1000000 in
theorem s_l01Long (n f : Int) (w : World) (h0 : 0 ≤ n) (h1 : n ≤ 100000) :
    Calls Tryd.prog 37 #[.int .i64 n, .int .u8 f] w fun e w' => ∃ s : ByteArray, e = .returned (.string s) ∧ (s.size : Int) = n ∧ Below w.heap.size w w' := by
  obtain ⟨M, rfl⟩ := Int.eq_ofNat_of_zero_le h0
  obtain ⟨i0, hi, hz0, hz1, hz2⟩ := info_parts infoU8d
  go_enter Tryd.func37, Tryd.ntmps37
  go_wp2_with (refine wpList_make_full _ rfl (.tmp 7) (.tmp 7) _ rfl w.heap.size 5 i0 (.int .u8 0) 1 Tryd.underlying25 hi hz0 hz1 .i64 .i64 _ _ M rfl rfl rfl rfl (by rw [hz2]; omega) (by unfold maxLen; omega) (Nat.le_refl _) ?_; intro w1 hown1 hg1)
  have hb1 : Below w.heap.size w w1 := (Below.refl _ _).grown hg1 (Nat.le_refl _) (fun k hk => by cases hk)
  have ho1 : Own w1 w.heap.size (w.heap.size + 1) 5 (.slice (some ⟨w.heap.size, 0, none⟩) M M) (ints .u8 (List.replicate M 0)) := by
    refine ⟨?_, fun g hg => by simp [Value.ownBlock] at hg; omega⟩
    have e1 : (madeCells (Value.int .u8 0).cells (M * 1)).toList = ints .u8 (List.replicate M 0) := by
      rw [Nat.mul_one, show (Value.int .u8 0).cells = #[Value.int .u8 0] from rfl, toList_madeCells_one]
      simp [ints]
    rw [← e1]
    have e2 : (madeCells (Value.int .u8 0).cells (M * 1)).toList.length = M := by rw [e1]; simp [ints]
    rw [e2]
    exact hown1
  clear hown1 hg1
  go_loopw [6] (fun i wr => ∃ (j : Nat) (zs : List Int), j ≤ M ∧ i = .int .i64 (j : Int) ∧ Hid (zs.length = M) ∧ Below w.heap.size w wr ∧ Own wr w.heap.size (w.heap.size + 1) 5 (.slice (some ⟨w.heap.size, 0, none⟩) M M) (ints .u8 zs)) (fun i _ => M - (intOf i).toNat)
  case atStart => exact ⟨0, _, Nat.zero_le _, rfl, hide List.length_replicate, hb1, ho1⟩
  case round =>
    clear ho1 hb1
    obtain ⟨j, zs, hj, rfl, hz, hb, hown⟩ := hrel
    have Hown := hide hown
    have HB := hide hb
    clear hown hb
    by_cases hlt : j < M
    · have hl2 : j < (ints .u8 zs).length := by rw [length_ints, hz.out]; exact hlt
      obtain ⟨hB, hC, hg, hc, hf⟩ := Hown.out.at3 hl2
      have Hnew := hide (Own.set_ (cap := M) (by rw [length_ints, hz.out]; exact Hown.out) hl2 (.int .u8 f))
      clear hB
      go_wp2
      go_roundw
      case rel =>
        refine ⟨j + 1, zs.set j f, by omega, by go_num, hide (by rw [List.length_set]; exact hz.out), HB.out.setCell (Nat.le_refl _) _, ?_⟩
        have hx := Hnew.out
        rw [ints_set2, length_ints, List.length_set, hz.out] at hx
        exact hx
      case measure => simp [intOf]; omega
    · have kc := run_str_own (P := Tryd.prog) (w := wr) _ _ _ Tryd.underlying25 Tryd.underlying5 Tryd.underlying9 _ _ Hown.out
      go_wp2
      go_ret
      exact ⟨_, rfl, by rw [size_strNums, hz.out], HB.out⟩
set_option maxRecDepth 100000 in
theorem s_l01Pick (N : Nat) (zs : List ByteArray) (A : Option Addr) (c L H : Nat) (w : World) (h : CurOk w N) (hR : Rd w L H A (strs zs)) (hL : N < L) (h0 : 0 < zs.length) (hn : zs.length ≤ 1048576) :
    Calls Tryd.prog 36 #[.pointer (some ⟨N, 0, none⟩), .slice A zs.length c] w fun e w' => ∃ v : ByteArray, e = .returned (.string v) ∧ v ∈ zs ∧ CurOk w' N ∧ Chg N (N + 1) w w' := by
  have HC := hide h
  have HR := hide hR
  clear h hR
  go_enter Tryd.func36, Tryd.ntmps36
  go_wp2_with fail
  refine (s_l01Below N _ _ HC.out).mono ?_
  rintro e w1 ⟨x, rfl, x0, x1, -, hc1, hg1⟩
  have K1 := hide hc1
  have G1 := hide hg1
  have R1 := hide (HR.out.chg hg1 (.inr (by omega)))
  clear hc1 hg1
  replace x1 := x1 (by omega)
  obtain ⟨X, rfl⟩ := Int.eq_ofNat_of_zero_le x0
  have hl2 : X < (strs zs).length := by rw [length_strs]; omega
  obtain ⟨ad, rfl, _, _, hcell⟩ := R1.out.at_ hl2
  rw [strs_get] at hcell
  have hm := hide (List.getElem_mem (l := zs) (n := X) (by omega))
  generalize zs[X]'(by omega) = v at *
  go_wp2
  go_ret
  exact ⟨v, rfl, hm.out, K1.out, G1.out⟩
set_option maxRecDepth 100000 in
set_option maxHeartbeats 8000000 in
theorem s_l01Line (N : Nat) (w : World) (h : CurOk w N) :
    Calls Tryd.prog 35 #[.pointer (some ⟨N, 0, none⟩)] w fun e w' => ∃ s : ByteArray, e = .returned (.string s) ∧ s.size ≤ 1000 ∧ CurOk w' N ∧ Chg N (N + 1) w w' := by
  have HC := hide h
  have L0 := h.lt
  clear h
  go_enter Tryd.func35, Tryd.ntmps35
  go_wp2_with fail
  refine (s_l01Below N _ _ HC.out).mono ?_
  rintro e w1 ⟨x, rfl, x0, x1, -, hk, hg⟩
  have K1 := hide hk
  have F1 := hide (hg)
  have L1 := hk.lt
  clear hk hg
  replace x1 := x1 (by omega)
  go_wp2_with fail
  refine (s_l01Once N _ _ K1.out).mono ?_
  rintro e w2 ⟨b, rfl, hk, hg⟩
  have K2 := hide hk
  have F2 := hide (F1.out.trans hg)
  have L2 := hk.lt
  clear hk hg
  cases b
  · have n0 : 0 ≤ x := x0
    have n1 : x ≤ 13 := by omega
    generalize hn : x = n at *
    go_wp2
    go_loopw [4, 5] (fun v i wr => ∃ (j : Nat) (s : ByteArray), (j : Int) ≤ n ∧ i = .int .i64 (j : Int) ∧ v = .string s ∧ s.size ≤ 8 * j ∧ CurOk wr N ∧ Chg N (N + 1) w wr) (fun _ i _ => (n - intOf i).toNat)
    case atStart => exact ⟨0, _, by omega, rfl, rfl, by decide, K2.out, F2.out⟩
    case round =>
      obtain ⟨j, s, hj, rfl, rfl, hs, hk, hg⟩ := hrel
      have KR := hide hk
      have GR := hide hg
      clear hk hg
      by_cases hlt : (j : Int) < n
      · by_cases hj0 : j = 0
        · subst hj0
          go_wp2_with fail
          refine (s_l01Once N _ _ KR.out).mono ?_
          rintro e wo ⟨b3, rfl, hk, hg⟩
          have KO := hide hk
          have GO := hide (GR.out.trans hg)
          clear hk hg
          cases b3
          · go_wp2
            go_loopw [4, 6] (fun v k wr => ∃ (m : Nat) (u : ByteArray), m ≤ 5 ∧ k = .int .i64 (m : Int) ∧ v = .string u ∧ u.size ≤ 8 * 0 + 3 + m ∧ CurOk wr N ∧ Chg N (N + 1) w wr) (fun _ k _ => 5 - (intOf k).toNat)
            case atStart => exact ⟨0, _, Nat.zero_le _, rfl, rfl, by omega, KO.out, GO.out⟩
            case round =>
              obtain ⟨m, u, hm, rfl, rfl, hu, hk, hg⟩ := hrel
              have KI := hide hk
              have GI := hide hg
              clear hk hg
              go_wp2_with fail
              refine (s_l01Below N _ _ KI.out).mono ?_
              rintro e wi ⟨q, rfl, q0, q1, -, hk, hg⟩
              replace q1 := q1 (by omega)
              have KJ := hide hk
              have GJ := hide (GI.out.trans hg)
              clear hk hg
              by_cases hq : (m : Int) ≤ q
              · go_wp2_with fail
                refine (s_l01Below N _ _ KJ.out).mono ?_
                rintro e wj ⟨y2, rfl, y20, y21, -, hk, hg⟩
                replace y21 := y21 (by omega)
                have KL := hide hk
                have GL := hide (GJ.out.trans hg)
                clear hk hg
                have kc := run_one (P := Tryd.prog) _ _ _ Tryd.underlying5 Tryd.underlying9 Tryd.underlying25
                have wu : IntKind.u8.wrap (33 + y2) = 33 + y2 := by simp [IntKind.wrap, IntKind.signed, IntKind.bits]; omega
                have gs : ¬ 9223372036854775807 < u.size + (one (33 + y2)).size := by rw [one_size]; omega
                have hus := hide (show (u ++ one (33 + y2)).size = u.size + 1 by rw [ByteArray.size_append, one_size])
                go_wp2
                go_roundw
                case rel => exact ⟨m + 1, _, by omega, by go_num, rfl, by have := hus.out; omega, KL.out.alloc _, GL.out.alloc _⟩
                case measure => simp [intOf] <;> omega
              · go_wp2
                go_roundw
                case rel => exact ⟨0 + 1, u, by omega, by go_num, rfl, by omega, KJ.out, GJ.out⟩
                case measure => simp [intOf] <;> omega
          · go_wp2_with fail
            refine (s_l01Below N _ _ KO.out).mono ?_
            rintro e wa ⟨y, rfl, y0, y1, -, hk, hg⟩
            replace y1 := y1 (by omega)
            have KA := hide hk
            have GA := hide (GO.out.trans hg)
            clear hk hg
            go_wp2_with fail
            refine (s_l01Below N _ _ KA.out).mono ?_
            rintro e wb ⟨z, rfl, z0, z1, -, hk, hg⟩
            replace z1 := z1 (by omega)
            have KB := hide hk
            have GB := hide (GA.out.trans hg)
            clear hk hg
            have p01 : 0 ≤ y * z ∧ y * z ≤ 2 := by
              have hy : y = 0 ∨ y = 1 := by omega
              rcases hy with rfl | rfl <;> omega
            obtain ⟨p0, p1⟩ := p01
            go_wp2_with fail
            refine (s_l01Long _ _ _ (by omega) (by omega)).mono ?_
            rintro e wc ⟨t, rfl, ht, hb⟩
            have KC := hide (KB.out.below hb)
            have GC := hide (GB.out.below_ (hb.mono GB.out.size))
            clear hb
            have gs : ¬ 9223372036854775807 < s.size + t.size := by omega
            have hst := hide (show (s ++ t).size = s.size + t.size from ByteArray.size_append)
            go_wp2
            go_loopw [4, 6] (fun v k wr => ∃ (m : Nat) (u : ByteArray), m ≤ 5 ∧ k = .int .i64 (m : Int) ∧ v = .string u ∧ u.size ≤ 8 * 0 + 3 + m ∧ CurOk wr N ∧ Chg N (N + 1) w wr) (fun _ k _ => 5 - (intOf k).toNat)
            case atStart => exact ⟨0, _, Nat.zero_le _, rfl, rfl, by have := hst.out; omega, KC.out, GC.out⟩
            case round =>
              obtain ⟨m, u, hm, rfl, rfl, hu, hk, hg⟩ := hrel
              have KI := hide hk
              have GI := hide hg
              clear hk hg
              go_wp2_with fail
              refine (s_l01Below N _ _ KI.out).mono ?_
              rintro e wi ⟨q, rfl, q0, q1, -, hk, hg⟩
              replace q1 := q1 (by omega)
              have KJ := hide hk
              have GJ := hide (GI.out.trans hg)
              clear hk hg
              by_cases hq : (m : Int) ≤ q
              · go_wp2_with fail
                refine (s_l01Below N _ _ KJ.out).mono ?_
                rintro e wj ⟨y2, rfl, y20, y21, -, hk, hg⟩
                replace y21 := y21 (by omega)
                have KL := hide hk
                have GL := hide (GJ.out.trans hg)
                clear hk hg
                have kc := run_one (P := Tryd.prog) _ _ _ Tryd.underlying5 Tryd.underlying9 Tryd.underlying25
                have wu : IntKind.u8.wrap (33 + y2) = 33 + y2 := by simp [IntKind.wrap, IntKind.signed, IntKind.bits]; omega
                have gs : ¬ 9223372036854775807 < u.size + (one (33 + y2)).size := by rw [one_size]; omega
                have hus := hide (show (u ++ one (33 + y2)).size = u.size + 1 by rw [ByteArray.size_append, one_size])
                go_wp2
                go_roundw
                case rel => exact ⟨m + 1, _, by omega, by go_num, rfl, by have := hus.out; omega, KL.out.alloc _, GL.out.alloc _⟩
                case measure => simp [intOf] <;> omega
              · go_wp2
                go_roundw
                case rel => exact ⟨0 + 1, u, by omega, by go_num, rfl, by omega, KJ.out, GJ.out⟩
                case measure => simp [intOf] <;> omega
        · have hjp : 0 < (j : Int) := by omega
          go_wp2_with fail
          refine (s_l01Below N _ _ KR.out).mono ?_
          rintro e wa ⟨y, rfl, y0, y1, -, hk, hg⟩
          replace y1 := y1 (by omega)
          have KA := hide hk
          have GA := hide (GR.out.trans hg)
          clear hk hg
          go_wp2_with fail
          refine (s_l01Below N _ _ KA.out).mono ?_
          rintro e wb ⟨z, rfl, z0, z1, -, hk, hg⟩
          replace z1 := z1 (by omega)
          have KB := hide hk
          have GB := hide (GA.out.trans hg)
          clear hk hg
          have p01 : 0 ≤ y * z ∧ y * z ≤ 2 := by
            have hy : y = 0 ∨ y = 1 := by omega
            rcases hy with rfl | rfl <;> omega
          obtain ⟨p0, p1⟩ := p01
          go_wp2_with fail
          refine (s_l01Long _ _ _ (by omega) (by omega)).mono ?_
          rintro e wc ⟨t, rfl, ht, hb⟩
          have KC := hide (KB.out.below hb)
          have GC := hide (GB.out.below_ (hb.mono GB.out.size))
          clear hb
          have gs : ¬ 9223372036854775807 < s.size + t.size := by omega
          have hst := hide (show (s ++ t).size = s.size + t.size from ByteArray.size_append)
          go_wp2
          go_loopw [4, 6] (fun v k wr => ∃ (m : Nat) (u : ByteArray), m ≤ 5 ∧ k = .int .i64 (m : Int) ∧ v = .string u ∧ u.size ≤ 8 * j + 3 + m ∧ CurOk wr N ∧ Chg N (N + 1) w wr) (fun _ k _ => 5 - (intOf k).toNat)
          case atStart => exact ⟨0, _, Nat.zero_le _, rfl, rfl, by have := hst.out; omega, KC.out, GC.out⟩
          case round =>
            obtain ⟨m, u, hm, rfl, rfl, hu, hk, hg⟩ := hrel
            have KI := hide hk
            have GI := hide hg
            clear hk hg
            go_wp2_with fail
            refine (s_l01Below N _ _ KI.out).mono ?_
            rintro e wi ⟨q, rfl, q0, q1, -, hk, hg⟩
            replace q1 := q1 (by omega)
            have KJ := hide hk
            have GJ := hide (GI.out.trans hg)
            clear hk hg
            by_cases hq : (m : Int) ≤ q
            · go_wp2_with fail
              refine (s_l01Below N _ _ KJ.out).mono ?_
              rintro e wj ⟨y2, rfl, y20, y21, -, hk, hg⟩
              replace y21 := y21 (by omega)
              have KL := hide hk
              have GL := hide (GJ.out.trans hg)
              clear hk hg
              have kc := run_one (P := Tryd.prog) _ _ _ Tryd.underlying5 Tryd.underlying9 Tryd.underlying25
              have wu : IntKind.u8.wrap (33 + y2) = 33 + y2 := by simp [IntKind.wrap, IntKind.signed, IntKind.bits]; omega
              have gs : ¬ 9223372036854775807 < u.size + (one (33 + y2)).size := by rw [one_size]; omega
              have hus := hide (show (u ++ one (33 + y2)).size = u.size + 1 by rw [ByteArray.size_append, one_size])
              go_wp2
              go_roundw
              case rel => exact ⟨m + 1, _, by omega, by go_num, rfl, by have := hus.out; omega, KL.out.alloc _, GL.out.alloc _⟩
              case measure => simp [intOf] <;> omega
            · go_wp2
              go_roundw
              case rel => exact ⟨j + 1, u, by omega, by go_num, rfl, by omega, KJ.out, GJ.out⟩
              case measure => simp [intOf] <;> omega
      · go_wp2
        go_ret
        exact ⟨s, rfl, by omega, KR.out, GR.out⟩
  · go_wp2_with fail
    refine (s_l01Below N _ _ K2.out).mono ?_
    rintro e w3 ⟨y9, rfl, y90, y91, -, hk, hg⟩
    have K3 := hide hk
    have F3 := hide (F2.out.trans hg)
    have L3 := hk.lt
    clear hk hg
    replace y91 := y91 (by omega)
    have n0 : 0 ≤ 12 + y9 := by omega
    have n1 : 12 + y9 ≤ 13 := by omega
    go_wp2
    go_loopw [4, 5] (fun v i wr => ∃ (j : Nat) (s : ByteArray), (j : Int) ≤ 12 + y9 ∧ i = .int .i64 (j : Int) ∧ v = .string s ∧ s.size ≤ 8 * j ∧ CurOk wr N ∧ Chg N (N + 1) w wr) (fun _ i _ => (12 + y9 - intOf i).toNat)
    case atStart => exact ⟨0, _, by omega, rfl, rfl, by decide, K3.out, F3.out⟩
    case round =>
      obtain ⟨j, s, hj, rfl, rfl, hs, hk, hg⟩ := hrel
      have KR := hide hk
      have GR := hide hg
      clear hk hg
      by_cases hlt : (j : Int) < 12 + y9
      · by_cases hj0 : j = 0
        · subst hj0
          go_wp2_with fail
          refine (s_l01Once N _ _ KR.out).mono ?_
          rintro e wo ⟨b3, rfl, hk, hg⟩
          have KO := hide hk
          have GO := hide (GR.out.trans hg)
          clear hk hg
          cases b3
          · go_wp2
            go_loopw [4, 6] (fun v k wr => ∃ (m : Nat) (u : ByteArray), m ≤ 5 ∧ k = .int .i64 (m : Int) ∧ v = .string u ∧ u.size ≤ 8 * 0 + 3 + m ∧ CurOk wr N ∧ Chg N (N + 1) w wr) (fun _ k _ => 5 - (intOf k).toNat)
            case atStart => exact ⟨0, _, Nat.zero_le _, rfl, rfl, by omega, KO.out, GO.out⟩
            case round =>
              obtain ⟨m, u, hm, rfl, rfl, hu, hk, hg⟩ := hrel
              have KI := hide hk
              have GI := hide hg
              clear hk hg
              go_wp2_with fail
              refine (s_l01Below N _ _ KI.out).mono ?_
              rintro e wi ⟨q, rfl, q0, q1, -, hk, hg⟩
              replace q1 := q1 (by omega)
              have KJ := hide hk
              have GJ := hide (GI.out.trans hg)
              clear hk hg
              by_cases hq : (m : Int) ≤ q
              · go_wp2_with fail
                refine (s_l01Below N _ _ KJ.out).mono ?_
                rintro e wj ⟨y2, rfl, y20, y21, -, hk, hg⟩
                replace y21 := y21 (by omega)
                have KL := hide hk
                have GL := hide (GJ.out.trans hg)
                clear hk hg
                have kc := run_one (P := Tryd.prog) _ _ _ Tryd.underlying5 Tryd.underlying9 Tryd.underlying25
                have wu : IntKind.u8.wrap (33 + y2) = 33 + y2 := by simp [IntKind.wrap, IntKind.signed, IntKind.bits]; omega
                have gs : ¬ 9223372036854775807 < u.size + (one (33 + y2)).size := by rw [one_size]; omega
                have hus := hide (show (u ++ one (33 + y2)).size = u.size + 1 by rw [ByteArray.size_append, one_size])
                go_wp2
                go_roundw
                case rel => exact ⟨m + 1, _, by omega, by go_num, rfl, by have := hus.out; omega, KL.out.alloc _, GL.out.alloc _⟩
                case measure => simp [intOf] <;> omega
              · go_wp2
                go_roundw
                case rel => exact ⟨0 + 1, u, by omega, by go_num, rfl, by omega, KJ.out, GJ.out⟩
                case measure => simp [intOf] <;> omega
          · go_wp2_with fail
            refine (s_l01Below N _ _ KO.out).mono ?_
            rintro e wa ⟨y, rfl, y0, y1, -, hk, hg⟩
            replace y1 := y1 (by omega)
            have KA := hide hk
            have GA := hide (GO.out.trans hg)
            clear hk hg
            go_wp2_with fail
            refine (s_l01Below N _ _ KA.out).mono ?_
            rintro e wb ⟨z, rfl, z0, z1, -, hk, hg⟩
            replace z1 := z1 (by omega)
            have KB := hide hk
            have GB := hide (GA.out.trans hg)
            clear hk hg
            have p01 : 0 ≤ y * z ∧ y * z ≤ 2 := by
              have hy : y = 0 ∨ y = 1 := by omega
              rcases hy with rfl | rfl <;> omega
            obtain ⟨p0, p1⟩ := p01
            go_wp2_with fail
            refine (s_l01Long _ _ _ (by omega) (by omega)).mono ?_
            rintro e wc ⟨t, rfl, ht, hb⟩
            have KC := hide (KB.out.below hb)
            have GC := hide (GB.out.below_ (hb.mono GB.out.size))
            clear hb
            have gs : ¬ 9223372036854775807 < s.size + t.size := by omega
            have hst := hide (show (s ++ t).size = s.size + t.size from ByteArray.size_append)
            go_wp2
            go_loopw [4, 6] (fun v k wr => ∃ (m : Nat) (u : ByteArray), m ≤ 5 ∧ k = .int .i64 (m : Int) ∧ v = .string u ∧ u.size ≤ 8 * 0 + 3 + m ∧ CurOk wr N ∧ Chg N (N + 1) w wr) (fun _ k _ => 5 - (intOf k).toNat)
            case atStart => exact ⟨0, _, Nat.zero_le _, rfl, rfl, by have := hst.out; omega, KC.out, GC.out⟩
            case round =>
              obtain ⟨m, u, hm, rfl, rfl, hu, hk, hg⟩ := hrel
              have KI := hide hk
              have GI := hide hg
              clear hk hg
              go_wp2_with fail
              refine (s_l01Below N _ _ KI.out).mono ?_
              rintro e wi ⟨q, rfl, q0, q1, -, hk, hg⟩
              replace q1 := q1 (by omega)
              have KJ := hide hk
              have GJ := hide (GI.out.trans hg)
              clear hk hg
              by_cases hq : (m : Int) ≤ q
              · go_wp2_with fail
                refine (s_l01Below N _ _ KJ.out).mono ?_
                rintro e wj ⟨y2, rfl, y20, y21, -, hk, hg⟩
                replace y21 := y21 (by omega)
                have KL := hide hk
                have GL := hide (GJ.out.trans hg)
                clear hk hg
                have kc := run_one (P := Tryd.prog) _ _ _ Tryd.underlying5 Tryd.underlying9 Tryd.underlying25
                have wu : IntKind.u8.wrap (33 + y2) = 33 + y2 := by simp [IntKind.wrap, IntKind.signed, IntKind.bits]; omega
                have gs : ¬ 9223372036854775807 < u.size + (one (33 + y2)).size := by rw [one_size]; omega
                have hus := hide (show (u ++ one (33 + y2)).size = u.size + 1 by rw [ByteArray.size_append, one_size])
                go_wp2
                go_roundw
                case rel => exact ⟨m + 1, _, by omega, by go_num, rfl, by have := hus.out; omega, KL.out.alloc _, GL.out.alloc _⟩
                case measure => simp [intOf] <;> omega
              · go_wp2
                go_roundw
                case rel => exact ⟨0 + 1, u, by omega, by go_num, rfl, by omega, KJ.out, GJ.out⟩
                case measure => simp [intOf] <;> omega
        · have hjp : 0 < (j : Int) := by omega
          go_wp2_with fail
          refine (s_l01Below N _ _ KR.out).mono ?_
          rintro e wa ⟨y, rfl, y0, y1, -, hk, hg⟩
          replace y1 := y1 (by omega)
          have KA := hide hk
          have GA := hide (GR.out.trans hg)
          clear hk hg
          go_wp2_with fail
          refine (s_l01Below N _ _ KA.out).mono ?_
          rintro e wb ⟨z, rfl, z0, z1, -, hk, hg⟩
          replace z1 := z1 (by omega)
          have KB := hide hk
          have GB := hide (GA.out.trans hg)
          clear hk hg
          have p01 : 0 ≤ y * z ∧ y * z ≤ 2 := by
            have hy : y = 0 ∨ y = 1 := by omega
            rcases hy with rfl | rfl <;> omega
          obtain ⟨p0, p1⟩ := p01
          go_wp2_with fail
          refine (s_l01Long _ _ _ (by omega) (by omega)).mono ?_
          rintro e wc ⟨t, rfl, ht, hb⟩
          have KC := hide (KB.out.below hb)
          have GC := hide (GB.out.below_ (hb.mono GB.out.size))
          clear hb
          have gs : ¬ 9223372036854775807 < s.size + t.size := by omega
          have hst := hide (show (s ++ t).size = s.size + t.size from ByteArray.size_append)
          go_wp2
          go_loopw [4, 6] (fun v k wr => ∃ (m : Nat) (u : ByteArray), m ≤ 5 ∧ k = .int .i64 (m : Int) ∧ v = .string u ∧ u.size ≤ 8 * j + 3 + m ∧ CurOk wr N ∧ Chg N (N + 1) w wr) (fun _ k _ => 5 - (intOf k).toNat)
          case atStart => exact ⟨0, _, Nat.zero_le _, rfl, rfl, by have := hst.out; omega, KC.out, GC.out⟩
          case round =>
            obtain ⟨m, u, hm, rfl, rfl, hu, hk, hg⟩ := hrel
            have KI := hide hk
            have GI := hide hg
            clear hk hg
            go_wp2_with fail
            refine (s_l01Below N _ _ KI.out).mono ?_
            rintro e wi ⟨q, rfl, q0, q1, -, hk, hg⟩
            replace q1 := q1 (by omega)
            have KJ := hide hk
            have GJ := hide (GI.out.trans hg)
            clear hk hg
            by_cases hq : (m : Int) ≤ q
            · go_wp2_with fail
              refine (s_l01Below N _ _ KJ.out).mono ?_
              rintro e wj ⟨y2, rfl, y20, y21, -, hk, hg⟩
              replace y21 := y21 (by omega)
              have KL := hide hk
              have GL := hide (GJ.out.trans hg)
              clear hk hg
              have kc := run_one (P := Tryd.prog) _ _ _ Tryd.underlying5 Tryd.underlying9 Tryd.underlying25
              have wu : IntKind.u8.wrap (33 + y2) = 33 + y2 := by simp [IntKind.wrap, IntKind.signed, IntKind.bits]; omega
              have gs : ¬ 9223372036854775807 < u.size + (one (33 + y2)).size := by rw [one_size]; omega
              have hus := hide (show (u ++ one (33 + y2)).size = u.size + 1 by rw [ByteArray.size_append, one_size])
              go_wp2
              go_roundw
              case rel => exact ⟨m + 1, _, by omega, by go_num, rfl, by have := hus.out; omega, KL.out.alloc _, GL.out.alloc _⟩
              case measure => simp [intOf] <;> omega
            · go_wp2
              go_roundw
              case rel => exact ⟨j + 1, u, by omega, by go_num, rfl, by omega, KJ.out, GJ.out⟩
              case measure => simp [intOf] <;> omega
      · go_wp2
        go_ret
        exact ⟨s, rfl, by omega, KR.out, GR.out⟩
set_option maxRecDepth 100000 in
set_option maxHeartbeats 1000000 in
theorem s_DrawPartsOf (code : List Int) (A : Option Addr) (c L H : Nat) (w : World) (h : Rd w L H A (ints .u8 code)) (hc : ∀ b ∈ code, 0 ≤ b ∧ b ≤ 255) (hn : code.length ≤ 1048576) :
    Calls Tryd.prog 20 #[.slice A code.length c] w fun e w' => ∃ s : ByteArray, e = .returned (.string s) ∧ s.size ≤ 2000 ∧ Below w.heap.size w w' := by
  have HR := hide h
  have HC := hide hc
  clear h hc
  go_enter Tryd.func20, Tryd.ntmps20
  go_wp2_with fail
  refine (s_l01New code A c L H _ HR.out HC.out hn).mono ?_
  rintro e w1 ⟨rfl, hk, hb⟩
  have K1 := hide hk
  have F1 := hide hb
  have L1 := hk.lt
  clear hk hb
  go_wp2_with fail
  refine (s_l01Line _ _ K1.out).mono ?_
  rintro e w2 ⟨s, rfl, hs, hk, hg⟩
  have K2 := hide hk
  have F2 := hide (bel_chg F1.out hg F1.out.size (.inl (Nat.le_refl _)))
  have L2 := hk.lt
  clear hk hg
  go_wp2_with fail
  refine (s_l01Below _ _ _ K2.out).mono ?_
  rintro e w3 ⟨x, rfl, x0, x1, -, hk, hg⟩
  have K3 := hide hk
  have F3 := hide (bel_chg F2.out hg F2.out.size (.inl (Nat.le_refl _)))
  have L3 := hk.lt
  clear hk hg
  replace x1 := x1 (by omega)
  have hx : x = 0 ∨ x = 1 ∨ x = 2 ∨ 3 ≤ x := by omega
  rcases hx with rfl | rfl | rfl | hx
  · go_wp2_with fail
    refine (s_l01Pick _ [⟨#[32]⟩, ⟨#[32, 32]⟩, ⟨#[9]⟩, ⟨#[10]⟩, ⟨#[127]⟩, ⟨#[233]⟩] _ _ _ _ _ (K3.out.alloc _) (Rd.made _ _ _ rfl) L3 (by simp) (by simp)).mono ?_
    rintro e w4 ⟨v, rfl, mv, hk, hg⟩
    have F4 := hide (bel_chg (F3.out.alloc F3.out.size _) hg (by have := F3.out.size; simp; omega) (.inl (Nat.le_refl _)))
    clear hk hg
    have hv : v.size ≤ 2 := by
      simp only [List.mem_cons, List.mem_nil_iff, or_false] at mv
      rcases mv with rfl | rfl | rfl | rfl | rfl | rfl <;> decide
    clear mv
    have gs : ¬ 9223372036854775807 < s.size + v.size := by omega
    go_wp2
    go_ret
    exact ⟨_, rfl, by rw [ByteArray.size_append]; omega, F4.out⟩
  · by_cases hl : (s.size : Int) < 600
    · go_wp2_with fail
      refine (s_l01Below _ _ _ K3.out).mono ?_
      rintro e w4 ⟨y, rfl, y0, y1, -, hk, hg⟩
      have K4 := hide hk
      have F4 := hide (bel_chg F3.out hg F3.out.size (.inl (Nat.le_refl _)))
      have L4 := hk.lt
      clear hk hg
      replace y1 := y1 (by omega)
      go_wp2_with fail
      refine (s_l01Long _ _ _ (by omega) (by omega)).mono ?_
      rintro e w5 ⟨t, rfl, ht, hb⟩
      have F5 := hide (bel_new F4.out hb F4.out.size)
      clear hb
      have gs : ¬ 9223372036854775807 < s.size + t.size := by omega
      go_wp2
      go_ret
      exact ⟨_, rfl, by rw [ByteArray.size_append]; omega, F5.out⟩
    · go_wp2
      go_ret
      exact ⟨_, rfl, by omega, F3.out⟩
  · go_wp2
    go_ret
    exact ⟨_, rfl, by decide, F3.out⟩
  · have d0 : (x == 0) = false := by simp only [beq_eq_false_iff_ne]; omega
    have d1 : (x == 1) = false := by simp only [beq_eq_false_iff_ne]; omega
    have d2 : (x == 2) = false := by simp only [beq_eq_false_iff_ne]; omega
    go_wp2
    go_ret
    exact ⟨s, rfl, by omega, F3.out⟩
set_option maxRecDepth 100000 in
set_option maxHeartbeats 1000000 in
theorem s_DrawWordsOf (code : List Int) (A : Option Addr) (c L H : Nat) (w : World) (h : Rd w L H A (ints .u8 code)) (hc : ∀ b ∈ code, 0 ≤ b ∧ b ≤ 255) (hn : code.length ≤ 1048576) :
    Calls Tryd.prog 17 #[.slice A code.length c] w fun e w' => ∃ s : ByteArray, e = .returned (.string s) ∧ s.size ≤ 5000 ∧ Below w.heap.size w w' := by
  have HR := hide h
  have HC := hide hc
  clear h hc
  go_enter Tryd.func17, Tryd.ntmps17
  go_wp2_with fail
  refine (s_l01New code A c L H _ HR.out HC.out hn).mono ?_
  rintro e w1 ⟨rfl, hk, hb⟩
  have K1 := hide hk
  have F1 := hide hb
  have L1 := hk.lt
  clear hk hb
  go_wp2_with fail
  refine (s_l01Below _ _ _ K1.out).mono ?_
  rintro e w2 ⟨x, rfl, x0, x1, -, hk, hg⟩
  have K2 := hide hk
  have F2 := hide (bel_chg F1.out hg F1.out.size (.inl (Nat.le_refl _)))
  have L2 := hk.lt
  clear hk hg
  replace x1 := x1 (by omega)
  go_wp2_with fail
  refine (s_l01Once _ _ _ K2.out).mono ?_
  rintro e w3 ⟨b, rfl, hk, hg⟩
  have K3 := hide hk
  have F3 := hide (bel_chg F2.out hg F2.out.size (.inl (Nat.le_refl _)))
  have L3 := hk.lt
  clear hk hg
  cases b
  · go_wp2_with fail
    refine (s_l01Once _ _ _ K3.out).mono ?_
    rintro e w4 ⟨b2, rfl, hk, hg⟩
    have K4 := hide hk
    have F4 := hide (bel_chg F3.out hg F3.out.size (.inl (Nat.le_refl _)))
    have L4 := hk.lt
    clear hk hg
    cases b2
    · go_wp2_with fail
      refine (s_l01Text _ _ _ K4.out).mono ?_
      rintro e w5 ⟨s, rfl, hs, hk, hg⟩
      have K5 := hide hk
      have F5 := hide (bel_chg F4.out hg F4.out.size (.inl (Nat.le_refl _)))
      have L5 := hk.lt
      clear hk hg
      go_wp2
      go_ret
      exact ⟨s, rfl, hs, F5.out⟩
    · go_wp2_with fail
      refine (s_l01PickInt _ [4000, 4004] _ _ _ _ _ (K4.out.alloc _) (Rd.made _ _ _ rfl) L4 (by simp) (by simp)).mono ?_
      rintro e w5 ⟨v, rfl, -, hk, hg⟩
      have K5 := hide hk
      have L5 := hk.lt
      have F5 := hide (bel_chg (F4.out.alloc F4.out.size _) hg (by have := F4.out.size; simp; omega) (.inl (Nat.le_refl _)))
      clear hk hg
      go_wp2_with fail
      refine (s_l01Text _ _ _ K5.out).mono ?_
      rintro e w6 ⟨s, rfl, hs, hk, hg⟩
      have K6 := hide hk
      have F6 := hide (bel_chg F5.out hg F5.out.size (.inl (Nat.le_refl _)))
      have L6 := hk.lt
      clear hk hg
      go_wp2
      go_ret
      exact ⟨s, rfl, hs, F6.out⟩
  · go_wp2_with fail
    refine (s_l01Below _ _ _ K3.out).mono ?_
    rintro e w4 ⟨y, rfl, y0, y1, -, hk, hg⟩
    have K4 := hide hk
    have F4 := hide (bel_chg F3.out hg F3.out.size (.inl (Nat.le_refl _)))
    have L4 := hk.lt
    clear hk hg
    replace y1 := y1 (by omega)
    go_wp2_with fail
    refine (s_l01Once _ _ _ K4.out).mono ?_
    rintro e w5 ⟨b2, rfl, hk, hg⟩
    have K5 := hide hk
    have F5 := hide (bel_chg F4.out hg F4.out.size (.inl (Nat.le_refl _)))
    have L5 := hk.lt
    clear hk hg
    cases b2
    · go_wp2_with fail
      refine (s_l01Text _ _ _ K5.out).mono ?_
      rintro e w6 ⟨s, rfl, hs, hk, hg⟩
      have K6 := hide hk
      have F6 := hide (bel_chg F5.out hg F5.out.size (.inl (Nat.le_refl _)))
      have L6 := hk.lt
      clear hk hg
      go_wp2
      go_ret
      exact ⟨s, rfl, hs, F6.out⟩
    · go_wp2_with fail
      refine (s_l01PickInt _ [4000, 4004] _ _ _ _ _ (K5.out.alloc _) (Rd.made _ _ _ rfl) L5 (by simp) (by simp)).mono ?_
      rintro e w6 ⟨v, rfl, -, hk, hg⟩
      have K6 := hide hk
      have L6 := hk.lt
      have F6 := hide (bel_chg (F5.out.alloc F5.out.size _) hg (by have := F5.out.size; simp; omega) (.inl (Nat.le_refl _)))
      clear hk hg
      go_wp2_with fail
      refine (s_l01Text _ _ _ K6.out).mono ?_
      rintro e w7 ⟨s, rfl, hs, hk, hg⟩
      have K7 := hide hk
      have F7 := hide (bel_chg F6.out hg F6.out.size (.inl (Nat.le_refl _)))
      have L7 := hk.lt
      clear hk hg
      go_wp2
      go_ret
      exact ⟨s, rfl, hs, F7.out⟩
set_option maxHeartbeats 400000 in
theorem l_sameTexts2 (zs : List ByteArray) (A A' : Option Addr) (c c' L H L' H' : Nat) (w : World) (h : Rd w L H A (strs zs)) (h' : Rd w L' H' A' (strs zs)) (hn : zs.length ≤ 9223372036854775807) :
    Calls Tryd.prog 21 #[.slice A zs.length c, .slice A' zs.length c'] w fun e w' => e = .returned (.bool true) ∧ ∃ n, w.drewN n = w' := by
  have H1 := hide h
  have H2 := hide h'
  clear h h'
  go_enter Tryd.func21, Tryd.ntmps21
  go_wp2
  go_loopw [5] (fun i wr => ∃ j : Nat, j ≤ zs.length ∧ i = .int .i64 j ∧ ∃ n, w.drewN n = wr) (fun i _ => zs.length - (intOf i).toNat)
  case atStart => exact ⟨0, Nat.zero_le _, rfl, 0, rfl⟩
  case round =>
    obtain ⟨j, hj, rfl, n, rfl⟩ := hrel
    by_cases hlt : j < zs.length
    · have hlt' : (j : Int) < (zs.length : Int) := by omega
      have hl2 : j < (strs zs).length := by rw [length_strs]; exact hlt
      obtain ⟨ad, rfl, _, _, hc⟩ := H1.out.at_ hl2
      obtain ⟨ad', rfl, _, _, hc'⟩ := H2.out.at_ hl2
      rw [strs_get] at hc hc'
      go_wp2
      go_quiet (fail)
      go_wp2
      go_roundw
      case rel => exact ⟨j + 1, by omega, by go_num, _, rfl⟩
      case measure => simp [intOf]; omega
    · go_wp2
      go_ret
      exact ⟨rfl, _, rfl⟩
end Go.Proofs.YtejhpkcoeakegaaDoor

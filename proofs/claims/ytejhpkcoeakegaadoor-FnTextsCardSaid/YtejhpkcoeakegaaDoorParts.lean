/-
  The walks of PartsOf, the program's and the reference's.
-/
import Derived.Test.YtejhpkcoeakegaaDoorPartsPlain
import Derived.Test.YtejhpkcoeakegaaDoorSmall
import Derived.Test.YtejhpkcoeakegaaDoorApp
import Derived.Test.YtejhpkcoeakegaaDoorText
import Derived.Test.YtejhpkcoeakegaaDoorShelf
import Derived.LoopTactic
namespace Go.Proofs.YtejhpkcoeakegaaDoor
set_option linter.unusedVariables false
open Go.RowKit

theorem infoStrP : (Tryd.prog.info? 9).map (fun i => (i.zero, i.size, i.bytes)) = some (some (.string ⟨#[]⟩), 1, 16) := by kernel_rfl
theorem cutB_small (s : ByteArray) (h : s.size ≤ 600) : (cutB s).length ≤ 601 := by
  rw [cutB_len]
  have := Lib.countB_le ⟨#[32]⟩ (by decide) s.size s (Nat.le_refl _)
  omega
theorem filter_small (Z : List ByteArray) (k : Nat) (h : Z.length ≤ 601) : ((Z.take k).filter neB).length ≤ 601 := by
  have h1 := List.length_filter_le neB (Z.take k)
  have h2 := List.length_take_le k Z
  have h3 : (Z.take k).length ≤ Z.length := by rw [List.length_take]; omega
  omega
theorem i_Split (s : ByteArray) (hs : s.size ≤ 600) (w : World) (hm : ∃ m, w.cell? ⟨1, 0, none⟩ = some (.int .i64 m)) :
    Calls Tryd.prog 27 #[.string s, .string ⟨#[32]⟩] w fun e w' => ∃ A, e = .returned (.slice A (cutB s).length (cutB s).length) ∧ Below w.heap.size w w' ∧ w'.heap.size = w.heap.size + 1 ∧ Rd w' w.heap.size (w.heap.size + 1) A (strs (cutB s)) := by
  obtain ⟨m, hm⟩ := hm
  refine (Tryd.strings_Split s ⟨#[32]⟩ m w (by omega) hm (by decide)).mono ?_
  rintro e w' ⟨rfl, rfl⟩
  refine ⟨_, by rw [cutB_len], (Below.refl _ _).alloc (Nat.le_refl _) _, by simp, ?_⟩
  have := Rd.made (w := w) ((cutB s).map Value.string).toArray 9 _ rfl
  rw [List.toList_toArray] at this
  exact this
set_option maxRecDepth 100000 in
set_option maxHeartbeats 4000000 in
theorem i_PartsOf (s : ByteArray) (hs : s.size ≤ 9223372036854775807) (w : World) (hm : ∃ m, w.cell? ⟨1, 0, none⟩ = some (.int .i64 m)) :
    Calls Tryd.prog 13 #[.string s] w fun e w' => ∃ A' c', e = .returned (.tuple #[.slice A' (partsL s).length c', .bool (partsOk s)]) ∧ Below w.heap.size w w' ∧ Own w' w.heap.size w'.heap.size 9 (.slice A' (partsL s).length c') (strs (partsL s)) := by
  have HM := hide hm
  clear hm
  by_cases h6 : s.size ≤ 600
  case neg =>
    have e1 := pk_long h6
    rw [pk_not e1, e1]
    have d1 : (600 : Int) < s.size := by omega
    go_enter Tryd.func13, Tryd.ntmps13
    go_wp2
    go_ret2
    exact ⟨none, 0, rfl, Below.refl _ _, Own.nil _ _ _ _⟩
  have d6 : (s.size : Int) ≤ 600 := by omega
  go_enter Tryd.func13, Tryd.ntmps13
  go_wp2
  go_loop [4] (fun i => ∃ j : Nat, j ≤ s.size ∧ i = .int .i64 j ∧ Hid (lineT s j)) (fun i => s.size - (intOf i).toNat)
  case atStart => exact ⟨0, Nat.zero_le _, rfl, rfl⟩
  case round =>
    obtain ⟨j, hj, rfl, hok⟩ := hrel
    by_cases hlt : j < s.size
    · rcases lineCases (s[j]'hlt) with ⟨hb, b1, b2⟩ | ⟨hb, b1⟩ | ⟨hb, b1, b2⟩
      · have F2 := hide (lineT_succ hlt hok.out hb)
        clear hb
        go_wp2
        go_round
        case rel => exact ⟨j + 1, by omega, by go_num, F2⟩
        case measure => simp [intOf] <;> omega
      all_goals
        have e1 := hide (pk_bad hlt hb)
        clear hb
        go_wp2
        go_ret2
        rw [pk_not e1.out, e1.out]
        exact ⟨none, 0, rfl, Below.refl _ _, Own.nil _ _ _ _⟩
    · have hge : s.size ≤ j := by omega
      have hZ := cutB_small s h6
      have hcf := hide (cutB_filter s)
      go_wp2_with (go_at_call 27; refine (i_Split s h6 _ HM.out).mono ?_; rintro e w1 ⟨A, rfl, hb1, hsz, hR⟩; have B1 := hide hb1; have S1 := hide hsz; have R1 := hide hR; clear hb1 hsz hR)
      generalize cutB s = Z at *
      go_loopw [5, 30] (fun v i wr => ∃ k : Nat, k ≤ Z.length ∧ i = .int .i64 (k : Int) ∧ Below w.heap.size w wr ∧ Rd wr w.heap.size (w.heap.size + 1) A (strs Z) ∧ w.heap.size + 1 ≤ wr.heap.size ∧ Own wr (w.heap.size + 1) wr.heap.size 9 v (strs ((Z.take k).filter neB))) (fun _ i _ => Z.length - (intOf i).toNat)
      case atStart => exact ⟨0, Nat.zero_le _, rfl, B1.out, R1.out, Nat.le_of_eq S1.out.symm, Own.nil _ _ _ _⟩
      case round =>
        obtain ⟨k, hk, rfl, hb, hR, hsz, ho⟩ := hrel
        have BR := hide hb
        have RR := hide hR
        have OR := hide ho
        have SR := hide hsz
        clear hb hR ho hsz R1 B1
        by_cases hlt2 : k < Z.length
        · have hl2 : k < (strs Z).length := by rw [length_strs]; omega
          obtain ⟨ad, rfl, _, _, hcell⟩ := RR.out.at_ hl2
          rw [strs_get] at hcell
          have hst := hide (filter_step (Z := Z) hlt2)
          have hF := filter_small Z k hZ
          generalize Z[k]'hlt2 = z at *
          cases hn : neB z
          · have hq : z.toList.isEmpty = true := neB_empty hn
            have HN := hide hn
            clear hn
            go_wp2
            go_roundw
            case rel => exact ⟨k + 1, by omega, by go_num, BR.out, RR.out, SR.out, by rw [hst.out, HN.out]; exact OR.out⟩
            case measure => simp [intOf] <;> omega
          · have hq : z.toList.isEmpty = false := neB_empty hn
            have HN := hide hn
            clear hn
            go_wp2_with (at_builtin; refine wpList_app rfl _ _ _ rfl 9 (.string ⟨#[]⟩) 16 Tryd.underlying29 infoStrP rfl (w.heap.size + 1) _ _ rfl ((OR.out.alloc _).top) ⟨_, 0, none⟩ 1 1 [.string z] rfl rfl (new_cells #[.string z] _) (by simp [Value.oneCell']) (by rw [length_strs]; omega) (by omega) (by have := SR.out; simp; omega) ?_; intro v' w4 hown4 hb4 _; have O4 := hide hown4; have B4 := hide ((BR.out.alloc BR.out.size (.cells #[.string z] 9)).trans (hb4.mono (Nat.le_succ _))); have R4 := hide ((RR.out.alloc (.cells #[.string z] 9)).keep (fun k _ _ h2 => hb4.block k h2)); have S4 := hide (show w.heap.size + 1 ≤ w4.heap.size from by have h1 := hb4.size; have h2 := SR.out; simp at h1; omega); clear hown4 hb4)
            go_roundw
            case rel => exact ⟨k + 1, by omega, by go_num, B4.out, R4.out, S4.out, by rw [hst.out, HN.out, if_pos rfl, ← strs_push]; exact O4.out⟩
            case measure => simp [intOf] <;> omega
        · have hk2 : k = Z.length := by omega
          subst hk2
          have OE := OR.out
          rw [List.take_length, hcf.out] at OE
          obtain ⟨A', c', rfl, ho⟩ := OE.shape
          rw [length_strs] at ho ⊢
          have HO := hide ho
          clear OE ho
          by_cases h12 : (partsB s).length ≤ 12
          · have hk := hide (pk_all hge hok.out h6 h12)
            have d12 : ((partsB s).length : Int) ≤ 12 := by omega
            go_wp2
            go_ret2
            rw [pk_yes hk.out, hk.out]
            exact ⟨A', c', rfl, BR.out, HO.out.wide (Nat.le_succ _) (Nat.le_refl _)⟩
          · have hk := hide (pk_many (s := s) (by omega))
            have d12 : 12 < ((partsB s).length : Int) := by omega
            go_wp2
            go_ret2
            rw [pk_not hk.out, hk.out]
            exact ⟨none, 0, rfl, BR.out, Own.nil _ _ _ _⟩
theorem made0 (w w1 : World) (h : Below w.heap.size w w1) : Below w.heap.size w (w1.alloc (.cells #[] 9)) ∧ Own (w1.alloc (.cells #[] 9)) w.heap.size (w1.alloc (.cells #[] 9)).heap.size 9 (.slice (some ⟨w1.heap.size, 0, none⟩) ([] : List ByteArray).length 0) (strs []) :=
  ⟨h.alloc h.size _, (Own.made #[] 9 _ h.size (by simp [maxLen])).top⟩
set_option maxRecDepth 100000 in
set_option maxHeartbeats 4000000 in
theorem s_PartsOf (s : ByteArray) (hs : s.size ≤ 9223372036854775807) (w : World) :
    Calls Tryd.prog 12 #[.string s] w fun e w' => ∃ A' c', e = .returned (.tuple #[.slice A' (partsL s).length c', .bool (partsOk s)]) ∧ Below w.heap.size w w' ∧ Own w' w.heap.size w'.heap.size 9 (.slice A' (partsL s).length c') (strs (partsL s)) := by
  by_cases h6 : s.size ≤ 600
  case neg =>
    have e1 := pk_long h6
    rw [pk_not e1, e1]
    have d1 : (600 : Int) < s.size := by omega
    go_enter Tryd.func12, Tryd.ntmps12
    go_wp2
    go_ret2
    exact ⟨_, _, rfl, made0 w w (Below.refl _ _)⟩
  have d6 : (s.size : Int) ≤ 600 := by omega
  go_enter Tryd.func12, Tryd.ntmps12
  go_wp2
  go_loopw [4, 5, 6] (fun v nw i wr => ∃ j : Nat, j ≤ s.size + 1 ∧ i = .int .i64 (j : Int) ∧ nw = .string (wN s j) ∧ Hid (lineT s j) ∧ Below w.heap.size w wr ∧ Own wr w.heap.size wr.heap.size 9 v (strs (wO s j))) (fun _ _ i _ => s.size + 1 - (intOf i).toNat)
  case atStart => exact ⟨0, Nat.zero_le _, rfl, by rw [(w_start s).2], rfl, (made0 w w (Below.refl _ _)).1, by rw [(w_start s).1]; exact (made0 w w (Below.refl _ _)).2⟩
  case round =>
    obtain ⟨j, hj, rfl, rfl, hok, hb, ho⟩ := hrel
    have BR := hide hb
    have OR := hide ho
    clear hb ho
    by_cases hle : j ≤ s.size
    · obtain ⟨hn1, ho1⟩ := w_sizes s j hle
      by_cases hlt : j < s.size
      · rcases lineCases (s[j]'hlt) with ⟨hb, b1, b2⟩ | ⟨hb, b1⟩ | ⟨hb, b1, b2⟩
        · have F2 := hide (lineT_succ hlt hok.out hb)
          clear hb
          by_cases h32 : (s[j]'hlt).toNat = 32
          · obtain ⟨x1, x2⟩ := w_blank hlt h32
            have c32 : ((s[j]'hlt).toNat : Int) = 32 := by omega
            have X1 := hide x1
            have X2 := hide x2
            clear x1 x2 b1 b2 h32
            generalize hnw : wN s j = nw at *
            generalize hO : wO s j = O at *
            cases hn : neB nw
            · have hq : nw.toList.isEmpty = true := neB_empty hn
              have HN := hide hn
              clear hn
              go_wp2
              go_roundw
              case rel => exact ⟨j + 1, by omega, by go_num, by rw [X2.out], F2, BR.out, by rw [X1.out, HN.out]; exact OR.out⟩
              case measure => simp [intOf] <;> omega
            · have hq : nw.toList.isEmpty = false := neB_empty hn
              have HN := hide hn
              clear hn
              go_wp2_with (at_builtin; refine wpList_app rfl _ _ _ rfl 9 (.string ⟨#[]⟩) 16 Tryd.underlying29 infoStrP rfl w.heap.size _ _ rfl ((OR.out.alloc _).top) ⟨_, 0, none⟩ 1 1 [.string nw] rfl rfl (new_cells #[.string nw] _) (by simp [Value.oneCell']) (by rw [length_strs]; omega) (by omega) (by have := BR.out.size; simp; omega) ?_; intro v' w4 hown4 hb4 _; have O4 := hide hown4; have B4 := hide ((BR.out.alloc BR.out.size (.cells #[.string nw] 9)).trans hb4); clear hown4 hb4)
              go_roundw
              case rel => exact ⟨j + 1, by omega, by go_num, by rw [X2.out], F2, B4.out, by rw [X1.out, HN.out, if_pos rfl, ← strs_push]; exact O4.out⟩
              case measure => simp [intOf] <;> omega
          · obtain ⟨x1, x2⟩ := w_other hlt h32
            have X1 := hide x1
            have X2 := hide x2
            clear x1 x2
            generalize hnw : wN s j = nw at *
            generalize hO : wO s j = O at *
            have c32 : (((s[j]'hlt).toNat : Int) == 32) = false := by simp only [beq_eq_false_iff_ne]; omega
            have gx : (s.extract j (j + 1)).size ≤ 1 := by rw [ByteArray.size_extract]; omega
            have gs : ¬ 9223372036854775807 < nw.size + (s.extract j (j + 1)).size := by omega
            clear h32 gx
            go_wp2
            go_roundw
            case rel => exact ⟨j + 1, by omega, by go_num, by rw [X2.out], F2, BR.out, by rw [X1.out]; exact OR.out⟩
            case measure => simp [intOf] <;> omega
        all_goals
          have e1 := hide (pk_bad hlt hb)
          clear hb
          go_wp2
          go_ret2
          rw [pk_not e1.out, e1.out]
          exact ⟨_, _, rfl, made0 w _ BR.out⟩
      · have hje : j = s.size := by omega
        subst hje
        obtain ⟨x1, x2, x3⟩ := w_end s
        have F2 := hide (lineT_end hok.out)
        have X1 := hide x1
        have X2 := hide x2
        clear x1 x2 x3
        generalize hnw : wN s s.size = nw at *
        generalize hO : wO s s.size = O at *
        cases hn : neB nw
        · have hq : nw.toList.isEmpty = true := neB_empty hn
          have HN := hide hn
          clear hn
          go_wp2
          go_roundw
          case rel => exact ⟨s.size + 1, by omega, by go_num, by rw [X2.out], F2, BR.out, by rw [X1.out, HN.out]; exact OR.out⟩
          case measure => simp [intOf] <;> omega
        · have hq : nw.toList.isEmpty = false := neB_empty hn
          have HN := hide hn
          clear hn
          go_wp2_with (at_builtin; refine wpList_app rfl _ _ _ rfl 9 (.string ⟨#[]⟩) 16 Tryd.underlying29 infoStrP rfl w.heap.size _ _ rfl ((OR.out.alloc _).top) ⟨_, 0, none⟩ 1 1 [.string nw] rfl rfl (new_cells #[.string nw] _) (by simp [Value.oneCell']) (by rw [length_strs]; omega) (by omega) (by have := BR.out.size; simp; omega) ?_; intro v' w4 hown4 hb4 _; have O4 := hide hown4; have B4 := hide ((BR.out.alloc BR.out.size (.cells #[.string nw] 9)).trans hb4); clear hown4 hb4)
          go_roundw
          case rel => exact ⟨s.size + 1, by omega, by go_num, by rw [X2.out], F2, B4.out, by rw [X1.out, HN.out, if_pos rfl, ← strs_push]; exact O4.out⟩
          case measure => simp [intOf] <;> omega
    · have hje : j = s.size + 1 := by omega
      subst hje
      have hE := hide (w_end s).2.2
      have hok' : lineT s (s.size + 1) := hok.out
      have OE := OR.out
      rw [hE.out] at OE
      obtain ⟨A', c', rfl, ho⟩ := OE.shape
      rw [length_strs] at ho ⊢
      have HO := hide ho
      clear OE ho
      have HK := hide hok'
      clear hok'
      by_cases h12 : (partsB s).length ≤ 12
      · have hk := hide (pk_all (Nat.le_succ _) HK.out h6 h12)
        have d12 : ((partsB s).length : Int) ≤ 12 := by omega
        go_wp2
        go_ret2
        rw [pk_yes hk.out, hk.out]
        exact ⟨A', c', rfl, BR.out, HO.out⟩
      · have hk := hide (pk_many (s := s) (by omega))
        have d12 : 12 < ((partsB s).length : Int) := by omega
        go_wp2
        go_ret2
        rw [pk_not hk.out, hk.out]
        exact ⟨_, _, rfl, made0 w _ BR.out⟩
end Go.Proofs.YtejhpkcoeakegaaDoor

/-
  The law 'FnTexts' returns true at every input: the tied card 'Rows.FnTextsCardSaid'. Its condition is the card's own: the package variables that the row lists start as the program's text lays them (the given tie, over the pruned copy of the project). The walk takes the functions that the law calls by their contracts; the frame about it opens the arguments and hands them back as they were.
-/
import Derived.Test.YtejhpkcoeakegaaDoorParts
import Derived.Test.YtejhpkcoeakegaaDoorTextsPlain
import Derived.Test.YtejhpkcoeakegaaDoorDrawT
import Derived.Test.YtejhpkcoeakegaaDoorNumbers
import Derived.Test.YtejhpkcoeakegaaDoorWords
import Derived.Test.YtejhpkcoeakegaaDoorTextOf
import Derived.Test.YtejhpkcoeakegaaDoorOpen
import Derived.Test.YtejhpkcoeakegaaDoorRows
import Derived.WalkKit
import Derived.ProofKit
import Derived.OpenShut
import Derived.ShutString
import Derived.ChangeOld
import Derived.Below
import Derived.LaidMore
import Derived.Stop.LaidErr
import Derived.Stop.Joined
import Derived.Lib.LaidTab
import Derived.Lay
import Derived.Handed
import Derived.SevenTiedAt
import Derived.Test.YtejhpkcoeakegaaDoorTie
import Derived.Test.YtejhpkcoeakegaaDoorCards
namespace Go.Proofs.YtejhpkcoeakegaaDoor.fnTexts
open Go.Joins (open_agg2 open_agg3)
open Go.ChangeShapes Go.WideShapes Go.ChangeAt Go.RowKit
open Go.ChangeMaps (open_string shut_string)
set_option linter.unusedVariables false

theorem own : ownKnob Tryd.prog.godebug = none := by kernel_rfl
theorem laidOut : laidOutB Tryd.prog = true := by kernel_rfl
theorem parts_few (s : ByteArray) (h : partsOk s = true) : (partsB s).length ≤ 12 ∧ ∀ p ∈ partsB s, p.size ≤ 600 := by
  have h' := h
  unfold partsOk at h'
  simp only [Bool.and_eq_true, decide_eq_true_eq] at h'
  exact ⟨h'.2, fun p hp => by have := (parts_sizes s).2 p hp; omega⟩
theorem line_take (Z : List ByteArray) (h : ∀ p ∈ Z, p.size ≤ 600) (hn : Z.length ≤ 12) (k : Nat) : (lineOf (Z.take k)).size ≤ 7212 := by
  have h1 := lineOf_size (Z.take k) fun p hp => h p (List.mem_of_mem_take hp)
  have h2 : (Z.take k).length ≤ 12 := by rw [List.length_take]; omega
  omega

set_option maxHeartbeats 2000000 in
theorem walk (a0 : Option Addr) (cap0 : Nat) (z0 : List Int) (w : World) (w0 : Rd w 0 w.heap.size a0 (ints .u8 z0)) (l0 : z0.length ≤ cap0 ∧ cap0 ≤ maxLen) (b0 : ∀ n ∈ z0, (Lit.int .u8 n).wf = true) (hlaid : ∃ m, World.cell? w ⟨1, 0, none⟩ = some (.int .i64 m)) :
    Calls Tryd.prog 6 #[.slice a0 z0.length cap0] w fun e w' => e = .returned (.bool true) ∧ Below w.heap.size w w' := by
  have hb : ∀ b ∈ z0, 0 ≤ b ∧ b ≤ 255 := fun x hx => by
    have := b0 x hx
    simpa [Lit.wf, IntKind.min, IntKind.max, IntKind.signed, IntKind.bits] using this
  have HB := hide hb
  have H1 := hide w0
  have HM := hide hlaid
  have hlt1 := hide (show 1 < w.heap.size from by obtain ⟨m, h⟩ := hlaid; exact cell_lt h)
  clear w0 b0 l0 hb hlaid
  by_cases hbig : 1048576 < z0.length
  · go_enter Tryd.func6, Tryd.ntmps6
    go_wp2_with (go_at_call 9; refine (l_big_yes z0 a0 cap0 hbig _).mono ?_; rintro e w1 ⟨rfl, rfl⟩)
    go_ret
    exact ⟨rfl, Below.refl _ _⟩
  have hn : z0.length ≤ 1048576 := by omega
  go_enter Tryd.func6, Tryd.ntmps6
  go_wp2_with (go_at_call 9; refine (l_big_no z0 a0 cap0 hn _).mono ?_; rintro e w1 ⟨rfl, rfl⟩)
  refine (s_DrawWordsOf z0 a0 cap0 _ _ _ H1.out HB.out hn).mono ?_
  rintro e w1 ⟨s, rfl, hs, hb1⟩
  have R1 := hide (H1.out.below hb1)
  have b1 := hide hb1
  clear hb1 hbig
  have hc : (s.size ≤ 4000 ∧ s.size % 4 = 0) ∨ (s.size ≤ 4000 ∧ s.size % 4 ≠ 0) ∨ 4000 < s.size := by omega
  rcases hc with ⟨h1, h2⟩ | ⟨h1, h2⟩ | h1
  · obtain ⟨g1, g2, g3, g4⟩ := text_words s h1 h2
    have d1 : (s.size : Int) ≤ 4000 := by omega
    have d2 : (s.size : Int) % 4 = 0 := by omega
    have CW := fun W => i_WordsOf s (by omega) W
    have CT := fun A c L H W h => i_TextOf (wordsOf s) g4 (by have := wordsOf_len s; omega) A c L H W h
    rw [g1] at CW
    rw [g2, g3] at CT
    generalize wordsOf s = ws at *
    replace CW := hide CW
    replace CT := hide CT
    clear g1 g2 g3 g4
    go_wp2_with fail
    refine (CW.out _).mono ?_
    rintro e w2 ⟨A2, c2, rfl, hb2, ho2⟩
    have R2 := hide (R1.out.below hb2)
    have b2 := hide (bel_new b1.out hb2 b1.out.size)
    have O2 := hide ho2.rd
    clear hb2 ho2
    go_wp2_with fail
    refine (CT.out _ _ _ _ _ O2.out).mono ?_
    rintro e w3 ⟨rfl, hb3⟩
    have R3 := hide (R2.out.below hb3)
    have b3 := hide (bel_new b2.out hb3 b2.out.size)
    clear hb3 O2 CT CW
    go_wp2_with fail
    refine (s_DrawPartsOf z0 a0 cap0 _ _ _ R3.out HB.out hn).mono ?_
    rintro e w4 ⟨q, rfl, hq, hb4⟩
    have b4 := hide (bel_new b3.out hb4 b3.out.size)
    clear hb4 R1 R2 R3
    go_wp2_with fail
    refine (s_PartsOf q (by omega) _).mono ?_
    rintro e w5 ⟨A5, c5, rfl, hb5, ho5⟩
    have b5 := hide (bel_new b4.out hb5 b4.out.size)
    have O5 := hide ho5.rd
    clear hb5 ho5
    cases hgood : partsOk q
    · go_wp2
      go_ret
      exact ⟨rfl, b5.out⟩
    have hpl := pk_yes hgood
    have hpb := parts_back q hgood
    obtain ⟨p12, psz⟩ := parts_few q hgood
    rw [hpl] at O5 ⊢
    clear hpl hgood hq
    generalize partsB q = Z at *
    have PB := hide hpb
    have PZ := hide psz
    clear hpb psz
    go_wp2
    go_loopw [10, 11] (fun v i wr => ∃ j : Nat, j ≤ Z.length ∧ i = .int .i64 (j : Int) ∧ v = .string (lineOf (Z.take j)) ∧ wr = w5) (fun _ i _ => Z.length - (intOf i).toNat)
    case atStart => exact ⟨0, Nat.zero_le _, rfl, rfl, rfl⟩
    case round =>
      obtain ⟨j, hj, rfl, rfl, hwr⟩ := hrel
      subst hwr
      by_cases hlt : j < Z.length
      · have hl2 : j < (strs Z).length := by rw [length_strs]; omega
        obtain ⟨ad, rfl, _, _, hcell⟩ := O5.out.at_ hl2
        rw [strs_get] at hcell
        have hnx := hide (lineOf_next hlt)
        have hz1 := line_take Z PZ.out p12 j
        have hz2 := PZ.out (Z[j]'hlt) (List.getElem_mem hlt)
        generalize Z[j]'hlt = z at *
        generalize lineOf (Z.take j) = u at *
        have e32 : (⟨#[32]⟩ : ByteArray).size = 1 := rfl
        have gs1 : ¬ 9223372036854775807 < u.size + (⟨#[32]⟩ : ByteArray).size := by omega
        have gs2 : ¬ 9223372036854775807 < (u ++ (⟨#[32]⟩ : ByteArray)).size + z.size := by rw [ByteArray.size_append]; omega
        go_wp2
        go_roundw
        case rel => exact ⟨j + 1, by omega, by go_num, by rw [hnx.out], by first | rfl | trivial⟩
        case measure => simp [intOf]; omega
      · have hje : j = Z.length := by omega
        subst hje
        rw [List.take_length] at *
        by_cases hl6 : (lineOf Z).size ≤ 600
        · obtain ⟨k1, k2⟩ := PB.out hl6
          have CP := fun W h => i_PartsOf (lineOf Z) (by omega) W h
          rw [k1, k2] at CP
          replace CP := hide CP
          clear k1 k2
          have d6 : ((lineOf Z).size : Int) ≤ 600 := by omega
          generalize lineOf Z = u at *
          go_wp2_with fail
          refine (CP.out _ (HM.out.imp fun m h => ((bcell b5.out).1 _ _ hlt1.out).trans h)).mono ?_
          rintro e w6 ⟨A6, c6, rfl, hb6, ho6⟩
          have b6 := hide (bel_new b5.out hb6 b5.out.size)
          have O6 := hide ho6.rd
          have S6 := hide (O5.out.below hb6)
          clear hb6 ho6
          go_wp2_with fail
          refine (l_sameTexts2 Z _ _ _ _ _ _ _ _ _ O6.out S6.out (by omega)).mono ?_
          rintro e w7 ⟨rfl, n7, rfl⟩
          go_wp2
          go_ret
          exact ⟨rfl, bel_drewN b6.out n7⟩
        · have d6 : 600 < ((lineOf Z).size : Int) := by omega
          generalize lineOf Z = u at *
          go_wp2
          go_ret
          exact ⟨rfl, b5.out⟩
  · obtain ⟨g1, g2, g3, g4⟩ := text_words (⟨#[97, 98, 99, 100]⟩ : ByteArray) (by decide) (by decide)
    have d1 : (s.size : Int) ≤ 4000 := by omega
    have d2 : ((s.size : Int) % 4 != 0) = true := by rw [bne_iff_ne]; omega
    have CW := fun W => i_WordsOf (⟨#[97, 98, 99, 100]⟩ : ByteArray) (by decide) W
    have CT := fun A c L H W h => i_TextOf (wordsOf (⟨#[97, 98, 99, 100]⟩ : ByteArray)) g4 (by have := wordsOf_len (⟨#[97, 98, 99, 100]⟩ : ByteArray); omega) A c L H W h
    rw [g1] at CW
    rw [g2, g3] at CT
    generalize wordsOf (⟨#[97, 98, 99, 100]⟩ : ByteArray) = ws at *
    replace CW := hide CW
    replace CT := hide CT
    clear g1 g2 g3 g4
    go_wp2_with fail
    refine (CW.out _).mono ?_
    rintro e w2 ⟨A2, c2, rfl, hb2, ho2⟩
    have R2 := hide (R1.out.below hb2)
    have b2 := hide (bel_new b1.out hb2 b1.out.size)
    have O2 := hide ho2.rd
    clear hb2 ho2
    go_wp2_with fail
    refine (CT.out _ _ _ _ _ O2.out).mono ?_
    rintro e w3 ⟨rfl, hb3⟩
    have R3 := hide (R2.out.below hb3)
    have b3 := hide (bel_new b2.out hb3 b2.out.size)
    clear hb3 O2 CT CW
    go_wp2_with fail
    refine (s_DrawPartsOf z0 a0 cap0 _ _ _ R3.out HB.out hn).mono ?_
    rintro e w4 ⟨q, rfl, hq, hb4⟩
    have b4 := hide (bel_new b3.out hb4 b3.out.size)
    clear hb4 R1 R2 R3
    go_wp2_with fail
    refine (s_PartsOf q (by omega) _).mono ?_
    rintro e w5 ⟨A5, c5, rfl, hb5, ho5⟩
    have b5 := hide (bel_new b4.out hb5 b4.out.size)
    have O5 := hide ho5.rd
    clear hb5 ho5
    cases hgood : partsOk q
    · go_wp2
      go_ret
      exact ⟨rfl, b5.out⟩
    have hpl := pk_yes hgood
    have hpb := parts_back q hgood
    obtain ⟨p12, psz⟩ := parts_few q hgood
    rw [hpl] at O5 ⊢
    clear hpl hgood hq
    generalize partsB q = Z at *
    have PB := hide hpb
    have PZ := hide psz
    clear hpb psz
    go_wp2
    go_loopw [10, 11] (fun v i wr => ∃ j : Nat, j ≤ Z.length ∧ i = .int .i64 (j : Int) ∧ v = .string (lineOf (Z.take j)) ∧ wr = w5) (fun _ i _ => Z.length - (intOf i).toNat)
    case atStart => exact ⟨0, Nat.zero_le _, rfl, rfl, rfl⟩
    case round =>
      obtain ⟨j, hj, rfl, rfl, hwr⟩ := hrel
      subst hwr
      by_cases hlt : j < Z.length
      · have hl2 : j < (strs Z).length := by rw [length_strs]; omega
        obtain ⟨ad, rfl, _, _, hcell⟩ := O5.out.at_ hl2
        rw [strs_get] at hcell
        have hnx := hide (lineOf_next hlt)
        have hz1 := line_take Z PZ.out p12 j
        have hz2 := PZ.out (Z[j]'hlt) (List.getElem_mem hlt)
        generalize Z[j]'hlt = z at *
        generalize lineOf (Z.take j) = u at *
        have e32 : (⟨#[32]⟩ : ByteArray).size = 1 := rfl
        have gs1 : ¬ 9223372036854775807 < u.size + (⟨#[32]⟩ : ByteArray).size := by omega
        have gs2 : ¬ 9223372036854775807 < (u ++ (⟨#[32]⟩ : ByteArray)).size + z.size := by rw [ByteArray.size_append]; omega
        go_wp2
        go_roundw
        case rel => exact ⟨j + 1, by omega, by go_num, by rw [hnx.out], by first | rfl | trivial⟩
        case measure => simp [intOf]; omega
      · have hje : j = Z.length := by omega
        subst hje
        rw [List.take_length] at *
        by_cases hl6 : (lineOf Z).size ≤ 600
        · obtain ⟨k1, k2⟩ := PB.out hl6
          have CP := fun W h => i_PartsOf (lineOf Z) (by omega) W h
          rw [k1, k2] at CP
          replace CP := hide CP
          clear k1 k2
          have d6 : ((lineOf Z).size : Int) ≤ 600 := by omega
          generalize lineOf Z = u at *
          go_wp2_with fail
          refine (CP.out _ (HM.out.imp fun m h => ((bcell b5.out).1 _ _ hlt1.out).trans h)).mono ?_
          rintro e w6 ⟨A6, c6, rfl, hb6, ho6⟩
          have b6 := hide (bel_new b5.out hb6 b5.out.size)
          have O6 := hide ho6.rd
          have S6 := hide (O5.out.below hb6)
          clear hb6 ho6
          go_wp2_with fail
          refine (l_sameTexts2 Z _ _ _ _ _ _ _ _ _ O6.out S6.out (by omega)).mono ?_
          rintro e w7 ⟨rfl, n7, rfl⟩
          go_wp2
          go_ret
          exact ⟨rfl, bel_drewN b6.out n7⟩
        · have d6 : 600 < ((lineOf Z).size : Int) := by omega
          generalize lineOf Z = u at *
          go_wp2
          go_ret
          exact ⟨rfl, b5.out⟩
  · obtain ⟨g1, g2, g3, g4⟩ := text_words (⟨#[97, 98, 99, 100]⟩ : ByteArray) (by decide) (by decide)
    have d1 : 4000 < (s.size : Int) := by omega
    have CW := fun W => i_WordsOf (⟨#[97, 98, 99, 100]⟩ : ByteArray) (by decide) W
    have CT := fun A c L H W h => i_TextOf (wordsOf (⟨#[97, 98, 99, 100]⟩ : ByteArray)) g4 (by have := wordsOf_len (⟨#[97, 98, 99, 100]⟩ : ByteArray); omega) A c L H W h
    rw [g1] at CW
    rw [g2, g3] at CT
    generalize wordsOf (⟨#[97, 98, 99, 100]⟩ : ByteArray) = ws at *
    replace CW := hide CW
    replace CT := hide CT
    clear g1 g2 g3 g4
    go_wp2_with fail
    refine (CW.out _).mono ?_
    rintro e w2 ⟨A2, c2, rfl, hb2, ho2⟩
    have R2 := hide (R1.out.below hb2)
    have b2 := hide (bel_new b1.out hb2 b1.out.size)
    have O2 := hide ho2.rd
    clear hb2 ho2
    go_wp2_with fail
    refine (CT.out _ _ _ _ _ O2.out).mono ?_
    rintro e w3 ⟨rfl, hb3⟩
    have R3 := hide (R2.out.below hb3)
    have b3 := hide (bel_new b2.out hb3 b2.out.size)
    clear hb3 O2 CT CW
    go_wp2_with fail
    refine (s_DrawPartsOf z0 a0 cap0 _ _ _ R3.out HB.out hn).mono ?_
    rintro e w4 ⟨q, rfl, hq, hb4⟩
    have b4 := hide (bel_new b3.out hb4 b3.out.size)
    clear hb4 R1 R2 R3
    go_wp2_with fail
    refine (s_PartsOf q (by omega) _).mono ?_
    rintro e w5 ⟨A5, c5, rfl, hb5, ho5⟩
    have b5 := hide (bel_new b4.out hb5 b4.out.size)
    have O5 := hide ho5.rd
    clear hb5 ho5
    cases hgood : partsOk q
    · go_wp2
      go_ret
      exact ⟨rfl, b5.out⟩
    have hpl := pk_yes hgood
    have hpb := parts_back q hgood
    obtain ⟨p12, psz⟩ := parts_few q hgood
    rw [hpl] at O5 ⊢
    clear hpl hgood hq
    generalize partsB q = Z at *
    have PB := hide hpb
    have PZ := hide psz
    clear hpb psz
    go_wp2
    go_loopw [10, 11] (fun v i wr => ∃ j : Nat, j ≤ Z.length ∧ i = .int .i64 (j : Int) ∧ v = .string (lineOf (Z.take j)) ∧ wr = w5) (fun _ i _ => Z.length - (intOf i).toNat)
    case atStart => exact ⟨0, Nat.zero_le _, rfl, rfl, rfl⟩
    case round =>
      obtain ⟨j, hj, rfl, rfl, hwr⟩ := hrel
      subst hwr
      by_cases hlt : j < Z.length
      · have hl2 : j < (strs Z).length := by rw [length_strs]; omega
        obtain ⟨ad, rfl, _, _, hcell⟩ := O5.out.at_ hl2
        rw [strs_get] at hcell
        have hnx := hide (lineOf_next hlt)
        have hz1 := line_take Z PZ.out p12 j
        have hz2 := PZ.out (Z[j]'hlt) (List.getElem_mem hlt)
        generalize Z[j]'hlt = z at *
        generalize lineOf (Z.take j) = u at *
        have e32 : (⟨#[32]⟩ : ByteArray).size = 1 := rfl
        have gs1 : ¬ 9223372036854775807 < u.size + (⟨#[32]⟩ : ByteArray).size := by omega
        have gs2 : ¬ 9223372036854775807 < (u ++ (⟨#[32]⟩ : ByteArray)).size + z.size := by rw [ByteArray.size_append]; omega
        go_wp2
        go_roundw
        case rel => exact ⟨j + 1, by omega, by go_num, by rw [hnx.out], by first | rfl | trivial⟩
        case measure => simp [intOf]; omega
      · have hje : j = Z.length := by omega
        subst hje
        rw [List.take_length] at *
        by_cases hl6 : (lineOf Z).size ≤ 600
        · obtain ⟨k1, k2⟩ := PB.out hl6
          have CP := fun W h => i_PartsOf (lineOf Z) (by omega) W h
          rw [k1, k2] at CP
          replace CP := hide CP
          clear k1 k2
          have d6 : ((lineOf Z).size : Int) ≤ 600 := by omega
          generalize lineOf Z = u at *
          go_wp2_with fail
          refine (CP.out _ (HM.out.imp fun m h => ((bcell b5.out).1 _ _ hlt1.out).trans h)).mono ?_
          rintro e w6 ⟨A6, c6, rfl, hb6, ho6⟩
          have b6 := hide (bel_new b5.out hb6 b5.out.size)
          have O6 := hide ho6.rd
          have S6 := hide (O5.out.below hb6)
          clear hb6 ho6
          go_wp2_with fail
          refine (l_sameTexts2 Z _ _ _ _ _ _ _ _ _ O6.out S6.out (by omega)).mono ?_
          rintro e w7 ⟨rfl, n7, rfl⟩
          go_wp2
          go_ret
          exact ⟨rfl, bel_drewN b6.out n7⟩
        · have d6 : 600 < ((lineOf Z).size : Int) := by omega
          generalize lineOf Z = u at *
          go_wp2
          go_ret
          exact ⟨rfl, b5.out⟩

theorem of_shape {W : World} (hS : W.ShapedOpen Tryd.prog) : ∃ m, World.cell? W ⟨1, 0, none⟩ = some (.int .i64 m) := by
  exact Tryd.laysM146.s1_3 W hS
set_option maxRecDepth 100000 in
theorem body (H : Type) (enc : TypeId × Value → H) (W : World) (base : Nat) (args : Array Value) (ds gs : List (DataW H)) (before : List MemPlace)
    (hval0 : ∀ (j : Nat) t v, Tryd.f6.params[j]? = some t → args[j]? = some v → Value.okWide Tryd.prog W .any base t v)
    (hW : DataW.Whole enc Tryd.prog Tryd.f6.params.toList Rows.fnTextsSpec.vars false W args.toList ds gs before) (hSh : W.ShapedOpen Tryd.prog) :
    Calls Tryd.prog 6 args W fun e W' => ∃ v, e = .returned v ∧ Rows.fnTextsSpec.post enc Tryd.prog Tryd.f6 false true false false W args v W' := by
  have hval : ∀ (j : Nat) t v, Tryd.f6.params[j]? = some t → args[j]? = some v → Value.okWide Tryd.prog W .any base t v := hval0
  have hW' := hW
  obtain ⟨p, q, hA0, hV, rfl, hfz, hnd⟩ := hW
  have hA : DataW.TrodAll enc Tryd.prog W 0 (fun _ => true) true Tryd.f6.params.toList args.toList ds p := hA0
  rw [Tryd.params6] at hA hval
  obtain ⟨v0, vs0, d0, ds0, p0, q0, hargs, rfl, rfl, h0, r0⟩ := trodAll_cons hA
  obtain ⟨rfl, rfl, rfl⟩ := trodAll_nil r0
  obtain rfl : args = #[v0] := by cases args; simp_all
  obtain ⟨rfl, rfl⟩ := trodVars_none hV
  have k0 := h0
  have lt0 : ∀ x ∈ p0, x.block < W.heap.size := by obtain ⟨m, hm⟩ := k0; exact DataW.trod_lt m _ _ _ hm
  obtain ⟨A0, L0, C0, rfl⟩ := okWide_slice Tryd.underlying25 (hval 0 25 v0 rfl rfl)
  obtain ⟨fuel0, hf0⟩ := h0
  obtain ⟨a0, cap0, z0, ea0, w0, l0, b0⟩ := rd_ints (v := .slice A0 L0 C0) Tryd.underlying25 Tryd.underlying5 (by kernel_rfl) (by simpa [Value.cells] using hf0)
  simp only [Value.slice.injEq] at ea0
  obtain ⟨xa0, ya0, ta0⟩ := ea0
  replace xa0 := xa0.symm
  replace ta0 := ta0.symm
  subst xa0
  subst ta0
  subst ya0
  clear hA0 hval0
  refine (walk a0 cap0 z0 W w0 l0 b0 (of_shape hSh)).mono fun e W' ⟨he, bel⟩ => ?_
  subst he
  exact ⟨_, rfl, _, _, _, [], _, [], hW', trodAll_mk1 (shut_bool Tryd.underlying4 _), (trodAll_cons_mk (Below.trod laidOut (by kernel_rfl) (of_decide_eq_true (by kernel_rfl)) k0 bel lt0) trodAll_mk0), rfl, bel.frame _, fun h => by cases h⟩

set_option maxRecDepth 100000 in
theorem lifted (os : Os) (started : os.Started) (H : Type) (enc : TypeId × Value → H) :
    ReturnsInHanded {} Tryd.checked os 6 .any (fun w args => (Rows.fnTextsSpec.pre enc Tryd.prog Tryd.f6 [] false w args ∧ laidMetH Tryd.prog Rows.fnTextsRow.laid w) ∧ sizedMet enc Tryd.prog Tryd.f6 (OpenSpec.ofChange Rows.fnTextsSpec) false w args) (Rows.fnTextsSpec.post enc Tryd.prog Tryd.f6 false true false false) := by
  refine returnsInHanded_of_calls (C := Tryd.checked) own started (by kernel_rfl)
    (ChangeSpec.witness_shaped (enc := enc) (C := Tryd.checked) (os := os) (X := fun w _ => laidMetH Tryd.prog Rows.fnTextsRow.laid w) false (World.laidAll Tryd.prog os Rows.fnTextsRow.laid) #[.slice none 0 0] 8 (World.laidAll_os _ _ _)
      (World.shaped_of_ZipB (by kernel_rfl) (by kernel_rfl)) (by kernel_rfl) (by kernel_rfl) (by kernel_rfl)
      (by rw [MakeChecks.laidMetH_plain _ _ _ (by kernel_rfl)]; exact laidMet_laidAll _ (by kernel_rfl) (by kernel_rfl))) ?_
  intro w tape i _ hsh _ hok hpre _
  obtain ⟨_, _, _, fn', hfn', _, _, _, _, hval⟩ := hok
  have e : fn' = Tryd.f6 := Option.some.inj (hfn'.symm.trans Tryd.func6)
  subst e
  obtain ⟨⟨⟨ds, gs, before, hw, _⟩, _⟩, _⟩ := hpre
  have hw' := DataW.Whole.of_heap (w' := w.forCall tape i) (by rfl) hw
  refine (body H enc (w.forCall tape i) w.heap.size i.args ds gs before hval hw' hsh).mono fun e W' ⟨v, he, hp⟩ => ?_
  subst he
  exact ChangeSpec.post_blind hp

theorem over : Rows.fnTextsRow.holds Tryd.pinned (OpenSpec.ofChange Rows.fnTextsSpec) :=
  OpenClaim.holds_of_wide 6 Tryd.f6 rfl rfl rfl rfl rfl rfl rfl ⟨rfl, rfl, rfl, rfl, rfl⟩ rfl rfl rfl rfl rfl (by kernel_rfl) Tryd.func6 (by kernel_rfl)
    (of_decide_eq_true (by kernel_rfl)) (by unfold Func.isWrapper; first | (rw [if_pos (by decide +kernel)]; kernel_rfl) | (rw [if_neg (by decide +kernel)]; exact ⟨rfl, rfl⟩))
    (fun os started H enc _ => lifted os started H enc)

theorem proved : Rows.FnTextsCardSaid :=
  Claim7.holds_tied_plain_at .later [] [.data, .pinned] true (true, "56a504b225666d245d79aae5f3167b93368768cb7226b90758e4161cccb440f8") false
    over (fun _ h => by cases h) (by kernel_rfl) (fun _ h => by cases h) fnTexts_row_tie rfl ⟨rfl, rfl⟩ (by kernel_rfl) rfl
    (fun f fn hf hfn => by
      obtain rfl : f = 6 := Option.some.inj ((show Tryd.prog.funcNamed "loop.example/g00074/laws.FnTexts" = some 6 by kernel_rfl).symm.trans hf) |>.symm
      obtain rfl : fn = Tryd.f6 := (Option.some.inj (Tryd.func6.symm.trans hfn)).symm
      exact ⟨by kernel_rfl, fun j t ht => by
        rw [Tryd.params6] at ht
        have hm : t ∈ [25] := by simpa using Array.mem_of_getElem? ht
        have hall : ([25].all fun u => !Tryd.prog.wantsStandIn u) = true := by kernel_rfl
        exact (show Tryd.prog.wantsStandIn t = false by simpa using List.all_eq_true.1 hall t hm)⟩)
    (by kernel_rfl)
#print axioms proved
end Go.Proofs.YtejhpkcoeakegaaDoor.fnTexts

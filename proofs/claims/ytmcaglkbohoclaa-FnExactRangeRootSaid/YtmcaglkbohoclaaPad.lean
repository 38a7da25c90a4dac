/-
  The walks of PadOf and BlocksOf.
-/
import Derived.Test.YtmcaglkbohoclaaText
import Derived.Test.YtmcaglkbohoclaaApp
import Derived.Test.YtmcaglkbohoclaaShelf
import Derived.Laws.BytesArg
import Derived.LoopTactic
import Derived.Outline
namespace Go.Proofs.Ytmcaglkbohoclaa
set_option linter.unusedVariables false
open Go.RowKit

/-- How many noughts lie in the padding of a text of n bytes. -/
def padZ (n : Nat) : Nat := (119 - n % 64) % 64
theorem padZ_le (n : Nat) : padZ n ≤ 63 := by unfold padZ; omega
/-- The eight bytes of a number. -/
def full8 (n : Nat) : List Int := (List.range 8).map fun k => ((n / 256 ^ (7 - k) % 256 : Nat) : Int)
theorem full8_take (n k : Nat) (h : k < 8) : (full8 n).take k ++ [((n / 256 ^ (7 - k) : Nat) : Int) % 256] = (full8 n).take (k + 1) := by
  have hl : k < (full8 n).length := by simp [full8]; omega
  rw [List.take_succ_eq_append_getElem hl]
  simp [full8]
def padL (n : Nat) : List Int := (128 :: List.replicate (padZ n) 0) ++ full8 n
def padText (n : Nat) : ByteArray := strOfNums (padL n)
theorem padText_size (n : Nat) : (padText n).size = padZ n + 9 := by
  rw [padText, strOfNums_size]
  simp [padL, full8]
def zeros (c : Nat) : ByteArray := strOfNums (List.replicate c 0)
theorem zeros_size (c : Nat) : (zeros c).size = c := by rw [zeros, strOfNums_size]; simp
theorem full8_four (n : Nat) (h : n ≤ 4000) : full8 n = [0, 0, 0, 0, 0, 0, (n : Int) / 256 % 256, (n : Int) % 256] := by
  have e : full8 n = [((n / 72057594037927936 % 256 : Nat) : Int), ((n / 281474976710656 % 256 : Nat) : Int), ((n / 1099511627776 % 256 : Nat) : Int), ((n / 4294967296 % 256 : Nat) : Int), ((n / 16777216 % 256 : Nat) : Int), ((n / 65536 % 256 : Nat) : Int), ((n / 256 % 256 : Nat) : Int), ((n / 1 % 256 : Nat) : Int)] := rfl
  rw [e]
  congr 1
  · omega
  congr 1
  · omega
  congr 1
  · omega
  congr 1
  · omega
  congr 1
  · omega
  congr 1
  · omega
  simp
theorem pad_join (n : Nat) (h : n ≤ 4000) : (⟨#[128]⟩ : ByteArray) ++ zeros (padZ n) ++ wordText 0 ++ wordText (n : Int) = padText n := by
  apply ByteArray.ext
  have e1 : (n : Int) / 16777216 = 0 := by omega
  have e2 : (n : Int) / 65536 % 256 = 0 := by omega
  simp [padText, padL, zeros, wordText, strOfNums, full8_four n h, e1, e2]
theorem run_str_own2 {P : Program} {w : World} {B C : Nat} (src dst e : TypeId) (hs : P.underlying src = some (.slice e)) (he : P.underlying e = some (.int .u8)) (hd : P.underlying dst = some .string) (v : Value) (zs : List Int) (h : Own w B C e v (ints .u8 zs)) :
    (convert src dst v).run P w = .ok (.string (strOfNums zs)) w := by
  rcases h.cases with ⟨rfl, h0⟩ | ⟨g, cap, cur, rfl, h1, h2, h3, h4, h5, h6, h7, h8⟩
  · have : zs = [] := by
      have := congrArg List.length h0
      rw [length_ints] at this
      exact List.eq_nil_of_length_eq_zero this
    subst this
    exact run_convert_bytes_nil w src e hs he 0 0 dst hd
  · rw [length_ints] at *
    refine run_convert_bytes_arg w src e hs he g 0 zs.length cap zs rfl ?_ dst hd
    intro i hi
    have hi' : i < (ints .u8 zs).length := by rw [length_ints]; exact hi
    obtain ⟨_, _, _, hc, _⟩ := h.at3 hi'
    rw [Nat.zero_add, hc, ints_get]
    simp [List.getD, List.getElem?_eq_getElem hi]

theorem infoU8p : (Try.prog.info? 5).map (fun i => (i.zero, i.size, i.bytes)) = some (some (.int .u8 0), 1, 1) := by kernel_rfl
theorem zeros_repeat (c : Nat) : (⟨(Lib.repeatL (⟨#[0]⟩ : ByteArray).data.toList c).toArray⟩ : ByteArray) = zeros c := by
  have : (⟨#[0]⟩ : ByteArray).data.toList = List.replicate 1 0 := rfl
  rw [this, Lib.repeatL_replicate, Nat.mul_one]
  apply ByteArray.ext
  simp [zeros, strOfNums]
theorem i_Repeat (c : Nat) (hc : c ≤ 63) (w : World) :
    Calls Try.prog 87 #[.string ⟨#[0]⟩, .int .i64 (c : Int)] w fun e w' => e = .returned (.string (zeros c)) ∧ Below w.heap.size w w' := by
  by_cases h0 : c = 0
  · subst h0
    refine (Try.strings_Repeat_zero _ _).mono ?_
    rintro e w' ⟨rfl, rfl⟩
    exact ⟨rfl, Below.refl _ _⟩
  · by_cases h1 : c = 1
    · subst h1
      refine (Try.strings_Repeat_one _ _).mono ?_
      rintro e w' ⟨rfl, rfl⟩
      exact ⟨rfl, Below.refl _ _⟩
    · refine (Try.strings_Repeat_main _ c _ (by omega) (by omega) (by rw [show (⟨#[0]⟩ : ByteArray).size = 1 from rfl]; omega) (by decide)).mono ?_
      rintro e w' ⟨rfl, hb⟩
      rw [zeros_repeat]
      exact ⟨rfl, hb⟩
set_option maxRecDepth 100000 in
set_option maxHeartbeats 1000000 in
theorem i_padOf (n : Nat) (h : n ≤ 4000) (w : World) :
    Calls Try.prog 79 #[.int .i64 (n : Int)] w fun e w' => e = .returned (.string (padText n)) ∧ Below w.heap.size w w' := by
  have hp := hide (pad_join n h)
  obtain ⟨Z, hZ⟩ : ∃ Z, padZ n = Z := ⟨_, rfl⟩
  have hz63 : Z ≤ 63 := by rw [← hZ]; exact padZ_le n
  have eZ : (119 - (n : Int) % 64) % 64 = (Z : Int) := by rw [← hZ]; unfold padZ; omega
  have e0 : (n : Int) / 4294967296 = 0 := by omega
  have g1 : ¬ 9223372036854775807 < 1 + (zeros Z).size := big_not (by rw [zeros_size]; omega)
  have g2 : ¬ 9223372036854775807 < 1 + (zeros Z).size + (wordText 0).size := big_not (by rw [zeros_size, wordText_size]; omega)
  have g3 : ¬ 9223372036854775807 < 1 + (zeros Z).size + (wordText 0).size + (wordText (n : Int)).size := big_not (by rw [zeros_size, wordText_size, wordText_size]; omega)
  rw [hZ] at hp
  replace hZ := hide hZ
  go_enter Try.func79, Try.ntmps79
  go_wp2_with (first | (go_at_call 87; refine (i_Repeat Z hz63 _).mono ?_; rintro e w1 ⟨rfl, hb1⟩; have b1 := hide hb1; clear hb1) | (go_at_call_of 88 (n : Int); refine (i_WordText _ (by omega) (by omega) _).mono ?_; rintro e w3 ⟨rfl, hb3⟩; have b3 := hide hb3; clear hb3) | (go_at_call 88; refine (i_WordText _ (by omega) (by omega) _).mono ?_; rintro e w2 ⟨rfl, hb2⟩; have b2 := hide hb2; clear hb2))
  go_ret
  exact ⟨ret_str hp.out, bel_new (bel_new b1.out b2.out b1.out.size) b3.out (bel_new b1.out b2.out b1.out.size).size⟩
/-- PadOf. -/
def padOk (n : Int) : Bool := inR n 0 4000
def padS (n : Int) : ByteArray := if padOk n then padText n.toNat else ⟨#[]⟩
theorem pad_more (n j : Nat) (h : j ≤ padZ n) : ((n : Int) + ((j + 1 : Nat) : Int) + 8) % 64 ≠ 0 ↔ j < padZ n := by
  unfold padZ at *
  omega
theorem rep_succ (j : Nat) : ints .u8 (128 :: List.replicate j 0) ++ [.int .u8 0] = ints .u8 (128 :: List.replicate (j + 1) 0) := by
  rw [List.replicate_succ']
  simp [ints]
theorem len_rep (j : Nat) : (ints .u8 (128 :: List.replicate j 0)).length = j + 1 := by simp [ints]
theorem full_succ (n Z k : Nat) (h : k < 8) : ints .u8 ((128 :: List.replicate Z 0) ++ (full8 n).take k) ++ [.int .u8 (((n / 256 ^ (7 - k) : Nat) : Int) % 256)] = ints .u8 ((128 :: List.replicate Z 0) ++ (full8 n).take (k + 1)) := by
  rw [← full8_take n k h]
  simp [ints]
theorem len_full (n Z k : Nat) (h : k ≤ 8) : (ints .u8 ((128 :: List.replicate Z 0) ++ (full8 n).take k)).length = Z + 1 + k := by
  simp [ints, full8]
  omega
set_option maxRecDepth 100000 in
set_option maxHeartbeats 4000000 in
theorem s_PadOf_in (n : Nat) (h : n ≤ 4000) (w : World) :
    Calls Try.prog 62 #[.int .i64 (n : Int)] w fun e w' => e = .returned (.tuple #[.string (padText n), .bool true]) ∧ Below w.heap.size w w' := by
  have hin := inR_true (x := (n : Int)) (a := 0) (b := 4000) (by omega) (by omega)
  have hz63 := padZ_le n
  obtain ⟨Z, hZ⟩ : ∃ Z, padZ n = Z := ⟨_, rfl⟩
  have hZ' := hide hZ
  rw [hZ] at hz63
  clear hZ
  go_enter Try.func62, Try.ntmps62
  go_wp2_with (go_at_call 33; refine (s_l01In _ _ _ _).mono ?_; rintro e w1 ⟨rfl, rfl⟩)
  have O1 := hide (Own.made (w := w) #[.int .u8 128] 5 w.heap.size (Nat.le_refl _) (by simp [maxLen])).top
  have B1 := hide ((Below.refl w.heap.size w).alloc (Nat.le_refl _) (.cells #[.int .u8 128] 5))
  go_loopw [4] (fun v wr => ∃ j : Nat, j ≤ Z ∧ Below w.heap.size w wr ∧ ∃ A c, v = .slice A (j + 1) c ∧ Own wr w.heap.size wr.heap.size 5 v (ints .u8 (128 :: List.replicate j 0))) (fun v _ => 64 - (match v with | .slice _ n _ => n | _ => 0))
  case atStart => exact ⟨0, Nat.zero_le _, B1.out, _, _, rfl, O1.out⟩
  case round =>
    obtain ⟨j, hj, hb, A, c, rfl, ho⟩ := hrel
    have HB := hide hb
    have HO := hide ho
    clear hb ho
    by_cases hlt : j < Z
    · have hm := (pad_more n j (by rw [hZ'.out]; exact hj)).2 (by rw [hZ'.out]; exact hlt)
      have hm' : (((n : Int) + ((j : Int) + 1) + 8) % 64 != 0) = true := by rw [bne_iff_ne]; simpa using hm
      clear hm
      have HL := hide (len_rep j)
      have hs := hide (rep_succ j)
      go_wp2_with (at_builtin; refine wpList_app rfl _ _ _ rfl 5 (.int .u8 0) 1 Try.underlying67 infoU8p rfl w.heap.size _ _ rfl ((HO.out.alloc _).top) ⟨wr.heap.size, 0, none⟩ 1 1 [.int .u8 0] rfl rfl (new_cells #[.int .u8 0] _) (ints_one .u8 [0]) (by rw [HL.out]; omega) (by omega) (by have := HB.out.size; simp; omega) ?_; intro v' w2 hown2 hb2 _; have O2 := hide hown2; have B2 := hide ((HB.out.alloc HB.out.size _).trans hb2); clear hown2 hb2)
      have hO := O2.out
      rw [hs.out] at hO
      obtain ⟨A', c', rfl, ho'⟩ := hO.shape
      rw [len_rep] at ho' ⊢
      exact ⟨⟨j + 1, by omega, B2.out, A', c', rfl, ho'⟩, by simp; omega⟩
    · obtain rfl : j = Z := by omega
      have hm' : (((n : Int) + ((j : Int) + 1) + 8) % 64 != 0) = false := by
        have hm := pad_more n j (by rw [hZ'.out]; exact hj)
        rw [hZ'.out] at hm
        have : ¬ ((n : Int) + ((j + 1 : Nat) : Int) + 8) % 64 ≠ 0 := fun h => absurd (hm.1 h) (Nat.lt_irrefl _)
        have h2 : ((n : Int) + ((j : Int) + 1) + 8) % 64 = 0 := by omega
        rw [h2]; rfl
      go_wp2
      clear hm'
      go_loopw [4, 5, 6, 7] (fun v i _ _ wx => ∃ K : Nat, K ≤ 8 ∧ i = .int .i64 (7 - (K : Int)) ∧ Below w.heap.size w wx ∧ Own wx w.heap.size wx.heap.size 5 v (ints .u8 ((128 :: List.replicate j 0) ++ (full8 n).take K))) (fun _ i _ _ _ => (intOf i + 1).toNat)
      case atStart => exact ⟨0, by omega, rfl, HB.out, by simpa using HO.out⟩
      case round =>
        clear HB HO
        obtain ⟨K, hK, rfl, hb, ho⟩ := hrel
        have HB := hide hb
        have HO := hide ho
        clear hb ho
        by_cases hK8 : K < 8
        · obtain ⟨I, hI⟩ : ∃ I, 7 - K = I := ⟨_, rfl⟩
          have ei : (7 - (K : Int)) = (I : Int) := by omega
          have HL := hide (len_full n j K (by omega))
          have hs := hide (full_succ n j K hK8)
          rw [hI] at hs
          rw [ei]
          have hI' := hide hI
          have hI8 : I ≤ 7 := by omega
          go_wp2
          go_loop [6, 7] (fun q x => ∃ J Q : Nat, J ≤ I ∧ x = .int .i64 (J : Int) ∧ q = .int .i64 (Q : Int) ∧ Q ≤ 4000 ∧ Hid (n / 256 ^ J = Q)) (fun _ x => I - (intOf x).toNat)
          case atStart => exact ⟨0, n, by omega, rfl, rfl, h, by simp [Hid]⟩
          case round =>
            obtain ⟨J, Q, hJ, rfl, rfl, hQ, hq⟩ := hrel
            by_cases hJI : J < I
            · have hd := hide (show n / 256 ^ (J + 1) = Q / 256 by rw [Nat.pow_succ, ← Nat.div_div_eq_div_mul, hq.out])
              go_wp2
              go_round
              case rel => exact ⟨J + 1, Q / 256, by omega, by go_num, by go_num, by omega, hd⟩
              case measure => simp [intOf]; omega
            · obtain rfl : J = I := by omega
              have hs2 := hs.out
              rw [hq.out] at hs2
              have hs3 := hide hs2
              clear hs2
              go_wp2_with (at_builtin; refine wpList_app rfl _ _ _ rfl 5 (.int .u8 0) 1 Try.underlying67 infoU8p rfl w.heap.size _ _ rfl ((HO.out.alloc _).top) ⟨wr.heap.size, 0, none⟩ 1 1 [.int .u8 ((Q : Int) % 256)] rfl rfl (new_cells #[.int .u8 ((Q : Int) % 256)] _) (ints_one .u8 [(Q : Int) % 256]) (by rw [HL.out]; omega) (by omega) (by have := HB.out.size; simp; omega) ?_; intro v' w2 hown2 hb2 _; have O2 := hide hown2; have B2 := hide ((HB.out.alloc HB.out.size _).trans hb2); clear hown2 hb2)
              go_roundw
              case rel => exact ⟨K + 1, by omega, by go_num, B2.out, by have := O2.out; rw [hs3.out] at this; exact this⟩
              case measure => simp [intOf] <;> omega
        · obtain rfl : K = 8 := by omega
          have kc := run_str_own2 (P := Try.prog) (w := wr) _ _ _ Try.underlying67 Try.underlying5 Try.underlying9 _ _ HO.out
          go_wp2
          go_ret2
          exact ⟨by rw [padText, padL, hZ'.out]; rfl, HB.out⟩
theorem s_PadOf (n : Int) (w : World) :
    Calls Try.prog 62 #[.int .i64 n] w fun e w' => e = .returned (.tuple #[.string (padS n), .bool (padOk n)]) ∧ Below w.heap.size w w' := by
  cases hk : padOk n
  · have e1 : padS n = ⟨#[]⟩ := by simp [padS, hk]
    unfold padOk at hk
    rw [e1]
    clear e1
    go_enter Try.func62, Try.ntmps62
    go_wp2_with (go_at_call 33; refine (s_l01In _ _ _ _).mono ?_; rintro e w1 ⟨rfl, rfl⟩)
    go_ret2
    exact ⟨rfl, Below.refl _ _⟩
  · have e1 : padS n = padText n.toNat := by simp [padS, hk]
    unfold padOk at hk
    have hb : 0 ≤ n ∧ n ≤ 4000 := by simp only [inR, Bool.and_eq_true, decide_eq_true_eq] at hk; exact hk
    obtain ⟨N, rfl⟩ := Int.eq_ofNat_of_zero_le hb.1
    rw [e1, Int.toNat_natCast]
    exact s_PadOf_in N (by omega) w
/-- BlocksOf. -/
def blocksI (n : Int) : Int := if padOk n then (n + (padZ n.toNat + 9 : Nat)) / 64 else 0
end Go.Proofs.Ytmcaglkbohoclaa

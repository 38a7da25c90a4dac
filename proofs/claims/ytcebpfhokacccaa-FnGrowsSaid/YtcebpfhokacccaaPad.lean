/-
  The walks of PadOf and BlocksOf.
-/
import Derived.Test.YtcebpfhokacccaaText
import Derived.Test.YtcebpfhokacccaaApp
import Derived.Test.YtcebpfhokacccaaShelf
import Derived.Laws.BytesArg
import Derived.LoopTactic
import Derived.Outline
namespace Go.Proofs.Ytcebpfhokacccaa
set_option linter.unusedVariables false
open Go.RowKit

/-- How many noughts lie in the padding of a text of n bytes. -/
def padZ (n : Nat) : Nat := (119 - n % 64) % 64
theorem padZ_le (n : Nat) : padZ n ≤ 63 := by unfold padZ; omega
/-- The eight bytes of a number. -/
def full8 (n : Nat) : List Int := (List.range 8).map fun k => ((n / 256 ^ (7 - k) % 256 : Nat) : Int)
theorem full8_take (n k : Nat) (h : k < 8) : (full8 n).take k ++ [((n / 256 ^ (7 - k) : Nat) : Int) % 256] = (full8 n).take (k + 1) := by
  have hl : k < (full8 n).length := by simp [full8]; omega
  rw [List.take_succ_eq_append_getElem hl]
  simp [full8]
def padL (n : Nat) : List Int := (128 :: List.replicate (padZ n) 0) ++ full8 n
def padText (n : Nat) : ByteArray := strOfNums (padL n)
theorem padText_size (n : Nat) : (padText n).size = padZ n + 9 := by
  rw [padText, strOfNums_size]
  simp [padL, full8]
def zeros (c : Nat) : ByteArray := strOfNums (List.replicate c 0)
theorem zeros_size (c : Nat) : (zeros c).size = c := by rw [zeros, strOfNums_size]; simp
theorem full8_four (n : Nat) (h : n ≤ 4000) : full8 n = [0, 0, 0, 0, 0, 0, (n : Int) / 256 % 256, (n : Int) % 256] := by
  have e : full8 n = [((n / 72057594037927936 % 256 : Nat) : Int), ((n / 281474976710656 % 256 : Nat) : Int), ((n / 1099511627776 % 256 : Nat) : Int), ((n / 4294967296 % 256 : Nat) : Int), ((n / 16777216 % 256 : Nat) : Int), ((n / 65536 % 256 : Nat) : Int), ((n / 256 % 256 : Nat) : Int), ((n / 1 % 256 : Nat) : Int)] := rfl
  rw [e]
  congr 1
  · omega
  congr 1
  · omega
  congr 1
  · omega
  congr 1
  · omega
  congr 1
  · omega
  congr 1
  · omega
  simp
theorem pad_join (n : Nat) (h : n ≤ 4000) : (⟨#[128]⟩ : ByteArray) ++ zeros (padZ n) ++ wordText 0 ++ wordText (n : Int) = padText n := by
  apply ByteArray.ext
  have e1 : (n : Int) / 16777216 = 0 := by omega
  have e2 : (n : Int) / 65536 % 256 = 0 := by omega
  simp [padText, padL, zeros, wordText, strOfNums, full8_four n h, e1, e2]
theorem run_str_own2 {P : Program} {w : World} {B C : Nat} (src dst e : TypeId) (hs : P.underlying src = some (.slice e)) (he : P.underlying e = some (.int .u8)) (hd : P.underlying dst = some .string) (v : Value) (zs : List Int) (h : Own w B C e v (ints .u8 zs)) :
    (convert src dst v).run P w = .ok (.string (strOfNums zs)) w := by
  rcases h.cases with ⟨rfl, h0⟩ | ⟨g, cap, cur, rfl, h1, h2, h3, h4, h5, h6, h7, h8⟩
  · have : zs = [] := by
      have := congrArg List.length h0
      rw [length_ints] at this
      exact List.eq_nil_of_length_eq_zero this
    subst this
    exact run_convert_bytes_nil w src e hs he 0 0 dst hd
  · rw [length_ints] at *
    refine run_convert_bytes_arg w src e hs he g 0 zs.length cap zs rfl ?_ dst hd
    intro i hi
    have hi' : i < (ints .u8 zs).length := by rw [length_ints]; exact hi
    obtain ⟨_, _, _, hc, _⟩ := h.at3 hi'
    rw [Nat.zero_add, hc, ints_get]
    simp [List.getD, List.getElem?_eq_getElem hi]

theorem infoU8p : (Try.prog.info? 5).map (fun i => (i.zero, i.size, i.bytes)) = some (some (.int .u8 0), 1, 1) := by kernel_rfl
theorem zeros_repeat (c : Nat) : (⟨(Lib.repeatL (⟨#[0]⟩ : ByteArray).data.toList c).toArray⟩ : ByteArray) = zeros c := by
  have : (⟨#[0]⟩ : ByteArray).data.toList = List.replicate 1 0 := rfl
  rw [this, Lib.repeatL_replicate, Nat.mul_one]
  apply ByteArray.ext
  simp [zeros, strOfNums]
theorem i_Repeat (c : Nat) (hc : c ≤ 63) (w : World) :
    Calls Try.prog 60 #[.string ⟨#[0]⟩, .int .i64 (c : Int)] w fun e w' => e = .returned (.string (zeros c)) ∧ Below w.heap.size w w' := by
  by_cases h0 : c = 0
  · subst h0
    refine (Try.strings_Repeat_zero _ _).mono ?_
    rintro e w' ⟨rfl, rfl⟩
    exact ⟨rfl, Below.refl _ _⟩
  · by_cases h1 : c = 1
    · subst h1
      refine (Try.strings_Repeat_one _ _).mono ?_
      rintro e w' ⟨rfl, rfl⟩
      exact ⟨rfl, Below.refl _ _⟩
    · refine (Try.strings_Repeat_main _ c _ (by omega) (by omega) (by rw [show (⟨#[0]⟩ : ByteArray).size = 1 from rfl]; omega) (by decide)).mono ?_
      rintro e w' ⟨rfl, hb⟩
      rw [zeros_repeat]
      exact ⟨rfl, hb⟩
set_option maxRecDepth 100000 in
set_option maxHeartbeats 1000000 in
theorem i_padOf (n : Nat) (h : n ≤ 4000) (w : World) :
    Calls Try.prog 56 #[.int .i64 (n : Int)] w fun e w' => e = .returned (.string (padText n)) ∧ Below w.heap.size w w' := by
  have hp := hide (pad_join n h)
  obtain ⟨Z, hZ⟩ : ∃ Z, padZ n = Z := ⟨_, rfl⟩
  have hz63 : Z ≤ 63 := by rw [← hZ]; exact padZ_le n
  have eZ : (119 - (n : Int) % 64) % 64 = (Z : Int) := by rw [← hZ]; unfold padZ; omega
  have e0 : (n : Int) / 4294967296 = 0 := by omega
  have g1 : ¬ 9223372036854775807 < 1 + (zeros Z).size := big_not (by rw [zeros_size]; omega)
  have g2 : ¬ 9223372036854775807 < 1 + (zeros Z).size + (wordText 0).size := big_not (by rw [zeros_size, wordText_size]; omega)
  have g3 : ¬ 9223372036854775807 < 1 + (zeros Z).size + (wordText 0).size + (wordText (n : Int)).size := big_not (by rw [zeros_size, wordText_size, wordText_size]; omega)
  rw [hZ] at hp
  replace hZ := hide hZ
  go_enter Try.func56, Try.ntmps56
  go_wp2_with (first | (go_at_call 60; refine (i_Repeat Z hz63 _).mono ?_; rintro e w1 ⟨rfl, hb1⟩; have b1 := hide hb1; clear hb1) | (go_at_call_of 61 (n : Int); refine (i_WordText _ (by omega) (by omega) _).mono ?_; rintro e w3 ⟨rfl, hb3⟩; have b3 := hide hb3; clear hb3) | (go_at_call 61; refine (i_WordText _ (by omega) (by omega) _).mono ?_; rintro e w2 ⟨rfl, hb2⟩; have b2 := hide hb2; clear hb2))
  go_ret
  exact ⟨ret_str hp.out, bel_new (bel_new b1.out b2.out b1.out.size) b3.out (bel_new b1.out b2.out b1.out.size).size⟩
/-- PadOf. -/
def padOk (n : Int) : Bool := inR n 0 4000
def padS (n : Int) : ByteArray := if padOk n then padText n.toNat else ⟨#[]⟩
/-- BlocksOf. -/
def blocksI (n : Int) : Int := if padOk n then (n + (padZ n.toNat + 9 : Nat)) / 64 else 0
end Go.Proofs.Ytcebpfhokacccaa

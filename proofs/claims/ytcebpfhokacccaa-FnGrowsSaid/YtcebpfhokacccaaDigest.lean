/-
  The walks of Digest, EmptyRoot, NodeHash, ReceiptHash, LeafHash, and of the two functions that cut a state to a width.
-/
import Derived.Test.YtcebpfhokacccaaMixAll
import Derived.Test.YtcebpfhokacccaaPad
namespace Go.Proofs.Ytcebpfhokacccaa
set_option linter.unusedVariables false
open Go.RowKit

/-- The first bytes of a state. -/
def chainT (width : Nat) (s : List Int) : ByteArray := (textOf s).extract 0 width
theorem chainT_size (width : Nat) (s : List Int) (hs : s.length = 8) (hw : width ≤ 32) : (chainT width s).size = width := by
  unfold chainT
  rw [ByteArray.size_extract, textOf_size, hs]; omega
theorem i_TextOf8 (s : List Int) (hs : s.length = 8) (hz : wordsOk s) (N : Nat) (t : TypeId) (w : World) (h : Arr w N t (ints .u32 s)) :
    Calls Try.prog 57 #[.slice (some ⟨N, 0, none⟩) 8 8] w fun e w' => e = .returned (.tuple #[.string (textOf s), .bool true]) ∧ Below w.heap.size w w' := by
  have := i_TextOf_in s hz (by omega) _ 8 _ _ w h.rd
  rw [hs] at this
  exact this
set_option maxHeartbeats 1000000 in
theorem i_chainText (width : Nat) (s : List Int) (hs : s.length = 8) (hz : wordsOk s) (h32 : width ≤ 32) (w : World) :
    Calls Try.prog 53 #[.int .i64 (width : Int), .agg (ints .u32 s).toArray] w fun e w' => e = .returned (.string (chainT width s)) ∧ Below w.heap.size w w' := by
  obtain ⟨s0, s1, s2, s3, s4, s5, s6, s7, hs8⟩ := list8 hs
  have e1 : (ints .u32 s).toArray = #[.int .u32 s0, .int .u32 s1, .int .u32 s2, .int .u32 s3, .int .u32 s4, .int .u32 s5, .int .u32 s6, .int .u32 s7] := by rw [hs8]; rfl
  have HA : Arr (w.alloc (.cells #[.int .u32 s0, .int .u32 s1, .int .u32 s2, .int .u32 s3, .int .u32 s4, .int .u32 s5, .int .u32 s6, .int .u32 s7] 81)) w.heap.size 81 (ints .u32 s) := by
    rw [hs8]; exact Arr.new_ rfl (ints .u32 [_, _, _, _, _, _, _, _]) _
  rw [e1]
  have HH := hide HA
  have HZ := hide hz
  have HS := hide hs
  have HT := textOf_size s
  rw [hs] at HT
  have hw1 : (width : Int) ≤ (textOf s).size := by rw [HT]; omega
  have hw0 : width ≤ (textOf s).size := by rw [HT]; omega
  clear e1 hs8 HA hz hs HT
  go_enter Try.func53, Try.ntmps53
  go_wp2_with (go_at_call 57; refine (i_TextOf8 s HS.out HZ.out _ _ _ HH.out).mono ?_; rintro e w1 ⟨rfl, hb1⟩; have B1 := hide (bel_new ((Below.refl _ w).alloc (Nat.le_refl _) _) hb1 (by simp)); clear hb1)
  go_ret
  exact ⟨rfl, B1.out⟩
/-- Digest. -/
def digOk (w tag : Int) (n : Nat) : Bool := inR w 1 32 && inR tag 0 255 && decide (n ≤ 4000)
def digT (w : Nat) (tag : Int) (t : ByteArray) : ByteArray := chainT w (mixT (start8 tag) (t ++ padText t.size))
def digI (w tag : Int) (t : ByteArray) : ByteArray := if digOk w tag t.size then digT w.toNat tag t else ⟨#[]⟩
theorem start8_len (t : Int) : (start8 t).length = 8 := rfl
theorem digT_size (w : Nat) (tag : Int) (t : ByteArray) (h : w ≤ 32) : (digT w tag t).size = w := chainT_size _ _ (length_mixT _ _ (start8_len tag)) h
theorem inR_spec {x a b : Int} (h : inR x a b = true) : a ≤ x ∧ x ≤ b := by simpa [inR] using h
theorem digCases (w tag : Int) (t : ByteArray) : (digOk w tag t.size = true ∧ inR w 1 32 = true ∧ inR tag 0 255 = true ∧ t.size ≤ 4000) ∨
    (digOk w tag t.size = false ∧ (inR w 1 32 = false ∨ (inR w 1 32 = true ∧ inR tag 0 255 = false) ∨ (inR w 1 32 = true ∧ inR tag 0 255 = true ∧ 4000 < t.size))) := by
  unfold digOk
  cases h1 : inR w 1 32 <;> cases h2 : inR tag 0 255
  · exact .inr ⟨rfl, .inl rfl⟩
  · exact .inr ⟨rfl, .inl rfl⟩
  · exact .inr ⟨rfl, .inr (.inl ⟨rfl, rfl⟩)⟩
  · by_cases h3 : t.size ≤ 4000
    · exact .inl ⟨by simp [h3], rfl, rfl, h3⟩
    · exact .inr ⟨by simp; omega, .inr (.inr ⟨rfl, rfl, by omega⟩)⟩
theorem big_sum {a b : ByteArray} (h : a.size + b.size ≤ 1000000) : ¬ 9223372036854775807 < a.size + b.size := by omega
set_option maxRecDepth 100000 in
set_option maxHeartbeats 1000000 in
theorem i_Digest_in (w : Nat) (h1 : 1 ≤ w) (h32 : w ≤ 32) (tag : Int) (ht0 : 0 ≤ tag) (ht1 : tag ≤ 255) (t : ByteArray) (ht : t.size ≤ 4000) (W : World) :
    Calls Try.prog 48 #[.int .i64 (w : Int), .int .i64 tag, .string t] W fun e w' => e = .returned (.tuple #[.string (digT w tag t), .bool true]) ∧ Below W.heap.size W w' := by
  have k1 : inR (w : Int) 1 32 = true := inR_true (by omega) (by omega)
  have k2 := inR_true ht0 ht1
  have d3 : decide ((4000 : Int) < t.size) = false := by simp; omega
  have hp := padText_size t.size
  have hz := padZ_le t.size
  have g1 : ¬ 9223372036854775807 < t.size + (padText t.size).size := big_sum (by omega)
  have g2 : (t ++ padText t.size).size ≤ 1099511627776 := by simp; omega
  obtain ⟨T, hT⟩ : ∃ T, t ++ padText t.size = T := ⟨_, rfl⟩
  have CM := hide (i_mixAll (start8 tag) (start8_len tag) T (by rw [← hT]; exact g2))
  have CC := hide (i_chainText w (mixT (start8 tag) T) (length_mixT _ _ (start8_len tag)) (mixT_ok _ _ (start8_ok tag)) h32)
  have HE := hide (show chainT w (mixT (start8 tag) T) = digT w tag t by rw [← hT]; rfl)
  clear hp hz g2
  go_enter Try.func48, Try.ntmps48
  go_wp2_with (first
    | (go_at_call 30; refine (i_isWidth _ _).mono ?_; rintro e w1 ⟨rfl, rfl⟩)
    | (go_at_call 52; refine (i_isTag _ _).mono ?_; rintro e w1 ⟨rfl, rfl⟩)
    | (go_at_call 55; refine (i_firstState tag ht0 ht1 _).mono ?_; rintro e w1 ⟨rfl, o1, o2, hw1⟩; have B1 := hide (show Below W.heap.size W w1 from hw1 ▸ ((Below.refl _ _).alloc (Nat.le_refl _) _).alloc (by simp) _); clear hw1)
    | (go_at_call 56; refine (i_padOf t.size ht _).mono ?_; rintro e w2 ⟨rfl, hb2⟩; have B2 := hide (bel_new B1.out hb2 B1.out.size); clear hb2)
    | (go_at_call 54; refine (CM.out _).mono ?_; rintro e w3 ⟨rfl, hb3⟩; have B3 := hide (bel_new B2.out hb3 B2.out.size); clear hb3)
    | (go_at_call 53; refine (CC.out _).mono ?_; rintro e w4 ⟨rfl, hb4⟩; have B4 := hide (bel_new B3.out hb4 B3.out.size); clear hb4))
  go_ret2
  exact ⟨by rw [HE.out]; rfl, B4.out⟩
theorem i_Digest (w tag : Int) (t : ByteArray) (hs : t.size ≤ 9223372036854775807) (W : World) :
    Calls Try.prog 48 #[.int .i64 w, .int .i64 tag, .string t] W fun e w' => e = .returned (.tuple #[.string (digI w tag t), .bool (digOk w tag t.size)]) ∧ Below W.heap.size W w' := by
  rcases digCases w tag t with ⟨h, h1, h2, h3⟩ | ⟨h, hc⟩
  · unfold digI
    rw [h, if_pos rfl]
    obtain ⟨a1, a2⟩ := inR_spec h1
    obtain ⟨b1, b2⟩ := inR_spec h2
    obtain ⟨N, rfl⟩ := Int.eq_ofNat_of_zero_le (show 0 ≤ w by omega)
    exact i_Digest_in N (by omega) (by omega) tag b1 b2 t h3 W
  · have e1 : digI w tag t = ⟨#[]⟩ := by unfold digI; rw [h]; rfl
    rw [e1, h]
    clear e1 h
    rcases hc with h1 | ⟨h1, h2⟩ | ⟨h1, h2, h3⟩
    · go_enter Try.func48, Try.ntmps48
      go_wp2_with (go_at_call 30; refine (i_isWidth _ _).mono ?_; rintro e w1 ⟨rfl, rfl⟩)
      go_ret2
      exact ⟨rfl, Below.refl _ _⟩
    · go_enter Try.func48, Try.ntmps48
      go_wp2_with (first | (go_at_call 30; refine (i_isWidth _ _).mono ?_; rintro e w1 ⟨rfl, rfl⟩) | (go_at_call 52; refine (i_isTag _ _).mono ?_; rintro e w1 ⟨rfl, rfl⟩))
      go_ret2
      exact ⟨rfl, Below.refl _ _⟩
    · have d3 : decide ((4000 : Int) < t.size) = true := by simp; omega
      go_enter Try.func48, Try.ntmps48
      go_wp2_with (first | (go_at_call 30; refine (i_isWidth _ _).mono ?_; rintro e w1 ⟨rfl, rfl⟩) | (go_at_call 52; refine (i_isTag _ _).mono ?_; rintro e w1 ⟨rfl, rfl⟩))
      go_ret2
      exact ⟨rfl, Below.refl _ _⟩
end Go.Proofs.Ytcebpfhokacccaa

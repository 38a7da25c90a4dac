/-
  The walks of RootBy and CheckIn.
-/
import Derived.Test.YtjjkpieokknhiaaL06
namespace Go.Proofs.Ytjjkpieokknhiaa
set_option linter.unusedVariables false
open Go.RowKit

/-- RootBy. -/
def foldOk (width n a : Int) (l : ByteArray) (ps : List ByteArray) : Bool := inR width 1 32 && ((l.size : Int) == width) && hashesOk width ps && ((ps.length : Int) == stepsI n a)
def foldI (width n a : Int) (l : ByteArray) (ps : List ByteArray) : ByteArray := if foldOk width n a l ps then foldW width.toNat n.toNat a.toNat l ps else ⟨#[]⟩
theorem foldCases (width n a : Int) (l : ByteArray) (ps : List ByteArray) :
    (foldOk width n a l ps = true ∧ inR width 1 32 = true ∧ (l.size : Int) = width ∧ hashesOk width ps = true ∧ (ps.length : Int) = stepsI n a) ∨
    (foldOk width n a l ps = false ∧ (inR width 1 32 = false ∨ (inR width 1 32 = true ∧ ((l.size : Int) == width) = false) ∨
      (inR width 1 32 = true ∧ ((l.size : Int) == width) = true ∧ hashesOk width ps = false) ∨
      (inR width 1 32 = true ∧ ((l.size : Int) == width) = true ∧ hashesOk width ps = true ∧ ((ps.length : Int) == stepsI n a) = false))) := by
  unfold foldOk
  cases h1 : inR width 1 32
  · exact .inr ⟨rfl, .inl rfl⟩
  · cases h2 : ((l.size : Int) == width)
    · exact .inr ⟨rfl, .inr (.inl ⟨rfl, rfl⟩)⟩
    · cases h3 : hashesOk width ps
      · exact .inr ⟨rfl, .inr (.inr (.inl ⟨rfl, rfl, rfl⟩))⟩
      · cases h4 : ((ps.length : Int) == stepsI n a)
        · exact .inr ⟨rfl, .inr (.inr (.inr ⟨rfl, rfl, rfl, rfl⟩))⟩
        · exact .inl ⟨rfl, rfl, by simpa using h2, rfl, by simpa using h4⟩
theorem stepsI_spec {n a : Int} {k : Nat} (h : (k : Int) = stepsI n a) : ∃ N A : Nat, n = N ∧ a = A ∧ A < N ∧ N ≤ 512 ∧ k = stepsIn N A := by
  unfold stepsI at h
  split at h
  · rename_i hc
    refine ⟨n.toNat, a.toNat, by omega, by omega, by omega, by omega, by omega⟩
  · omega

set_option maxRecDepth 100000 in
set_option maxHeartbeats 2000000 in
theorem i_rootBy (width n a : Int) (l : ByteArray) (ps : List ByteArray) (A : Option Addr) (c L H : Nat) (w : World) (h : Rd w L H A (strs ps)) (hn : ps.length ≤ 9223372036854775807) (hc : ps.length ≤ c) (hc2 : c ≤ maxLen) (hl : l.size ≤ 9223372036854775807) :
    Calls Try.prog 42 #[.int .i64 width, .int .i64 n, .int .i64 a, .string l, .slice A ps.length c] w fun e w' => ∃ T k c', e = .returned (.tuple #[.string (foldI width n a l ps), .slice T k c', .bool (foldOk width n a l ps)]) ∧ Below w.heap.size w w' := by
  have HR := hide h
  clear h
  rcases foldCases width n a l ps with ⟨h, h1, h2, h3, h4⟩ | ⟨h, hcs⟩
  · unfold foldI
    rw [h, if_pos rfl]
    obtain ⟨b1, b2⟩ := inR_spec h1
    obtain ⟨wd, rfl⟩ := Int.eq_ofNat_of_zero_le (show 0 ≤ width by omega)
    have h4' := h4
    obtain ⟨n, a, rfl, rfl, ha, h5, hps⟩ := stepsI_spec h4
    simp only [Int.toNat_natCast]
    have hm := hashesOk_mem h3
    have hle := stepsIn_le n a
    have CF := hide (i_froot wd w.heap.size (by omega) (by omega) n n a l ps A c L w.heap.size none 0 [] (w.alloc (.cells #[.int .i64 (wd : Int), .slice none 0 0] 72)) (Nat.le_refl _) ha h5 hps (by omega) (fun s hs => by have := hm s hs; omega) hc hc2 (HR.out.top.alloc _) (Nat.le_refl _) (by simp; omega) (Arr.new w [.int .i64 (wd : Int), .slice none 0 0] _) (Own.nil _ _ _ _))
    have d2 : ((l.size : Int) != (wd : Int)) = false := by simpa using h2
    have d4 : ((ps.length : Int) != stepsI n a) = false := by simpa using h4'
    obtain ⟨y, hy⟩ : ∃ y, foldW wd n a l ps = y := ⟨_, rfl⟩
    rw [hy] at CF ⊢
    clear hm hle hy h2 h4 h4' h hps
    go_enter Try.func42, Try.ntmps42
    go_wp2_with (first
      | (go_at_call 31; refine (i_isWidth _ _).mono ?_; rintro e w1 ⟨rfl, rfl⟩)
      | (go_at_call 38; refine (i_areHashes _ _ _ _ _ _ _ HR.out hn).mono ?_; rintro e w1 ⟨rfl, rfl⟩)
      | (go_at_call 11; refine (i_StepsIn _ _ _).mono ?_; rintro e w1 ⟨rfl, rfl⟩)
      | (go_at_call 51; refine (CF.out).mono ?_; rintro e w2 ⟨rfl, hb2, T2, c2, ys, hA2, -, -⟩; have B2 := hide (((Below.refl _ w).alloc (Nat.le_refl _) _).trans hb2); have f1 : w2.cell? ⟨w.heap.size, 1, none⟩ = some (.slice T2 ys.length c2) := hA2.cell (k := 1) (by simp); clear hb2 hA2))
    go_quiet (fail)
    go_wp2
    go_ret3
    exact ⟨T2, ys.length, c2, rfl, bel_drewN B2.out _⟩
  · have e0 : foldI width n a l ps = ⟨#[]⟩ := by unfold foldI; rw [h]; rfl
    rw [e0, h]
    clear e0 h
    rcases hcs with h1 | ⟨h1, h2⟩ | ⟨h1, h2, h3⟩ | ⟨h1, h2, h3, h4⟩
    · go_enter Try.func42, Try.ntmps42
      go_wp2_with (go_at_call 31; refine (i_isWidth _ _).mono ?_; rintro e w1 ⟨rfl, rfl⟩)
      go_ret3
      exact ⟨none, 0, 0, rfl, Below.refl _ _⟩
    · have d2 : ((l.size : Int) != width) = true := by rw [bne, h2]; rfl
      go_enter Try.func42, Try.ntmps42
      go_wp2_with (go_at_call 31; refine (i_isWidth _ _).mono ?_; rintro e w1 ⟨rfl, rfl⟩)
      go_ret3
      exact ⟨none, 0, 0, rfl, Below.refl _ _⟩
    · have d2 : ((l.size : Int) != width) = false := by rw [bne, h2]; rfl
      go_enter Try.func42, Try.ntmps42
      go_wp2_with (first
        | (go_at_call 31; refine (i_isWidth _ _).mono ?_; rintro e w1 ⟨rfl, rfl⟩)
        | (go_at_call 38; refine (i_areHashes _ _ _ _ _ _ _ HR.out hn).mono ?_; rintro e w1 ⟨rfl, rfl⟩))
      go_ret3
      exact ⟨none, 0, 0, rfl, Below.refl _ _⟩
    · have d2 : ((l.size : Int) != width) = false := by rw [bne, h2]; rfl
      have d4 : ((ps.length : Int) != stepsI n a) = true := by rw [bne, h4]; rfl
      go_enter Try.func42, Try.ntmps42
      go_wp2_with (first
        | (go_at_call 31; refine (i_isWidth _ _).mono ?_; rintro e w1 ⟨rfl, rfl⟩)
        | (go_at_call 38; refine (i_areHashes _ _ _ _ _ _ _ HR.out hn).mono ?_; rintro e w1 ⟨rfl, rfl⟩)
        | (go_at_call 11; refine (i_StepsIn _ _ _).mono ?_; rintro e w1 ⟨rfl, rfl⟩))
      go_ret3
      exact ⟨none, 0, 0, rfl, Below.refl _ _⟩
theorem i_RootBy (width n a : Int) (l : ByteArray) (ps : List ByteArray) (A : Option Addr) (c L H : Nat) (w : World) (h : Rd w L H A (strs ps)) (hn : ps.length ≤ 9223372036854775807) (hc : ps.length ≤ c) (hc2 : c ≤ maxLen) (hl : l.size ≤ 9223372036854775807) :
    Calls Try.prog 28 #[.int .i64 width, .int .i64 n, .int .i64 a, .string l, .slice A ps.length c] w fun e w' => e = .returned (.tuple #[.string (foldI width n a l ps), .bool (foldOk width n a l ps)]) ∧ Below w.heap.size w w' := by
  have C0 := hide (i_rootBy width n a l ps A c L H w h hn hc hc2 hl)
  clear h hn hc hc2 hl
  go_enter Try.func28, Try.ntmps28
  go_wp2_with (go_at_call 42; refine (C0.out).mono ?_; rintro e w1 ⟨T, k, c1, rfl, hb⟩)
  go_ret2
  exact ⟨rfl, hb⟩
/-- CheckIn. -/
def checkI (width : Int) (r : ByteArray) (n a : Int) (l : ByteArray) (ps : List ByteArray) : Bool := foldOk width n a l ps && ((foldI width n a l ps).toList == r.toList)
theorem i_CheckIn (width : Int) (r : ByteArray) (n a : Int) (l : ByteArray) (ps : List ByteArray) (A : Option Addr) (c L H : Nat) (w : World) (h : Rd w L H A (strs ps)) (hn : ps.length ≤ 9223372036854775807) (hc : ps.length ≤ c) (hc2 : c ≤ maxLen) (hl : l.size ≤ 9223372036854775807) :
    Calls Try.prog 13 #[.int .i64 width, .string r, .int .i64 n, .int .i64 a, .string l, .slice A ps.length c] w fun e w' => e = .returned (.bool (checkI width r n a l ps)) ∧ Below w.heap.size w w' := by
  have C0 := hide (i_RootBy width n a l ps A c L H w h hn hc hc2 hl)
  unfold checkI
  obtain ⟨y, hy⟩ : ∃ y, foldI width n a l ps = y := ⟨_, rfl⟩
  rw [hy] at C0 ⊢
  clear h hn hc hc2 hl hy
  cases hk : foldOk width n a l ps
  all_goals
    rw [hk] at C0
    go_enter Try.func13, Try.ntmps13
    go_wp2_with (go_at_call 28; refine (C0.out).mono ?_; rintro e w1 ⟨rfl, hb⟩)
    go_ret
    refine ⟨ret_bool ?_, hb⟩
    simp
end Go.Proofs.Ytjjkpieokknhiaa

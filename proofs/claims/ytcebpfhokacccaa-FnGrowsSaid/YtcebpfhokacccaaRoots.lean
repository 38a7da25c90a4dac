/-
  The walks of RootOf and PartRoot.
-/
import Derived.Test.YtcebpfhokacccaaTree
namespace Go.Proofs.Ytcebpfhokacccaa
set_option linter.unusedVariables false
open Go.RowKit

def rootI (width : Int) (zs : List ByteArray) : ByteArray := if leavesOk width zs then rootW width.toNat zs else ⟨#[]⟩
def partOk (width : Int) (zs : List ByteArray) (a b : Int) : Bool := leavesOk width zs && decide (0 ≤ a) && decide (a ≤ b) && decide (b ≤ zs.length)
def partI (width : Int) (zs : List ByteArray) (a b : Int) : ByteArray := if partOk width zs a b then rootW width.toNat ((zs.drop a.toNat).take (b.toNat - a.toNat)) else ⟨#[]⟩
theorem leavesOk_spec {width : Int} {zs : List ByteArray} (h : leavesOk width zs = true) : 1 ≤ width ∧ width ≤ 32 ∧ zs.length ≤ 512 ∧ ∀ s ∈ zs, (s.size : Int) = width := by
  simp only [leavesOk, hashesOk, Bool.and_eq_true, decide_eq_true_eq, List.all_eq_true, beq_iff_eq] at h
  obtain ⟨⟨h1, h2⟩, h3⟩ := h
  have := inR_spec h1
  exact ⟨this.1, this.2, by omega, h3⟩
theorem Own.cap {w : World} {B C : Nat} {e : TypeId} {A : Option Addr} {n c : Nat} {xs : List Value} (h : Own w B C e (.slice A n c) xs) : xs.length ≤ c ∧ c ≤ maxLen := by
  rcases h.cases with ⟨h1, rfl⟩ | ⟨g, cap, cur, h1, -, -, -, -, h2, h3, -, -⟩
  · simp only [Value.slice.injEq] at h1
    simp [h1.2.2]
  · simp only [Value.slice.injEq] at h1
    rw [h1.2.2]
    exact ⟨h2, h3⟩
theorem i_RootOf (width : Int) (zs : List ByteArray) (A : Option Addr) (c L H : Nat) (w : World) (h : Rd w L H A (strs zs)) (hn : zs.length ≤ 9223372036854775807) (hc : zs.length ≤ c) (hc2 : c ≤ maxLen) :
    Calls Try.prog 15 #[.int .i64 width, .slice A zs.length c] w fun e w' => e = .returned (.tuple #[.string (rootI width zs), .bool (leavesOk width zs)]) ∧ Below w.heap.size w w' := by
  have HR := hide h
  clear h
  unfold rootI
  cases hk : leavesOk width zs
  · show Calls _ _ _ _ fun e w' => e = .returned (.tuple #[.string ⟨#[]⟩, .bool false]) ∧ _
    go_enter Try.func15, Try.ntmps15
    go_wp2_with (go_at_call 34; refine (i_LeavesOk _ _ _ _ _ _ _ HR.out hn).mono ?_; rintro e w1 ⟨rfl, rfl⟩)
    go_ret2
    exact ⟨rfl, Below.refl _ _⟩
  · show Calls _ _ _ _ fun e w' => e = .returned (.tuple #[.string (rootW width.toNat zs), .bool true]) ∧ _
    obtain ⟨h1, h2, h3, h4⟩ := leavesOk_spec hk
    obtain ⟨wd, rfl⟩ := Int.eq_ofNat_of_zero_le (show 0 ≤ width by omega)
    have C0 := hide (i_rootOf wd (by omega) (by omega) zs.length zs A c L H w (Nat.le_refl _) h3 (fun s hs => by have := h4 s hs; omega) hc hc2 HR.out)
    clear h4 hc2
    rw [Int.toNat_natCast]
    go_enter Try.func15, Try.ntmps15
    go_wp2_with (first | (go_at_call 34; refine (i_LeavesOk _ _ _ _ _ _ _ HR.out hn).mono ?_; rintro e w1 ⟨rfl, rfl⟩) | (go_at_call 35; refine (C0.out).mono ?_; rintro e w1 ⟨rfl, hb⟩))
    go_ret2
    exact ⟨rfl, hb⟩
theorem i_PartRoot (width : Int) (zs : List ByteArray) (A : Option Addr) (c L H : Nat) (a b : Int) (w : World) (h : Rd w L H A (strs zs)) (hn : zs.length ≤ 9223372036854775807) (hc : zs.length ≤ c) (hc2 : c ≤ maxLen) :
    Calls Try.prog 17 #[.int .i64 width, .slice A zs.length c, .int .i64 a, .int .i64 b] w fun e w' => e = .returned (.tuple #[.string (partI width zs a b), .bool (partOk width zs a b)]) ∧ Below w.heap.size w w' := by
  have HR := hide h
  clear h
  unfold partI
  by_cases hk : partOk width zs a b = true
  · rw [hk]
    show Calls _ _ _ _ fun e w' => e = .returned (.tuple #[.string (rootW width.toNat ((zs.drop a.toNat).take (b.toNat - a.toNat))), .bool true]) ∧ _
    simp only [partOk, Bool.and_eq_true, decide_eq_true_eq] at hk
    obtain ⟨⟨⟨hk, ha⟩, hab⟩, hb⟩ := hk
    obtain ⟨h1, h2, h3, h4⟩ := leavesOk_spec hk
    obtain ⟨wd, rfl⟩ := Int.eq_ofNat_of_zero_le (show 0 ≤ width by omega)
    obtain ⟨a, rfl⟩ := Int.eq_ofNat_of_zero_le ha
    obtain ⟨b, rfl⟩ := Int.eq_ofNat_of_zero_le (show 0 ≤ b by omega)
    simp only [Int.toNat_natCast]
    obtain ⟨T, hT⟩ : ∃ T, (zs.drop a).take (b - a) = T := ⟨_, rfl⟩
    have hl : T.length = b - a := by rw [← hT, List.length_take, List.length_drop]; omega
    unfold maxLen at hc2
    have C0 := hide (i_rootOf wd (by omega) (by omega) T.length T (if c = a then A else A.map (·.add a)) (c - a) L H w (Nat.le_refl _) (by omega) (fun s hs => by have := h4 s (by rw [← hT] at hs; exact List.mem_of_mem_drop (List.mem_of_mem_take hs)); omega) (by omega) (by unfold maxLen; omega) (by rw [← hT, strs, List.map_take, List.map_drop]; exact (HR.out.drop (by simpa [strs] using hc)).take _))
    rw [hl] at C0
    rw [hT]
    clear h4 hT hl
    have e1 : a ≤ b := by omega
    have e2 : b ≤ zs.length := by omega
    have e3 : b ≤ c := by omega
    go_enter Try.func17, Try.ntmps17
    go_wp2_with (first | (go_at_call 34; refine (i_LeavesOk _ _ _ _ _ _ _ HR.out hn).mono ?_; rintro e w1 ⟨rfl, rfl⟩) | (go_at_call 35; refine (C0.out).mono ?_; rintro e w1 ⟨rfl, hb⟩))
    all_goals
      go_ret2
      exact ⟨rfl, hb⟩
  · rw [Bool.not_eq_true] at hk
    rw [hk]
    show Calls _ _ _ _ fun e w' => e = .returned (.tuple #[.string ⟨#[]⟩, .bool false]) ∧ _
    cases hk2 : leavesOk width zs
    · clear hk
      go_enter Try.func17, Try.ntmps17
      go_wp2_with (go_at_call 34; refine (i_LeavesOk _ _ _ _ _ _ _ HR.out hn).mono ?_; rintro e w1 ⟨rfl, rfl⟩)
      go_ret2
      exact ⟨rfl, Below.refl _ _⟩
    by_cases ha : a < 0
    · clear hk
      go_enter Try.func17, Try.ntmps17
      go_wp2_with (go_at_call 34; refine (i_LeavesOk _ _ _ _ _ _ _ HR.out hn).mono ?_; rintro e w1 ⟨rfl, rfl⟩)
      go_ret2
      exact ⟨rfl, Below.refl _ _⟩
    have ha' : 0 ≤ a := by omega
    by_cases hab : b < a
    · clear hk
      go_enter Try.func17, Try.ntmps17
      go_wp2_with (go_at_call 34; refine (i_LeavesOk _ _ _ _ _ _ _ HR.out hn).mono ?_; rintro e w1 ⟨rfl, rfl⟩)
      go_ret2
      exact ⟨rfl, Below.refl _ _⟩
    have hab' : a ≤ b := by omega
    have hb : (zs.length : Int) < b := by
      simp only [partOk, hk2, Bool.true_and, Bool.and_eq_false_iff, decide_eq_false_iff_not] at hk
      omega
    clear hk
    go_enter Try.func17, Try.ntmps17
    go_wp2_with (go_at_call 34; refine (i_LeavesOk _ _ _ _ _ _ _ HR.out hn).mono ?_; rintro e w1 ⟨rfl, rfl⟩)
    go_ret2
    exact ⟨rfl, Below.refl _ _⟩
end Go.Proofs.Ytcebpfhokacccaa

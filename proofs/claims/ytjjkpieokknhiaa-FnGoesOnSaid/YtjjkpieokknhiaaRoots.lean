/-
  The walks of RootOf and PartRoot.
-/
import Derived.Test.YtjjkpieokknhiaaTree
namespace Go.Proofs.Ytjjkpieokknhiaa
set_option linter.unusedVariables false
open Go.RowKit

def rootI (width : Int) (zs : List ByteArray) : ByteArray := if leavesOk width zs then rootW width.toNat zs else ⟨#[]⟩
def partOk (width : Int) (zs : List ByteArray) (a b : Int) : Bool := leavesOk width zs && decide (0 ≤ a) && decide (a ≤ b) && decide (b ≤ zs.length)
def partI (width : Int) (zs : List ByteArray) (a b : Int) : ByteArray := if partOk width zs a b then rootW width.toNat ((zs.drop a.toNat).take (b.toNat - a.toNat)) else ⟨#[]⟩
theorem leavesOk_spec {width : Int} {zs : List ByteArray} (h : leavesOk width zs = true) : 1 ≤ width ∧ width ≤ 32 ∧ zs.length ≤ 512 ∧ ∀ s ∈ zs, (s.size : Int) = width := by
  simp only [leavesOk, hashesOk, Bool.and_eq_true, decide_eq_true_eq, List.all_eq_true, beq_iff_eq] at h
  obtain ⟨⟨h1, h2⟩, h3⟩ := h
  have := inR_spec h1
  exact ⟨this.1, this.2, by omega, h3⟩
theorem Own.cap {w : World} {B C : Nat} {e : TypeId} {A : Option Addr} {n c : Nat} {xs : List Value} (h : Own w B C e (.slice A n c) xs) : xs.length ≤ c ∧ c ≤ maxLen := by
  rcases h.cases with ⟨h1, rfl⟩ | ⟨g, cap, cur, h1, -, -, -, -, h2, h3, -, -⟩
  · simp only [Value.slice.injEq] at h1
    simp [h1.2.2]
  · simp only [Value.slice.injEq] at h1
    rw [h1.2.2]
    exact ⟨h2, h3⟩
theorem i_RootOf (width : Int) (zs : List ByteArray) (A : Option Addr) (c L H : Nat) (w : World) (h : Rd w L H A (strs zs)) (hn : zs.length ≤ 9223372036854775807) (hc : zs.length ≤ c) (hc2 : c ≤ maxLen) :
    Calls Try.prog 9 #[.int .i64 width, .slice A zs.length c] w fun e w' => e = .returned (.tuple #[.string (rootI width zs), .bool (leavesOk width zs)]) ∧ Below w.heap.size w w' := by
  have HR := hide h
  clear h
  unfold rootI
  cases hk : leavesOk width zs
  · show Calls _ _ _ _ fun e w' => e = .returned (.tuple #[.string ⟨#[]⟩, .bool false]) ∧ _
    go_enter Try.func9, Try.ntmps9
    go_wp2_with (go_at_call 23; refine (i_LeavesOk _ _ _ _ _ _ _ HR.out hn).mono ?_; rintro e w1 ⟨rfl, rfl⟩)
    go_ret2
    exact ⟨rfl, Below.refl _ _⟩
  · show Calls _ _ _ _ fun e w' => e = .returned (.tuple #[.string (rootW width.toNat zs), .bool true]) ∧ _
    obtain ⟨h1, h2, h3, h4⟩ := leavesOk_spec hk
    obtain ⟨wd, rfl⟩ := Int.eq_ofNat_of_zero_le (show 0 ≤ width by omega)
    have C0 := hide (i_rootOf wd (by omega) (by omega) zs.length zs A c L H w (Nat.le_refl _) h3 (fun s hs => by have := h4 s hs; omega) hc hc2 HR.out)
    clear h4 hc2
    rw [Int.toNat_natCast]
    go_enter Try.func9, Try.ntmps9
    go_wp2_with (first | (go_at_call 23; refine (i_LeavesOk _ _ _ _ _ _ _ HR.out hn).mono ?_; rintro e w1 ⟨rfl, rfl⟩) | (go_at_call 24; refine (C0.out).mono ?_; rintro e w1 ⟨rfl, hb⟩))
    go_ret2
    exact ⟨rfl, hb⟩
end Go.Proofs.Ytjjkpieokknhiaa

/-
  The walks of Grow, GrowAll, RangeOf where they take; the laws' comparisons of ranges.
-/
import Derived.Test.YtcebpfhokacccaaGrowAll
namespace Go.Proofs.Ytcebpfhokacccaa
set_option linter.unusedVariables false
open Go.RowKit

theorem rangeOk_of {wd n : Nat} {P : List ByteArray} (h1 : 1 ≤ wd) (h32 : wd ≤ 32) (hn : n ≤ 512) (hP : P.length = pl n) (hm : ∀ s ∈ P, s.size = wd) : rangeOk (wd : Int) (n : Int) P = true := by
  have e : (peaksI (n : Int)).length = pl n := by unfold peaksI pl; rw [if_pos ⟨by omega, by omega⟩, List.length_map, Int.toNat_natCast]
  unfold rangeOk
  rw [inR_true (by omega) (by omega), inR_true (by omega) (by omega), hashesOk_of (fun s hs => by rw [hm s hs]), e, hP]
  simp
set_option maxRecDepth 100000 in
set_option maxHeartbeats 2000000 in
theorem i_GrowAll (wd n : Nat) (h1 : 1 ≤ wd) (h32 : wd ≤ 32) (P : List ByteArray) (A : Option Addr) (c L H : Nat) (zs : List ByteArray) (A' : Option Addr) (cA L' H' : Nat) (w : World) (hn : n + zs.length ≤ 512) (hz : ∀ s ∈ zs, s.size = wd) (hR : Rd w L' H' A' (strs zs)) (hP : P.length = pl n) (hm : ∀ s ∈ P, s.size = wd) (h : Rd w L H A (strs P)) :
    Calls Try.prog 9 #[.int .i64 (wd : Int), .agg #[.int .i64 (n : Int), .slice A P.length c], .slice A' zs.length cA] w fun e w' => ∃ T k, e = .returned (.tuple #[.agg #[.int .i64 ((n + zs.length : Nat) : Int), .slice T (grownW wd n P zs).length k], .int .i64 (madeP n zs : Int), .bool true]) ∧ Below w.heap.size w w' ∧ Own w' w.heap.size w'.heap.size 9 (.slice T (grownW wd n P zs).length k) (strs (grownW wd n P zs)) := by
  have ok := rangeOk_of h1 h32 (by omega) hP hm
  have hp10 : P.length ≤ 10 := by have := peaksI_len (n : Int); unfold peaksI at this; rw [if_pos ⟨by omega, by omega⟩, List.length_map, Int.toNat_natCast] at this; rw [hP]; exact this
  have C0 := fun W hW => i_RangeOk (wd : Int) (n : Int) P A c L H W hW (by omega)
  rw [ok] at C0
  replace C0 := hide C0
  have CC := hide (fun W hW => i_copyRange (n : Int) P A c L H W hW (by omega))
  have CH := i_areHashes (wd : Int) zs A' cA L' H'
  rw [hashesOk_of (fun s hs => by rw [hz s hs])] at CH
  replace CH := hide CH
  have RZ := hide hR
  have RZT := hide hR.top
  have hzl : zs.length ≤ 9223372036854775807 := by omega
  have d1 : ¬ (512 : Int) - (n : Int) < (zs.length : Int) := by omega
  have d2 : IntKind.i64.wrap ((512 : Int) - (n : Int)) = (512 : Int) - (n : Int) := IntWalk.i64_in _ (by omega)
  have CG := hide (fun T c F B W hR hF hB hA hO => i_growAll wd F n B h1 h32 P zs T c A' cA L' w.heap.size W hn hP hm hz hR hF hB hA hO)
  have HR := hide h
  clear h hP hm ok hz hR
  generalize madeP n zs = md at *
  generalize grownW wd n P zs = G at *
  generalize ((n + zs.length : Nat) : Int) = N at *
  go_enter Try.func9, Try.ntmps9
  go_wp2_with fail
  refine (C0.out _ ((HR.out.alloc _).alloc _)).mono ?_
  rintro e w1 ⟨rfl, hb1⟩
  have AB := hide (show Arr w1 w.heap.size 31 [.int .i64 (n : Int), .slice A P.length c] from ((Arr.new w [.int .i64 (n : Int), .slice A P.length c] 31).alloc _).below hb1)
  have AZ := hide (show Arr w1 (w.heap.size + 1) 31 [.int .i64 0, .slice none 0 0] from (Arr.new_ (by simp) [.int .i64 0, .slice none 0 0] 31).below hb1)
  have B1 := hide (bel_new (((Below.refl w.heap.size w).alloc (Nat.le_refl _) _).alloc (by simp) _) hb1 (by simp; omega))
  have R1 := hide (((HR.out.alloc _).alloc _).below hb1)
  clear hb1
  have f0 : w1.cell? ⟨w.heap.size, 0, none⟩ = some (.int .i64 (n : Int)) := AB.out.cell (k := 0) (by simp)
  have f1 : w1.cell? ⟨w.heap.size, 1, none⟩ = some (.slice A P.length c) := AB.out.cell (k := 1) (by simp)
  go_wp2_with (go_at_call 25; refine (CH.out _ (RZ.out.keep (fun k hk _ _ => B1.out.block k hk)) hzl).mono ?_; rintro e w' ⟨rfl, rfl⟩)
  refine (CC.out _ R1.out).mono ?_
  rintro e w2 ⟨A2, c2, rfl, hb2, ho2⟩
  have B2 := hide (bel_new B1.out hb2 B1.out.size)
  have AZ2 := hide (AZ.out.below hb2)
  have O2 := hide ho2
  have L2 := hide AZ.out.lt
  have S2 := hide hb2.size
  clear hb2 ho2 f0 f1 AB
  go_wp2_with fail
  refine (CG.out A2 c2 w2.heap.size w1.heap.size _ ((RZT.out.keep (fun k hk _ _ => B2.out.block k hk)).alloc _) B1.out.size S2.out (Arr.new w2 [.int .i64 (n : Int), .slice A2 P.length c2] 31) ((O2.out.alloc _).top)).mono ?_
  rintro e w3 ⟨rfl, hb3, T3, c3, ha3, ho3⟩
  have B3 := hide ((B2.out.alloc B2.out.size (.cells #[.int .i64 (n : Int), .slice A2 P.length c2] 31)).trans (hb3.mono B1.out.size))
  have AZ3 := hide ((AZ2.out.alloc (.cells #[.int .i64 (n : Int), .slice A2 P.length c2] 31)).keep (hb3.block (w.heap.size + 1) L2.out))
  have A3 := hide ha3
  have O3 := hide (ho3.wide (B' := w.heap.size) B1.out.size (Nat.le_refl _))
  have O3' := hide (ho3.wide (B' := w.heap.size + 2) (by have := L2.out; omega) (Nat.le_refl _))
  clear hb3 ha3 ho3
  have f0 : w3.cell? ⟨w2.heap.size, 0, none⟩ = some (.int .i64 N) := A3.out.cell (k := 0) (by simp)
  have f1 : w3.cell? ⟨w2.heap.size, 1, none⟩ = some (.slice T3 G.length c3) := A3.out.cell (k := 1) (by simp)
  have z0 : w3.cell? ⟨w.heap.size + 1, 0, none⟩ = some (.int .i64 0) := AZ3.out.cell (k := 0) (by simp)
  have z1 : w3.cell? ⟨w.heap.size + 1, 1, none⟩ = some (.slice none 0 0) := AZ3.out.cell (k := 1) (by simp)
  have y0 := AZ3.out.free 0
  have y1 := AZ3.out.free 1
  go_wp2
  obtain ⟨Z, hZ⟩ : ∃ Z, (w3.setCell ⟨w.heap.size + 1, 0, none⟩ (.int .i64 N)).setCell ⟨w.heap.size + 1, 1, none⟩ (.slice T3 G.length c3) = Z := ⟨_, rfl⟩
  have A4 : Arr Z (w.heap.size + 1) 31 [.int .i64 N, .slice T3 G.length c3] := hZ ▸ (AZ3.out.set_ 0 (.int .i64 N)).set_ 1 (.slice T3 G.length c3)
  have B4 : Below w.heap.size w Z := hZ ▸ (B3.out.setCell (by simp) _).setCell (by simp) _
  have O4 : Own Z (w.heap.size + 2) Z.heap.size 9 (.slice T3 G.length c3) (strs G) := hZ ▸ ((O3'.out.setCell (.inl (by simp)) _).setCell (.inl (by simp)) _).top
  rw [hZ]
  have u0 := A4.cell (k := 0) (by simp)
  have u1 := A4.cell (k := 1) (by simp)
  simp only [List.getElem_cons_zero, List.getElem_cons_succ] at u0 u1
  refine bodyPost_ret (v := .tuple #[.agg #[.int .i64 N, .slice T3 G.length c3], .int .i64 (md : Int), .bool true]) (by simp [results, Try.results9, go_sem, u0, u1]) rfl ⟨T3, c3, rfl, B4, O4.wide (by omega) (Nat.le_refl _)⟩
set_option maxRecDepth 100000 in
set_option maxHeartbeats 2000000 in
theorem i_Grow (wd n : Nat) (h1 : 1 ≤ wd) (h32 : wd ≤ 32) (P : List ByteArray) (A : Option Addr) (c L H : Nat) (x : ByteArray) (w : World) (hn : n + 1 ≤ 512) (hx : x.size = wd) (hP : P.length = pl n) (hm : ∀ s ∈ P, s.size = wd) (h : Rd w L H A (strs P)) :
    Calls Try.prog 10 #[.int .i64 (wd : Int), .agg #[.int .i64 (n : Int), .slice A P.length c], .string x] w fun e w' => ∃ T k, e = .returned (.tuple #[.agg #[.int .i64 ((n + 1 : Nat) : Int), .slice T (growW wd n P x).length k], .int .i64 (ones 10 n : Int), .bool true]) ∧ Below w.heap.size w w' ∧ Own w' w.heap.size w'.heap.size 9 (.slice T (growW wd n P x).length k) (strs (growW wd n P x)) := by
  have ok := rangeOk_of h1 h32 (by omega) hP hm
  have hp10 : P.length ≤ 10 := by have := peaksI_len (n : Int); unfold peaksI at this; rw [if_pos ⟨by omega, by omega⟩, List.length_map, Int.toNat_natCast] at this; rw [hP]; exact this
  have C0 := fun W hW => i_RangeOk (wd : Int) (n : Int) P A c L H W hW (by omega)
  rw [ok] at C0
  replace C0 := hide C0
  have CC := hide (fun W hW => i_copyRange (n : Int) P A c L H W hW (by omega))
  have d1 : ((x.size : Int) != (wd : Int)) = false := by rw [bne_eq_false_iff_eq]; omega
  have d2 : ((n : Int) == 512) = false := by simp only [beq_eq_false_iff_ne]; omega
  have CG := hide (fun T c F B W hB hA hO => i_grow wd F n B h1 h32 P x T c W hn hP hm hx hB hA hO)
  have HR := hide h
  clear h hP hm ok hx
  generalize ones 10 n = md at *
  generalize growW wd n P x = G at *
  generalize ((n + 1 : Nat) : Int) = N at *
  go_enter Try.func10, Try.ntmps10
  go_wp2_with fail
  refine (C0.out _ ((HR.out.alloc _).alloc _)).mono ?_
  rintro e w1 ⟨rfl, hb1⟩
  have AB := hide (show Arr w1 w.heap.size 31 [.int .i64 (n : Int), .slice A P.length c] from ((Arr.new w [.int .i64 (n : Int), .slice A P.length c] 31).alloc _).below hb1)
  have AZ := hide (show Arr w1 (w.heap.size + 1) 31 [.int .i64 0, .slice none 0 0] from (Arr.new_ (by simp) [.int .i64 0, .slice none 0 0] 31).below hb1)
  have B1 := hide (bel_new (((Below.refl w.heap.size w).alloc (Nat.le_refl _) _).alloc (by simp) _) hb1 (by simp; omega))
  have R1 := hide (((HR.out.alloc _).alloc _).below hb1)
  clear hb1
  have f0 : w1.cell? ⟨w.heap.size, 0, none⟩ = some (.int .i64 (n : Int)) := AB.out.cell (k := 0) (by simp)
  have f1 : w1.cell? ⟨w.heap.size, 1, none⟩ = some (.slice A P.length c) := AB.out.cell (k := 1) (by simp)
  go_wp2_with fail
  refine (CC.out _ R1.out).mono ?_
  rintro e w2 ⟨A2, c2, rfl, hb2, ho2⟩
  have B2 := hide (bel_new B1.out hb2 B1.out.size)
  have AZ2 := hide (AZ.out.below hb2)
  have O2 := hide ho2
  have L2 := hide AZ.out.lt
  have S2 := hide hb2.size
  clear hb2 ho2 f0 f1 AB
  go_wp2_with fail
  refine (CG.out A2 c2 w2.heap.size w1.heap.size _ S2.out (Arr.new w2 [.int .i64 (n : Int), .slice A2 P.length c2] 31) ((O2.out.alloc _).top)).mono ?_
  rintro e w3 ⟨rfl, hb3, T3, c3, ha3, ho3⟩
  have B3 := hide ((B2.out.alloc B2.out.size (.cells #[.int .i64 (n : Int), .slice A2 P.length c2] 31)).trans (hb3.mono B1.out.size))
  have AZ3 := hide ((AZ2.out.alloc (.cells #[.int .i64 (n : Int), .slice A2 P.length c2] 31)).keep (hb3.block (w.heap.size + 1) L2.out))
  have A3 := hide ha3
  have O3 := hide (ho3.wide (B' := w.heap.size) B1.out.size (Nat.le_refl _))
  have O3' := hide (ho3.wide (B' := w.heap.size + 2) (by have := L2.out; omega) (Nat.le_refl _))
  clear hb3 ha3 ho3
  have f0 : w3.cell? ⟨w2.heap.size, 0, none⟩ = some (.int .i64 N) := A3.out.cell (k := 0) (by simp)
  have f1 : w3.cell? ⟨w2.heap.size, 1, none⟩ = some (.slice T3 G.length c3) := A3.out.cell (k := 1) (by simp)
  have z0 : w3.cell? ⟨w.heap.size + 1, 0, none⟩ = some (.int .i64 0) := AZ3.out.cell (k := 0) (by simp)
  have z1 : w3.cell? ⟨w.heap.size + 1, 1, none⟩ = some (.slice none 0 0) := AZ3.out.cell (k := 1) (by simp)
  have y0 := AZ3.out.free 0
  have y1 := AZ3.out.free 1
  go_wp2
  obtain ⟨Z, hZ⟩ : ∃ Z, (w3.setCell ⟨w.heap.size + 1, 0, none⟩ (.int .i64 N)).setCell ⟨w.heap.size + 1, 1, none⟩ (.slice T3 G.length c3) = Z := ⟨_, rfl⟩
  have A4 : Arr Z (w.heap.size + 1) 31 [.int .i64 N, .slice T3 G.length c3] := hZ ▸ (AZ3.out.set_ 0 (.int .i64 N)).set_ 1 (.slice T3 G.length c3)
  have B4 : Below w.heap.size w Z := hZ ▸ (B3.out.setCell (by simp) _).setCell (by simp) _
  have O4 : Own Z (w.heap.size + 2) Z.heap.size 9 (.slice T3 G.length c3) (strs G) := hZ ▸ ((O3'.out.setCell (.inl (by simp)) _).setCell (.inl (by simp)) _).top
  rw [hZ]
  have u0 := A4.cell (k := 0) (by simp)
  have u1 := A4.cell (k := 1) (by simp)
  simp only [List.getElem_cons_zero, List.getElem_cons_succ] at u0 u1
  refine bodyPost_ret (v := .tuple #[.agg #[.int .i64 N, .slice T3 G.length c3], .int .i64 (md : Int), .bool true]) (by simp [results, Try.results10, go_sem, u0, u1]) rfl ⟨T3, c3, rfl, B4, O4.wide (by omega) (Nat.le_refl _)⟩
end Go.Proofs.Ytcebpfhokacccaa

/-
  The walks of RangeRoot: the root of a range's peaks.
-/
import Derived.Test.YtcebpfhokacccaaRange
import Derived.Test.YtcebpfhokacccaaTree
namespace Go.Proofs.Ytcebpfhokacccaa
set_option linter.unusedVariables false
open Go.RowKit

/-- The root that a range's peaks have. -/
def peaksRoot (wd : Nat) (ps : List ByteArray) : ByteArray := if ps = [] then emptyT wd else ps.dropLast.foldr (nodeT wd) (ps.getLastD (emptyT wd))
def rootTo (wd : Nat) (q : List ByteArray) (x : ByteArray) (j : Nat) : ByteArray := (q.drop j).foldr (nodeT wd) x
theorem rootTo_all (wd : Nat) (q : List ByteArray) (x : ByteArray) (m : Nat) (h : q.length = m) : rootTo wd q x m = x := by
  unfold rootTo
  rw [List.drop_eq_nil_of_le (by omega)]
  rfl
theorem rootTo_step (wd : Nat) (q : List ByteArray) (x : ByteArray) (j : Nat) (h : j < q.length) : rootTo wd q x j = nodeT wd q[j] (rootTo wd q x (j + 1)) := by
  unfold rootTo
  rw [List.drop_eq_getElem_cons h]
  rfl
theorem rootTo_size (wd : Nat) (h32 : wd ≤ 32) (q : List ByteArray) (x : ByteArray) (hx : x.size = wd) (j : Nat) : (rootTo wd q x j).size = wd := by
  unfold rootTo
  cases q.drop j with
  | nil => exact hx
  | cons y t => exact nodeT_size wd _ _ h32
theorem peaksRoot_some {wd : Nat} {q : List ByteArray} {x : ByteArray} : peaksRoot wd (q ++ [x]) = rootTo wd q x 0 := by
  unfold peaksRoot rootTo
  rw [if_neg (by simp)]
  simp
theorem peaksRoot_size (wd : Nat) (h32 : wd ≤ 32) (ps : List ByteArray) (h : ∀ s ∈ ps, s.size = wd) : (peaksRoot wd ps).size = wd := by
  rcases List.eq_nil_or_concat ps with rfl | ⟨q, x, rfl⟩
  · simp only [peaksRoot, if_pos]; exact emptyT_size wd h32
  · rw [List.concat_eq_append, peaksRoot_some]
    exact rootTo_size wd h32 q x (h x (by simp)) 0
theorem split_last {ps : List ByteArray} {m : Nat} (h : ps.length = m + 1) : ∃ (q : List ByteArray) (x : ByteArray), q.length = m ∧ ps = q ++ [x] := by
  rcases List.eq_nil_or_concat ps with rfl | ⟨q, x, rfl⟩
  · simp at h
  · exact ⟨q, x, by simpa using h, by simp⟩
set_option maxRecDepth 100000 in
set_option maxHeartbeats 2000000 in
theorem i_rroot (wd : Nat) (h1 : 1 ≤ wd) (h32 : wd ≤ 32) (n : Int) (ps : List ByteArray) (A : Option Addr) (c L H : Nat) (w : World) (hl : ps.length ≤ 1000000) (hm : ∀ s ∈ ps, s.size = wd) (h : Rd w L H A (strs ps)) :
    Calls Try.prog 33 #[.agg #[.int .i64 n, .slice A ps.length c], .int .i64 (wd : Int)] w fun e w' => e = .returned (.tuple #[.string (peaksRoot wd ps), .int .i64 ((ps.length - 1 : Nat) : Int)]) ∧ Below w.heap.size w w' := by
  by_cases h0 : ps.length = 0
  · obtain rfl : ps = [] := List.eq_nil_of_length_eq_zero h0
    clear h hm
    show Calls _ _ #[.agg #[.int .i64 n, .slice A 0 c], .int .i64 (wd : Int)] w fun e w' => e = .returned (.tuple #[.string (emptyT wd), .int .i64 0]) ∧ _
    go_enter Try.func33, Try.ntmps33
    go_wp2_with (go_at_call 45; refine (i_emptyRoot wd h1 h32 _).mono ?_; rintro e w1 ⟨rfl, hb⟩)
    go_ret2
    exact ⟨rfl, bel_new ((Below.refl _ _).alloc (Nat.le_refl _) _) hb (by simp)⟩
  obtain ⟨m, hpm⟩ : ∃ m, ps.length = m + 1 := ⟨ps.length - 1, by omega⟩
  obtain ⟨q, x, hql, epq⟩ := split_last hpm
  have HR := hide h
  obtain ⟨ad, rfl, l1, l2, cx⟩ := HR.out.at_ (k := m) (by rw [length_strs]; omega)
  rw [strs_get] at cx
  have ex : ps[m]'(by omega) = x := by
    subst hql
    simp [epq]
  rw [ex] at cx
  have lad : ad.block < w.heap.size := by have := cell_lt cx; rwa [block_add] at this
  have hxs : x.size = wd := hm x (by rw [epq]; simp)
  obtain ⟨f, hf⟩ : ∃ f : Nat → ByteArray, ∀ j (hj : j < q.length), q[j] = f j := ⟨fun j => q.getD j ⟨#[]⟩, fun j hj => by simp [List.getD, hj]⟩
  have QC := hide (show ∀ j (hj : j < m) W, Below w.heap.size w W → W.cell? (ad.add j) = some (.string (f j)) from fun j hj W hW => by
    obtain ⟨_, e, _, _, cj⟩ := HR.out.at_ (k := j) (by rw [length_strs]; omega)
    injection e with e
    subst e
    rw [strs_get] at cj
    have : ps[j]'(by omega) = q[j]'(by omega) := by subst epq; rw [List.getElem_append_left]
    rw [this, hf] at cj
    exact (hW.cell (p := ad.add j) (by rw [block_add]; exact lad)).trans cj)
  have QS := hide (show ∀ j (hj : j < m), (f j).size = wd from fun j hj => hm _ (by rw [epq, ← hf j (by omega)]; simp))
  have eP : peaksRoot wd ps = rootTo wd q x 0 := by rw [epq, peaksRoot_some]
  have em : ((ps.length - 1 : Nat) : Int) = (m : Int) := by omega
  rw [eP, em, hpm]
  have hmb : m ≤ 1000000 := by omega
  clear eP em ex HR h hm epq hpm hl h0
  have HQ := hide hql
  have HXS := hide hxs
  have SZ := hide (fun j => rootTo_size wd h32 q x hxs j)
  have ST := hide (show ∀ j (hj : j < m), rootTo wd q x j = nodeT wd (f j) (rootTo wd q x (j + 1)) from fun j hj => by rw [rootTo_step wd q x j (by omega), hf])
  clear hql hxs hf
  have cx0 : (w.alloc (.cells #[.int .i64 n, .slice (some ad) (m + 1) c] 31)).cell? (ad.add m) = some (.string x) := (((Below.refl w.heap.size w).alloc (Nat.le_refl _) _).cell (p := ad.add m) (by rw [block_add]; exact lad)).trans cx
  have gm : (m : Int) + 1 - 1 = (m : Int) := by omega
  have gw : IntKind.i64.wrap (m : Int) = (m : Int) := IntWalk.i64_in _ (by omega)
  have gn : ((m : Int) + 1 == 0) = false := by simp only [beq_eq_false_iff_ne]; omega
  have gl : IntKind.i64.wrap ((m : Int) - 1) = (m : Int) - 1 := IntWalk.i64_in _ (by omega)
  go_enter Try.func33, Try.ntmps33
  go_wp2
  obtain ⟨W, hW⟩ : ∃ W, w.alloc (.cells #[.int .i64 n, .slice (some ad) (m + 1) c] 31) = W := ⟨_, rfl⟩
  have lW : w.heap.size < W.heap.size := by rw [← hW]; simp
  have BW := hide (show Below w.heap.size w W from hW ▸ (Below.refl _ _).alloc (Nat.le_refl _) _)
  have f1 : W.cell? ⟨w.heap.size, 1, none⟩ = some (.slice (some ad) (m + 1) c) := by rw [← hW]; simp
  rw [hW]
  clear hW cx cx0
  go_loopw [7, 8] (fun r i wr => ∃ j : Nat, j ≤ m ∧ i = .int .i64 ((j : Int) - 1) ∧ r = .string (rootTo wd q x j) ∧ Below W.heap.size W wr) (fun _ i _ => (intOf i + 1).toNat)
  case atStart => exact ⟨m, Nat.le_refl _, rfl, by rw [rootTo_all wd q x m HQ.out], Below.refl _ _⟩
  case round =>
    obtain ⟨j, hj, rfl, rfl, hb⟩ := hrel
    have HB := hide hb
    clear hb
    cases j with
    | zero =>
      go_wp2
      go_ret2
      exact ⟨rfl, BW.out.trans (HB.out.mono (Nat.le_of_lt lW))⟩
    | succ j =>
      have hlt : j < m := by omega
      have f2 : wr.cell? ⟨w.heap.size, 1, none⟩ = some (.slice (some ad) (m + 1) c) := (HB.out.cell (p := ⟨w.heap.size, 1, none⟩) lW).trans f1
      have cj := QC.out j hlt wr (BW.out.trans (HB.out.mono (Nat.le_of_lt lW)))
      have sj := QS.out j hlt
      have s1 := SZ.out (j + 1)
      obtain ⟨y, hy⟩ : ∃ y, f j = y := ⟨_, rfl⟩
      obtain ⟨z, hz⟩ : ∃ z, rootTo wd q x (j + 1) = z := ⟨_, rfl⟩
      have E1 := hide (ST.out j hlt)
      rw [hy] at cj sj E1
      rw [hz] at s1 E1 ⊢
      have hyz : y.size + z.size ≤ 4000 := by omega
      clear hy hz sj s1
      have ej : ((j + 1 : Nat) : Int) - 1 = (j : Int) := by omega
      rw [ej]
      go_wp2_with (go_at_call 38; refine (i_node wd h1 h32 y z hyz _).mono ?_; rintro e w1 ⟨rfl, hb1⟩; have B1 := hide (bel_new HB.out hb1 HB.out.size); clear hb1)
      go_roundw
      case rel => exact ⟨j, by omega, rfl, by rw [E1.out], B1.out⟩
      case measure => simp [intOf]
/-- RangeRoot. -/
def rrootI (width n : Int) (zs : List ByteArray) : ByteArray := if rangeOk width n zs then peaksRoot width.toNat zs else ⟨#[]⟩
def rcallsI (width n : Int) (zs : List ByteArray) : Int := if rangeOk width n zs then ((zs.length - 1 : Nat) : Int) else 0
theorem peaksBelow_nil (n : Nat) : ∀ k, peaksBelow n k = [] ↔ n % 2 ^ k = 0
  | 0 => by simp [peaksBelow, Nat.mod_one]
  | k + 1 => by
    have ih := peaksBelow_nil n k
    have e := Nat.mod_pow_succ (x := n) (b := 2) (k := k)
    rw [peaksBelow, e]
    rcases Nat.mod_two_eq_zero_or_one (n / 2 ^ k) with h | h
    · rw [if_neg (by omega), h, Nat.mul_zero, Nat.add_zero]; exact ih
    · rw [if_pos h, h, Nat.mul_one]
      have := Nat.two_pow_pos k
      constructor
      · intro hh; cases hh
      · intro hh; omega
theorem peaksI_zero {n : Int} (h0 : 0 ≤ n) (h1 : n ≤ 512) : (peaksI n).length = 0 ↔ n = 0 := by
  unfold peaksI
  rw [if_pos ⟨h0, h1⟩, List.length_map, List.length_eq_zero_iff, peaksOf, peaksBelow_nil]
  have : n.toNat % 2 ^ 10 = n.toNat := Nat.mod_eq_of_lt (by omega)
  rw [this]
  omega
theorem rangeOk_spec {width n : Int} {zs : List ByteArray} (h : rangeOk width n zs = true) : 1 ≤ width ∧ width ≤ 32 ∧ 0 ≤ n ∧ n ≤ 512 ∧ zs.length = (peaksI n).length ∧ ∀ s ∈ zs, (s.size : Int) = width := by
  simp only [rangeOk, Bool.and_eq_true, beq_iff_eq] at h
  obtain ⟨⟨⟨h1, h2⟩, h3⟩, h4⟩ := h
  have a := inR_spec h1
  have b := inR_spec h2
  exact ⟨a.1, a.2, b.1, b.2, by omega, hashesOk_mem h4⟩
set_option maxHeartbeats 1000000 in
theorem i_RangeRoot (width n : Int) (zs : List ByteArray) (A : Option Addr) (c L H : Nat) (w : World) (h : Rd w L H A (strs zs)) (hn : zs.length ≤ 9223372036854775807) :
    Calls Try.prog 14 #[.int .i64 width, .agg #[.int .i64 n, .slice A zs.length c]] w fun e w' => e = .returned (.tuple #[.string (rrootI width n zs), .int .i64 (rcallsI width n zs), .bool (rangeOk width n zs)]) ∧ Below w.heap.size w w' := by
  have HR := hide h
  clear h
  have C0 := fun W hW => i_RangeOk width n zs A c L H W hW hn
  unfold rrootI rcallsI
  cases hk : rangeOk width n zs
  · rw [hk] at C0
    replace C0 := hide C0
    show Calls _ _ _ _ fun e w' => e = .returned (.tuple #[.string ⟨#[]⟩, .int .i64 0, .bool false]) ∧ _
    go_enter Try.func14, Try.ntmps14
    go_wp2_with (go_at_call 12; refine (C0.out _ (HR.out.alloc _)).mono ?_; rintro e w1 ⟨rfl, hb1⟩)
    go_ret3
    exact ⟨rfl, bel_new ((Below.refl _ _).alloc (Nat.le_refl _) _) hb1 (by simp)⟩
  · obtain ⟨h1, h2, h3, h4, h5, h6⟩ := rangeOk_spec hk
    rw [hk] at C0
    replace C0 := hide C0
    have hp := peaksI_len n
    obtain ⟨wd, rfl⟩ := Int.eq_ofNat_of_zero_le (show 0 ≤ width by omega)
    rw [Int.toNat_natCast, if_pos rfl, if_pos rfl]
    have CR := hide (fun (W : World) hW => i_rroot wd (by omega) (by omega) n zs A c L H W (by omega) (fun s hs => by have := h6 s hs; omega) hW)
    obtain ⟨y, hy⟩ : ∃ y, peaksRoot wd zs = y := ⟨_, rfl⟩
    rw [hy] at CR ⊢
    clear h6 hy h5 hk
    go_enter Try.func14, Try.ntmps14
    go_wp2_with (first
      | (go_at_call 12; refine (C0.out _ (HR.out.alloc _)).mono ?_; rintro e w1 ⟨rfl, hb1⟩; have B1 := hide (bel_new ((Below.refl w.heap.size w).alloc (Nat.le_refl _) _) hb1 (by simp)); have R1 := hide ((HR.out.alloc _).below hb1); have f0 : w1.cell? ⟨w.heap.size, 0, none⟩ = some (.int .i64 n) := (hb1.cell (p := ⟨w.heap.size, 0, none⟩) (by simp)).trans (by simp); have f1 : w1.cell? ⟨w.heap.size, 1, none⟩ = some (.slice A zs.length c) := (hb1.cell (p := ⟨w.heap.size, 1, none⟩) (by simp)).trans (by simp); clear hb1)
      | (go_at_call 33; refine (CR.out _ R1.out).mono ?_; rintro e w2 ⟨rfl, hb2⟩))
    go_ret3
    exact ⟨rfl, bel_new B1.out hb2 B1.out.size⟩
end Go.Proofs.Ytcebpfhokacccaa

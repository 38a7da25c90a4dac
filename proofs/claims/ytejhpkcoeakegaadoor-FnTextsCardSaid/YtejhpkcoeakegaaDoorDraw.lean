/-
  The walks of the draws' cursor: a new one, a byte, a number below another, once in so many, one of a list, a text, a word.
-/
import Derived.Test.YtejhpkcoeakegaaDoorArr
import Derived.Test.YtejhpkcoeakegaaDoorHex
namespace Go.Proofs.YtejhpkcoeakegaaDoor
set_option linter.unusedVariables false
open Go.RowKit

/-- Block N holds a cursor over bytes that lie below it. -/
def CurOk (w : World) (N : Nat) : Prop := ∃ (A : Option Addr) (c : Nat) (code : List Int) (i h : Int),
  Arr w N 64 [.slice A code.length c, .int .i64 i, .int .i64 h] ∧ Rd w 0 N A (ints .u8 code) ∧ (∀ b ∈ code, 0 ≤ b ∧ b ≤ 255) ∧ 0 ≤ i ∧ i ≤ code.length ∧ code.length ≤ 1048576
section
variable {w w' : World} {N B C : Nat}
theorem CurOk.lt (h : CurOk w N) : N < w.heap.size := by obtain ⟨A, c, code, i, x, hA, _⟩ := h; exact hA.lt
theorem CurOk.keep (h : CurOk w N) (hk : ∀ k, k < w.heap.size → k ≤ N → w'.heap[k]? = w.heap[k]?) : CurOk w' N := by
  have hl := h.lt
  obtain ⟨A, c, code, i, x, hA, hR, r⟩ := h
  exact ⟨A, c, code, i, x, hA.keep (hk N hl (Nat.le_refl _)), hR.keep (fun k h1 _ h2 => hk k h1 (by omega)), r⟩
theorem CurOk.below (h : CurOk w N) (hb : Below w.heap.size w w') : CurOk w' N := h.keep fun k hk _ => hb.block k hk
theorem CurOk.chg (h : CurOk w N) (hc : Chg B C w w') (hd : N < B) : CurOk w' N := h.keep fun k hk h2 => hc.block k hk (by omega)
theorem CurOk.drewN (h : CurOk w N) (n : Nat) : CurOk (w.drewN n) N := h
theorem CurOk.drew (h : CurOk w N) : CurOk w.drew N := h
theorem CurOk.alloc (h : CurOk w N) (o : Obj) : CurOk (w.alloc o) N := h.keep fun _ hk _ => Below.heap_alloc _ _ _ hk
theorem CurOk.setCell (h : CurOk w N) {p : Addr} (hp : N < p.block) (u : Value) : CurOk (w.setCell p u) N := h.keep fun _ _ _ => Below.heap_setCell _ _ _ _ (by omega)
end
theorem Chg.below_ {w w' a : World} {B C : Nat} (h : Chg B C w a) (k : Below w.heap.size a w') : Chg B C w w' := ⟨k.os.trans h.os, k.tape.trans h.tape, k.output.trans h.output, Nat.le_trans h.size k.size, fun i hi hh => (k.block i hi).trans (h.block i hi hh)⟩
theorem and255 (y : Int) : 0 ≤ bits .and .i64 y 255 ∧ bits .and .i64 y 255 ≤ 255 := by
  show 0 ≤ IntKind.i64.wrap ((BitVec.ofInt 64 y &&& BitVec.ofInt 64 255).toNat : Int) ∧ IntKind.i64.wrap ((BitVec.ofInt 64 y &&& BitVec.ofInt 64 255).toNat : Int) ≤ 255
  have h : (BitVec.ofInt 64 y &&& BitVec.ofInt 64 255).toNat ≤ 255 := by
    rw [BitVec.toNat_and]
    have : (BitVec.ofInt 64 255).toNat = 255 := by decide
    rw [this]
    exact Nat.and_le_right
  rw [IntKind.wrap_i64]
  omega
theorem bits_u32 (op : BinOp) (a b : Int) (h : op = .and ∨ op = .or ∨ op = .xor) : 0 ≤ bits op .u32 a b ∧ bits op .u32 a b ≤ 4294967295 := by
  have hw : ∀ n : Int, 0 ≤ IntKind.u32.wrap n ∧ IntKind.u32.wrap n ≤ 4294967295 := fun n => by rw [IntKind.wrap_u32']; omega
  rcases h with rfl | rfl | rfl <;> exact hw _

set_option maxRecDepth 100000 in
set_option maxHeartbeats 1000000 in
theorem s_l01New (code : List Int) (A : Option Addr) (c L H : Nat) (w : World) (h : Rd w L H A (ints .u8 code)) (hc : ∀ b ∈ code, 0 ≤ b ∧ b ≤ 255) (hn : code.length ≤ 1048576) :
    Calls Tryd.prog 23 #[.slice A code.length c] w fun e w' => e = .returned (.pointer (some ⟨w.heap.size, 0, none⟩)) ∧ CurOk w' w.heap.size ∧ Below w.heap.size w w' := by
  have HR := hide h
  have HC := hide hc
  clear h hc
  go_enter Tryd.func23, Tryd.ntmps23
  go_wp2
  go_loop [3, 4] (fun x i => ∃ (j : Nat) (y : Int), j ≤ code.length ∧ i = .int .i64 j ∧ x = .int .i64 y) (fun _ i => code.length - (intOf i).toNat)
  case atStart => exact ⟨0, _, Nat.zero_le _, rfl, rfl⟩
  case round =>
    obtain ⟨j, y, hj, rfl, rfl⟩ := hrel
    by_cases hlt : j < code.length
    · have hlt' : (j : Int) < (code.length : Int) := by omega
      by_cases h4 : (j : Int) < 4000
      · have hl2 : j < (ints .u8 code).length := by rw [length_ints]; exact hlt
        obtain ⟨ad, rfl, _, _, hcell⟩ := HR.out.at_ hl2
        rw [ints_get] at hcell
        go_wp2
        go_round
        case rel => exact ⟨j + 1, _, by omega, by go_num, rfl⟩
        case measure => simp [intOf]; omega
      · have d4 : decide ((j : Int) < 4000) = false := by simp; omega
        go_wp2
        go_ret
        refine ⟨rfl, ⟨A, c, code, 0, _, Arr.new w _ _, (HR.out.top.alloc _).wide (Nat.zero_le _) (Nat.le_refl _), HC.out, Int.le_refl _, by omega, hn⟩, (Below.refl _ _).alloc (Nat.le_refl _) _⟩
    · have d4 : decide ((j : Int) < (code.length : Int)) = false := by simp; omega
      go_wp2
      go_ret
      refine ⟨rfl, ⟨A, c, code, 0, _, Arr.new w _ _, (HR.out.top.alloc _).wide (Nat.zero_le _) (Nat.le_refl _), HC.out, Int.le_refl _, by omega, hn⟩, (Below.refl _ _).alloc (Nat.le_refl _) _⟩
set_option maxRecDepth 100000 in
set_option maxHeartbeats 1000000 in
theorem s_l01Byte (N : Nat) (w : World) (h : CurOk w N) :
    Calls Tryd.prog 39 #[.pointer (some ⟨N, 0, none⟩)] w fun e w' => ∃ x : Int, e = .returned (.int .i64 x) ∧ 0 ≤ x ∧ x ≤ 255 ∧ CurOk w' N ∧ Chg N (N + 1) w w' := by
  have lN := h.lt
  obtain ⟨A, c, code, i, y, hA, hR, hb, hi, hi2, hn⟩ := h
  have HA := hide hA
  have HR := hide hR
  have HB := hide hb
  have f0 : w.cell? ⟨N, 0, none⟩ = some (.slice A code.length c) := hA.cell (k := 0) (by simp)
  have f1 : w.cell? ⟨N, 1, none⟩ = some (.int .i64 i) := hA.cell (k := 1) (by simp)
  have f2 : w.cell? ⟨N, 2, none⟩ = some (.int .i64 y) := hA.cell (k := 2) (by simp)
  have fz := hA.free 2
  clear hA hR hb
  go_enter Tryd.func39, Tryd.ntmps39
  go_wp2
  generalize wrap64 (wrap64 (y * 6364136223846793005) + 1442695040888963407) = y1
  generalize wrap64 (y * 6364136223846793005) = y2
  obtain ⟨w1, hw1⟩ : ∃ w1, w.setCell ⟨N, 2, none⟩ (.int .i64 y1) = w1 := ⟨_, rfl⟩
  have A1 := hide (show Arr w1 N 64 [.slice A code.length c, .int .i64 i, .int .i64 y1] from hw1 ▸ HA.out.set_ 2 _)
  have R1 := hide (show Rd w1 0 N A (ints .u8 code) from hw1 ▸ HR.out.setCell (.inr (Nat.le_refl _)) _)
  have C1 := hide (show Chg N (N + 1) w w1 from hw1 ▸ (Chg.refl N (N + 1) w).setCell (.inl ⟨Nat.le_refl _, Nat.lt_succ_self _⟩) _)
  rw [hw1]
  clear hw1 f0 f1 f2 fz HA HR
  have f0 : w1.cell? ⟨N, 0, none⟩ = some (.slice A code.length c) := A1.out.cell (k := 0) (by simp)
  have f1 : w1.cell? ⟨N, 1, none⟩ = some (.int .i64 i) := A1.out.cell (k := 1) (by simp)
  have f2 : w1.cell? ⟨N, 2, none⟩ = some (.int .i64 y1) := A1.out.cell (k := 2) (by simp)
  have fz := A1.out.free 1
  have ax := and255 (bits .xor .i64 (y1 / 8589934592) (y1 / 35184372088832))
  go_quiet (fail)
  go_wp2
  generalize bits .xor .i64 (y1 / 8589934592) (y1 / 35184372088832) = u1 at *
  generalize bits .and .i64 u1 255 = x1 at *
  obtain ⟨x0, x255⟩ := ax
  by_cases hlt : i < (code.length : Int)
  · obtain ⟨I, rfl⟩ := Int.eq_ofNat_of_zero_le hi
    have hl2 : I < (ints .u8 code).length := by rw [length_ints]; omega
    obtain ⟨ad, rfl, _, _, hcell⟩ := R1.out.at_ hl2
    rw [ints_get] at hcell
    have bb := HB.out (code[I]'(by omega)) (List.getElem_mem _)
    generalize code[I]'(by omega) = b at *
    obtain ⟨bb0, bb1⟩ := bb
    have ax := and255 (x1 + b)
    have gI : IntKind.i64.wrap ((I : Int) + 1) = (I : Int) + 1 := IntWalk.i64_in _ (by omega)
    go_quiet (fail)
    go_wp2
    go_quiet (fail)
    go_wp2
    generalize bits .and .i64 (x1 + b) 255 = x2 at *
    go_ret
    refine ⟨x2, rfl, ax.1, ax.2, ⟨some ad, c, code, (I : Int) + 1, y1, ?_, ?_, HB.out, by omega, by omega, hn⟩, ?_⟩
    · exact (A1.out.drewN _).set_ 1 _
    · exact Rd.setCell (R1.out.drewN _) (.inr (Nat.le_refl _)) _
    · exact (C1.out.drewN _).setCell (.inl ⟨Nat.le_refl _, Nat.lt_succ_self _⟩) _
  · go_quiet (fail)
    go_wp2
    go_ret
    exact ⟨x1, rfl, x0, x255, ⟨A, c, code, i, y1, A1.out.drewN _, R1.out.drewN _, HB.out, hi, hi2, hn⟩, C1.out.drewN _⟩
set_option maxRecDepth 100000 in
set_option maxHeartbeats 1000000 in
theorem s_l01Below (N : Nat) (n : Int) (w : World) (h : CurOk w N) :
    Calls Tryd.prog 24 #[.pointer (some ⟨N, 0, none⟩), .int .i64 n] w fun e w' => ∃ x : Int, e = .returned (.int .i64 x) ∧ 0 ≤ x ∧ (0 < n → x < n) ∧ (n ≤ 0 → x = 0) ∧ CurOk w' N ∧ Chg N (N + 1) w w' := by
  by_cases h0 : n ≤ 0
  · go_enter Tryd.func24, Tryd.ntmps24
    go_wp2
    go_ret
    exact ⟨0, rfl, Int.le_refl _, fun h => by omega, fun _ => rfl, h, Chg.refl _ _ _⟩
  have HC := hide h
  clear h
  by_cases h1 : n ≤ 256
  · go_enter Tryd.func24, Tryd.ntmps24
    have hn0 : ¬ n = 0 := by omega
    go_wp2_with (go_at_call 39; refine (s_l01Byte N _ HC.out).mono ?_; rintro e w1 ⟨x, rfl, x0, x1, hc1, hg1⟩; have K1 := hide hc1; have G1 := hide hg1; clear hc1 hg1)
    go_ret
    exact ⟨x % n, rfl, Int.emod_nonneg _ (by omega), fun h => Int.emod_lt_of_pos _ h, fun h => by omega, K1.out, G1.out⟩
  · go_enter Tryd.func24, Tryd.ntmps24
    have hn0 : ¬ n = 0 := by omega
    go_wp2_with fail
    refine (s_l01Byte N _ HC.out).mono ?_
    rintro e w1 ⟨x, rfl, x0, x1, hc1, hg1⟩
    have K1 := hide hc1
    have G1 := hide hg1
    clear hc1 hg1
    go_wp2_with fail
    refine (s_l01Byte N _ K1.out).mono ?_
    rintro e w2 ⟨y, rfl, y0, y1, hc2, hg2⟩
    have K2 := hide hc2
    have G2 := hide (G1.out.trans hg2)
    clear hc2 hg2
    go_wp2_with fail
    refine (s_l01Byte N _ K2.out).mono ?_
    rintro e w3 ⟨z, rfl, z0, z1, hc3, hg3⟩
    have K3 := hide hc3
    have G3 := hide (G2.out.trans hg3)
    clear hc3 hg3
    go_wp2_with fail
    refine (s_l01Byte N _ K3.out).mono ?_
    rintro e w4 ⟨v, rfl, v0, v1, hc4, hg4⟩
    have K4 := hide hc4
    have G4 := hide (G3.out.trans hg4)
    clear hc4 hg4
    go_wp2
    go_ret
    exact ⟨_, rfl, Int.emod_nonneg _ (by omega), fun h => Int.emod_lt_of_pos _ h, fun h => by omega, K4.out, G4.out⟩
theorem s_l01Once (N : Nat) (n : Int) (w : World) (h : CurOk w N) :
    Calls Tryd.prog 29 #[.pointer (some ⟨N, 0, none⟩), .int .i64 n] w fun e w' => ∃ b : Bool, e = .returned (.bool b) ∧ CurOk w' N ∧ Chg N (N + 1) w w' := by
  have HC := hide h
  clear h
  go_enter Tryd.func29, Tryd.ntmps29
  go_wp2_with (go_at_call 24; refine (s_l01Below N _ _ HC.out).mono ?_; rintro e w1 ⟨x, rfl, x0, -, -, hc1, hg1⟩; have K1 := hide hc1; have G1 := hide hg1; clear hc1 hg1)
  go_ret
  exact ⟨_, rfl, K1.out, G1.out⟩
set_option maxRecDepth 100000 in
theorem s_l01PickInt (N : Nat) (zs : List Int) (A : Option Addr) (c L H : Nat) (w : World) (h : CurOk w N) (hR : Rd w L H A (ints .i64 zs)) (hL : N < L) (h0 : 0 < zs.length) (hn : zs.length ≤ 1048576) :
    Calls Tryd.prog 25 #[.pointer (some ⟨N, 0, none⟩), .slice A zs.length c] w fun e w' => ∃ v : Int, e = .returned (.int .i64 v) ∧ v ∈ zs ∧ CurOk w' N ∧ Chg N (N + 1) w w' := by
  have HC := hide h
  have HR := hide hR
  clear h hR
  go_enter Tryd.func25, Tryd.ntmps25
  go_wp2_with fail
  refine (s_l01Below N _ _ HC.out).mono ?_
  rintro e w1 ⟨x, rfl, x0, x1, -, hc1, hg1⟩
  have K1 := hide hc1
  have G1 := hide hg1
  have R1 := hide (HR.out.chg hg1 (.inr (by omega)))
  clear hc1 hg1
  replace x1 := x1 (by omega)
  obtain ⟨X, rfl⟩ := Int.eq_ofNat_of_zero_le x0
  have hl2 : X < (ints .i64 zs).length := by rw [length_ints]; omega
  obtain ⟨ad, rfl, _, _, hcell⟩ := R1.out.at_ hl2
  rw [ints_get] at hcell
  have hm := hide (List.getElem_mem (l := zs) (n := X) (by omega))
  generalize zs[X]'(by omega) = v at *
  go_wp2
  go_ret
  exact ⟨v, rfl, hm.out, K1.out, G1.out⟩
theorem infoU8d : (Tryd.prog.info? 5).map (fun i => (i.zero, i.size, i.bytes)) = some (some (.int .u8 0), 1, 1) := by kernel_rfl
theorem size_strNums (zs : List Int) : (strOfNums zs).size = zs.length := by simp [strOfNums, ByteArray.size]
set_option maxRecDepth 100000 in
set_option maxHeartbeats 1000000 in
theorem s_l01Text_hi (N : Nat) (n : Int) (w : World) (h5 : 5000 < n) (h : CurOk w N) :
    Calls Tryd.prog 30 #[.pointer (some ⟨N, 0, none⟩), .int .i64 n] w fun e w' => ∃ s : ByteArray, e = .returned (.string s) ∧ s.size ≤ 5000 ∧ CurOk w' N ∧ Chg N (N + 1) w w' := by
  have lN := h.lt
  have HC := hide h
  clear h
  go_enter Tryd.func30, Tryd.ntmps30
  go_wp2
  go_loopw [5, 6] (fun v i wr => ∃ (j : Nat) (zs : List Int), j ≤ 5000 ∧ i = .int .i64 (j : Int) ∧ Hid (zs.length = j) ∧ CurOk wr N ∧ Chg N (N + 1) w wr ∧ Own wr w.heap.size wr.heap.size 5 v (ints .u8 zs)) (fun _ i _ => 5000 - (intOf i).toNat)
  case atStart => exact ⟨0, [], Nat.zero_le _, rfl, rfl, HC.out.alloc _, (Chg.refl _ _ _).alloc _, (Own.made #[] _ _ (Nat.le_refl _) (by simp [maxLen])).top⟩
  case round =>
    obtain ⟨j, zs, hj, rfl, hz, hk, hg, ho⟩ := hrel
    have KR := hide hk
    have GR := hide hg
    have OR := hide ho
    clear hk hg ho
    by_cases hlt : (j : Int) < 5000
    · go_wp2_with (first
        | (go_at_call 39; refine (s_l01Byte N _ KR.out).mono ?_; rintro e w1 ⟨x, rfl, x0, x1, hk, hg⟩; have K1 := hide hk; have G1 := hide (GR.out.trans hg); have O1 := hide ((OR.out.chg hg (.inr (by omega))).top); clear hk hg)
        | (at_builtin; refine wpList_app rfl _ _ _ rfl 5 (.int .u8 0) 1 Tryd.underlying25 infoU8d rfl w.heap.size _ _ rfl ((O1.out.alloc _).top) ⟨w1.heap.size, 0, none⟩ 1 1 [.int .u8 x] rfl rfl (new_cells #[.int .u8 x] _) (ints_one .u8 [x]) (by rw [length_ints, hz.out]; omega) (by omega) (by have := G1.out.size; simp; omega) ?_; intro v' w2 hown2 hb2 _; have O2 := hide hown2; have K2 := hide ((K1.out.alloc (.cells #[.int .u8 x] 5)).keep (fun k _ h2 => hb2.block k (by omega))); have G2 := hide ((G1.out.alloc (.cells #[.int .u8 x] 5)).below_ hb2); clear hown2 hb2))
      go_roundw
      case rel => exact ⟨j + 1, zs ++ [x], by omega, by go_num, hide (by rw [List.length_append, hz.out]; rfl), K2.out, G2.out, by have := O2.out; simpa [ints] using this⟩
      case measure => simp [intOf]; omega
    · have kc := run_str_own (P := Tryd.prog) (w := wr) _ _ _ Tryd.underlying25 Tryd.underlying5 Tryd.underlying9 _ _ OR.out
      go_wp2
      go_ret
      exact ⟨_, rfl, by rw [size_strNums, hz.out]; exact hj, KR.out, GR.out⟩
set_option maxRecDepth 100000 in
set_option maxHeartbeats 1000000 in
theorem s_l01Text_lo (N : Nat) (n : Int) (w : World) (h5 : n ≤ 5000) (h : CurOk w N) :
    Calls Tryd.prog 30 #[.pointer (some ⟨N, 0, none⟩), .int .i64 n] w fun e w' => ∃ s : ByteArray, e = .returned (.string s) ∧ s.size ≤ 5000 ∧ CurOk w' N ∧ Chg N (N + 1) w w' := by
  have lN := h.lt
  have HC := hide h
  clear h
  go_enter Tryd.func30, Tryd.ntmps30
  go_wp2
  go_loopw [5, 6] (fun v i wr => ∃ (j : Nat) (zs : List Int), j ≤ 5000 ∧ i = .int .i64 (j : Int) ∧ Hid (zs.length = j) ∧ CurOk wr N ∧ Chg N (N + 1) w wr ∧ Own wr w.heap.size wr.heap.size 5 v (ints .u8 zs)) (fun _ i _ => 5000 - (intOf i).toNat)
  case atStart => exact ⟨0, [], Nat.zero_le _, rfl, rfl, HC.out.alloc _, (Chg.refl _ _ _).alloc _, (Own.made #[] _ _ (Nat.le_refl _) (by simp [maxLen])).top⟩
  case round =>
    obtain ⟨j, zs, hj, rfl, hz, hk, hg, ho⟩ := hrel
    have KR := hide hk
    have GR := hide hg
    have OR := hide ho
    clear hk hg ho
    by_cases hlt : (j : Int) < n
    · go_wp2_with (first
        | (go_at_call 39; refine (s_l01Byte N _ KR.out).mono ?_; rintro e w1 ⟨x, rfl, x0, x1, hk, hg⟩; have K1 := hide hk; have G1 := hide (GR.out.trans hg); have O1 := hide ((OR.out.chg hg (.inr (by omega))).top); clear hk hg)
        | (at_builtin; refine wpList_app rfl _ _ _ rfl 5 (.int .u8 0) 1 Tryd.underlying25 infoU8d rfl w.heap.size _ _ rfl ((O1.out.alloc _).top) ⟨w1.heap.size, 0, none⟩ 1 1 [.int .u8 x] rfl rfl (new_cells #[.int .u8 x] _) (ints_one .u8 [x]) (by rw [length_ints, hz.out]; omega) (by omega) (by have := G1.out.size; simp; omega) ?_; intro v' w2 hown2 hb2 _; have O2 := hide hown2; have K2 := hide ((K1.out.alloc (.cells #[.int .u8 x] 5)).keep (fun k _ h2 => hb2.block k (by omega))); have G2 := hide ((G1.out.alloc (.cells #[.int .u8 x] 5)).below_ hb2); clear hown2 hb2))
      go_roundw
      case rel => exact ⟨j + 1, zs ++ [x], by omega, by go_num, hide (by rw [List.length_append, hz.out]; rfl), K2.out, G2.out, by have := O2.out; simpa [ints] using this⟩
      case measure => simp [intOf]; omega
    · have kc := run_str_own (P := Tryd.prog) (w := wr) _ _ _ Tryd.underlying25 Tryd.underlying5 Tryd.underlying9 _ _ OR.out
      go_wp2
      go_ret
      exact ⟨_, rfl, by rw [size_strNums, hz.out]; exact hj, KR.out, GR.out⟩
theorem s_l01Text (N : Nat) (n : Int) (w : World) (h : CurOk w N) :
    Calls Tryd.prog 30 #[.pointer (some ⟨N, 0, none⟩), .int .i64 n] w fun e w' => ∃ s : ByteArray, e = .returned (.string s) ∧ s.size ≤ 5000 ∧ CurOk w' N ∧ Chg N (N + 1) w w' := by
  by_cases h5 : (5000 : Int) < n
  · exact s_l01Text_hi N n w h5 h
  · exact s_l01Text_lo N n w (by omega) h
end Go.Proofs.YtejhpkcoeakegaaDoor

/-
  The walks of RootsBy and CheckBetween on what Consistency tells.
-/
import Derived.Test.YtjjkpieokknhiaaFolds
import Derived.Test.YtjjkpieokknhiaaFoldBy
import Derived.Test.YtjjkpieokknhiaaSteps
namespace Go.Proofs.Ytjjkpieokknhiaa
set_option linter.unusedVariables false
open Go.RowKit

theorem consA_mem {nd : ByteArray → ByteArray → ByteArray} {em : ByteArray} {wd : Nat} (hn : ∀ l r, (nd l r).size = wd) (he : em.size = wd) : ∀ (f : Nat) (zs : List ByteArray) (m : Nat) (q : Bool), (∀ s ∈ zs, s.size = wd) → ∀ s ∈ consA nd em f zs m q, s.size = wd
  | 0, zs, m, q, hm, s, h => by
    unfold consA at h
    split at h
    · simp at h
    · rw [List.mem_singleton.1 h]; exact rootA_size hn he _ _ hm
  | f + 1, zs, m, q, hm, s, h => by
    unfold consA at h
    split at h
    · split at h
      · simp at h
      · rw [List.mem_singleton.1 h]; exact rootA_size hn he _ _ hm
    · split at h
      · rcases List.mem_append.1 h with h | h
        · exact consA_mem hn he f _ _ _ (fun s hs => hm s (List.mem_of_mem_take hs)) s h
        · rw [List.mem_singleton.1 h]; exact rootA_size hn he _ _ (fun s hs => hm s (List.mem_of_mem_drop hs))
      · rcases List.mem_append.1 h with h | h
        · exact consA_mem hn he f _ _ _ (fun s hs => hm s (List.mem_of_mem_drop hs)) s h
        · rw [List.mem_singleton.1 h]; exact rootA_size hn he _ _ (fun s hs => hm s (List.mem_of_mem_take hs))
theorem consW_mem {wd : Nat} (h32 : wd ≤ 32) {zs : List ByteArray} (m : Nat) (q : Bool) (hm : ∀ s ∈ zs, s.size = wd) : ∀ s ∈ consW wd zs m q, s.size = wd := consA_mem (fun l r => nodeT_size wd l r h32) (emptyT_size wd h32) _ zs m q hm
set_option maxRecDepth 100000 in
set_option maxHeartbeats 2000000 in
theorem i_rootsBy (wd m n : Nat) (h1 : 1 ≤ wd) (h32 : wd ≤ 32) (r : ByteArray) (ps : List ByteArray) (A : Option Addr) (c L H : Nat) (w : World) (h0 : 0 < m) (hmn : m ≤ n) (h512 : n ≤ 512) (hps : ps.length = between m n true) (hr : r.size = wd) (hm : ∀ s ∈ ps, s.size = wd) (hc : ps.length ≤ c) (hc2 : c ≤ maxLen) (h : Rd w L H A (strs ps)) :
    Calls Try.prog 44 #[.int .i64 (wd : Int), .int .i64 (m : Int), .string r, .int .i64 (n : Int), .slice A ps.length c] w fun e w' => ∃ T k c', e = .returned (.tuple #[.string (foldsW wd m r n ps true).1, .string (foldsW wd m r n ps true).2, .slice T k c', .bool true]) ∧ Below w.heap.size w w' := by
  have HR := hide h
  have hle := between_le n m true h0 hmn
  have CF := hide (i_froots wd w.heap.size h1 h32 n n m true r ps A c L w.heap.size none 0 [] (w.alloc (.cells #[.int .i64 (wd : Int), .slice none 0 0] 72)) (Nat.le_refl _) h0 hmn h512 hps hr hm hc hc2 (h.top.alloc _) (Nat.le_refl _) (by simp; omega) (Arr.new w [.int .i64 (wd : Int), .slice none 0 0] _) (Own.nil _ _ _ _))
  have CH := i_areHashes (wd : Int) ps A c L H
  rw [hashesOk_of (fun s hs => by rw [hm s hs])] at CH
  replace CH := hide CH
  have CS := i_StepsBetween (m : Int) (n : Int)
  have eb : betweenI (m : Int) (n : Int) = (ps.length : Int) := by
    unfold betweenI
    rw [if_pos ⟨by omega, by omega, by omega⟩, if_neg (by omega), Int.toNat_natCast, Int.toNat_natCast, hps]
  rw [eb] at CS
  replace CS := hide CS
  have CW := i_isWidth (wd : Int)
  rw [inR_true (by omega) (by omega)] at CW
  replace CW := hide CW
  have d2 : ((r.size : Int) != (wd : Int)) = false := by rw [bne_eq_false_iff_eq]; omega
  have d3 : ¬ (m : Int) < 1 := by omega
  have hl : ps.length ≤ 9223372036854775807 := by omega
  obtain ⟨y1, hy1⟩ : ∃ y, (foldsW wd m r n ps true).1 = y := ⟨_, rfl⟩
  obtain ⟨y2, hy2⟩ : ∃ y, (foldsW wd m r n ps true).2 = y := ⟨_, rfl⟩
  rw [hy1, hy2] at CF ⊢
  clear hm hy1 hy2 hps h eb hr hle
  go_enter Try.func44, Try.ntmps44
  go_wp2_with (first
    | (go_at_call 31; refine (CW.out _).mono ?_; rintro e w1 ⟨rfl, rfl⟩)
    | (go_at_call 38; refine (CH.out _ HR.out hl).mono ?_; rintro e w1 ⟨rfl, rfl⟩)
    | (go_at_call 15; refine (CS.out _).mono ?_; rintro e w1 ⟨rfl, rfl⟩)
    | (go_at_call 52; refine (CF.out).mono ?_; rintro e w2 ⟨rfl, hb2, T2, c2, ys, hA2, -, -⟩; have B2 := hide (((Below.refl _ w).alloc (Nat.le_refl _) _).trans hb2); have f1 : w2.cell? ⟨w.heap.size, 1, none⟩ = some (.slice T2 ys.length c2) := hA2.cell (k := 1) (by simp); clear hb2 hA2))
  go_quiet (fail)
  go_wp2
  refine bodyPost_ret (v := .tuple #[.string y1, .string y2, .slice T2 ys.length c2, .bool true]) (by simp [results, Try.results44, go_sem]) rfl ⟨T2, ys.length, c2, rfl, bel_drewN B2.out _⟩
set_option maxHeartbeats 1000000 in
theorem i_Between_pos (wd m n : Nat) (h1 : 1 ≤ wd) (h32 : wd ≤ 32) (r R : ByteArray) (ps : List ByteArray) (A : Option Addr) (c L H : Nat) (w : World) (h0 : 0 < m) (hmn : m ≤ n) (h512 : n ≤ 512) (hps : ps.length = between m n true) (hr : r.size = wd) (hm : ∀ s ∈ ps, s.size = wd) (hc : ps.length ≤ c) (hc2 : c ≤ maxLen) (h : Rd w L H A (strs ps)) (hf : foldsW wd m r n ps true = (r, R)) :
    Calls Try.prog 16 #[.int .i64 (wd : Int), .int .i64 (m : Int), .string r, .int .i64 (n : Int), .string R, .slice A ps.length c] w fun e w' => e = .returned (.bool true) ∧ Below w.heap.size w w' := by
  have C0 := i_rootsBy wd m n h1 h32 r ps A c L H w h0 hmn h512 hps hr hm hc hc2 h
  rw [hf] at C0
  have C1 : Calls Try.prog 30 #[.int .i64 (wd : Int), .int .i64 (m : Int), .string r, .int .i64 (n : Int), .slice A ps.length c] w fun e w' => e = .returned (.tuple #[.string r, .string R, .bool true]) ∧ Below w.heap.size w w' := by
    replace C0 := hide C0
    clear h hm hps hc hc2 hr hf
    go_enter Try.func30, Try.ntmps30
    go_wp2_with (go_at_call 44; refine (C0.out).mono ?_; rintro e w1 ⟨T, k, c1, rfl, hb⟩)
    go_ret3
    exact ⟨rfl, hb⟩
  replace C1 := hide C1
  have d0 : (0 : Int) < (m : Int) := by omega
  clear h hm hps hc hc2 hr hf C0
  go_enter Try.func16, Try.ntmps16
  go_wp2_with (go_at_call 30; refine (C1.out).mono ?_; rintro e w1 ⟨rfl, hb⟩)
  go_ret
  exact ⟨rfl, hb⟩
set_option maxHeartbeats 1000000 in
theorem i_Between_zero (wd n : Nat) (h1 : 1 ≤ wd) (h32 : wd ≤ 32) (R : ByteArray) (A : Option Addr) (c : Nat) (w : World) (h512 : n ≤ 512) (hR : R.size = wd) (hn : n = 0 → R = emptyT wd) :
    Calls Try.prog 16 #[.int .i64 (wd : Int), .int .i64 0, .string (emptyT wd), .int .i64 (n : Int), .string R, .slice A 0 c] w fun e w' => e = .returned (.bool true) ∧ Below w.heap.size w w' := by
  have CE := hide (i_emptyRoot wd h1 h32)
  have CW := i_isWidth (wd : Int)
  rw [inR_true (by omega) (by omega)] at CW
  replace CW := hide CW
  have CZ := i_isSize (n : Int)
  rw [inR_true (by omega) (by omega)] at CZ
  replace CZ := hide CZ
  have d2 : ((R.size : Int) != (wd : Int)) = false := by rw [bne_eq_false_iff_eq]; omega
  by_cases h0 : n = 0
  · subst h0
    rw [hn rfl] at d2 ⊢
    replace CZ : Hid (∀ W : World, Calls Try.prog 27 #[.int .i64 0] W fun e w' => e = .returned (.bool true) ∧ W = w') := CZ
    show Calls _ _ #[.int .i64 (wd : Int), .int .i64 0, .string (emptyT wd), .int .i64 0, .string (emptyT wd), .slice A 0 c] w _
    generalize emptyT wd = em at *
    clear hR hn
    go_enter Try.func16, Try.ntmps16
    go_wp2_with (first
      | (go_at_call 31; refine (CW.out _).mono ?_; rintro e w1 ⟨rfl, rfl⟩)
      | (go_at_call 27; refine (CZ.out _).mono ?_; rintro e w1 ⟨rfl, rfl⟩)
      | (go_at_call 32; refine (CE.out _).mono ?_; rintro e w1 ⟨rfl, hb⟩))
    go_ret
    exact ⟨rfl, hb⟩
  · have d0 : (0 : Int) < (n : Int) := by omega
    clear hR hn h0
    generalize emptyT wd = em at *
    go_enter Try.func16, Try.ntmps16
    go_wp2_with (first
      | (go_at_call 31; refine (CW.out _).mono ?_; rintro e w1 ⟨rfl, rfl⟩)
      | (go_at_call 27; refine (CZ.out _).mono ?_; rintro e w1 ⟨rfl, rfl⟩)
      | (go_at_call 32; refine (CE.out _).mono ?_; rintro e w1 ⟨rfl, hb⟩))
    go_ret
    exact ⟨rfl, hb⟩
/-- What Consistency tells CheckBetween takes. -/
theorem i_Between (wd : Nat) (h1 : 1 ≤ wd) (h32 : wd ≤ 32) (zs : List ByteArray) (m : Nat) (hml : m ≤ zs.length) (h512 : zs.length ≤ 512) (hm : ∀ s ∈ zs, s.size = wd) (A : Option Addr) (c L H : Nat) (w : World) (hc : (consI wd zs m).length ≤ c) (hc2 : c ≤ maxLen) (h : Rd w L H A (strs (consI wd zs m))) :
    Calls Try.prog 16 #[.int .i64 (wd : Int), .int .i64 (m : Int), .string (rootW wd (zs.take m)), .int .i64 (zs.length : Int), .string (rootW wd zs), .slice A (consI wd zs m).length c] w fun e w' => e = .returned (.bool true) ∧ Below w.heap.size w w' := by
  by_cases h0 : m = 0
  · subst h0
    have e1 : consI wd zs 0 = [] := rfl
    rw [e1]
    exact i_Between_zero wd zs.length h1 h32 (rootW wd zs) A c w h512 (rootW_size h32 zs hm) (fun hz => by rw [List.eq_nil_of_length_eq_zero hz]; rfl)
  · have e1 : consI wd zs m = consW wd zs m true := by unfold consI; rw [if_neg h0]
    rw [e1] at h hc ⊢
    exact i_Between_pos wd m zs.length h1 h32 (rootW wd (zs.take m)) (rootW wd zs) (consW wd zs m true) A c L H w (by omega) hml h512 (consT_len _ _ _ zs m true rfl (by omega) hml) (rootW_size h32 _ (fun s hs => hm s (List.mem_of_mem_take hs))) (consW_mem h32 m true hm) hc hc2 h (folds_cons _ _ _ zs m _ true rfl (by omega) hml (fun _ => rfl))
end Go.Proofs.Ytjjkpieokknhiaa

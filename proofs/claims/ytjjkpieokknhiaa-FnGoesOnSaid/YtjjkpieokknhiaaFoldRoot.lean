/-
  The walk of the folder's root: the root to which a proof leads, by induction on the size.
-/
import Derived.Test.YtjjkpieokknhiaaFold
import Derived.Test.YtjjkpieokknhiaaSteps
namespace Go.Proofs.Ytjjkpieokknhiaa
set_option linter.unusedVariables false
open Go.RowKit

def foldW (wd n a : Nat) (l : ByteArray) (ps : List ByteArray) : ByteArray := foldT (nodeT wd) (emptyT wd) n a l ps
theorem foldA_size {nd : ByteArray → ByteArray → ByteArray} {em : ByteArray} {wd : Nat} (hn : ∀ l r, (nd l r).size = wd) : ∀ (f n a : Nat) (l : ByteArray) (ps : List ByteArray), l.size = wd → (foldA nd em f n a l ps).size = wd
  | 0, _, _, _, _, h => h
  | f + 1, n, a, l, ps, h => by
    unfold foldA
    split
    · exact h
    · split <;> exact hn _ _
theorem foldW_size {wd : Nat} (h32 : wd ≤ 32) (n a : Nat) (l : ByteArray) (ps : List ByteArray) (h : l.size = wd) : (foldW wd n a l ps).size = wd := foldA_size (fun l r => nodeT_size wd l r h32) _ _ _ _ _ h
theorem Rd.below_ {w w' : World} {L H F : Nat} {A : Option Addr} {xs : List Value} (h : Rd w L H A xs) (hb : Below F w w') (hF : H ≤ F) : Rd w' L H A xs := h.keep fun k _ _ h2 => hb.block k (by omega)
theorem last_split {em : ByteArray} {ps : List ByteArray} {m : Nat} (h : ps.length = m + 1) : ∃ (q : List ByteArray) (x : ByteArray), ps.dropLast = q ∧ ps.getLastD em = x ∧ q.length = m ∧ x ∈ ps ∧ (∀ s ∈ q, s ∈ ps) ∧ ps = q ++ [x] := by
  rcases List.eq_nil_or_concat ps with rfl | ⟨q, x, rfl⟩
  · simp at h
  · refine ⟨q, x, by simp, by simp, by simpa using h, by simp, fun s hs => by simp [hs], by simp⟩
set_option maxRecDepth 100000 in
set_option maxHeartbeats 1000000 in
theorem i_froot (wd F : Nat) (h1 : 1 ≤ wd) (h32 : wd ≤ 32) : ∀ (N n a : Nat) (l : ByteArray) (ps : List ByteArray) (A : Option Addr) (c L H : Nat) (T : Option Addr) (ct : Nat) (xs : List ByteArray) (w : World),
    n ≤ N → a < n → n ≤ 512 → ps.length = stepsIn n a → l.size = wd → (∀ s ∈ ps, s.size = wd) → ps.length ≤ c → c ≤ maxLen → Rd w L H A (strs ps) → H ≤ F → xs.length + ps.length ≤ 1000000 →
    Arr w F 72 [.int .i64 (wd : Int), .slice T xs.length ct] → Own w (F + 1) w.heap.size 9 (.slice T xs.length ct) (strs xs) →
    Calls Try.prog 51 #[.pointer (some ⟨F, 0, none⟩), .int .i64 (n : Int), .int .i64 (a : Int), .string l, .slice A ps.length c] w fun e w' => e = .returned (.string (foldW wd n a l ps)) ∧ Below F w w' ∧ ∃ T' c' ys, Arr w' F 72 [.int .i64 (wd : Int), .slice T' ys.length c'] ∧ Own w' (F + 1) w'.heap.size 9 (.slice T' ys.length c') (strs ys) ∧ ys.length ≤ xs.length + ps.length := by
  intro N
  induction N with
  | zero => intro n a l ps A c L H T ct xs w hN ha; omega
  | succ N IH =>
    intro n a l ps A c L H T ct xs w hN ha h512 hps hls hm hc hc2 hR hHF hxs hA hO
    have HR := hide hR
    have HA := hide hA
    have HO := hide hO
    clear hR hA hO
    by_cases hn1 : n = 1
    · subst hn1
      have e0 : foldW wd 1 a l ps = l := foldT_small _ _ (Nat.le_refl _)
      rw [e0]
      clear IH hm e0
      show Calls _ _ #[.pointer (some ⟨F, 0, none⟩), .int .i64 1, .int .i64 (a : Int), .string l, .slice A ps.length c] w _
      go_enter Try.func51, Try.ntmps51
      go_wp2_with fail
      go_ret
      exact ⟨rfl, Below.refl _ _, T, ct, xs, HA.out, HO.out, by omega⟩
    have hl2 : 2 ≤ n := by omega
    obtain ⟨k0, k1, k2⟩ := half_spec hl2
    have hk : halfI (n : Int) = (halfOf n : Int) := by simp [halfI]; omega
    have q1 : ((n : Int) == 1) = false := by simp only [beq_eq_false_iff_ne]; omega
    have hpos : 1 ≤ ps.length := by
      rw [hps]
      by_cases hlt : a < halfOf n
      · rw [stepsIn_left hl2 hlt]; omega
      · rw [stepsIn_right hl2 hlt]; omega
    obtain ⟨m, hpm⟩ : ∃ m, ps.length = m + 1 := ⟨ps.length - 1, by omega⟩
    obtain ⟨q, x, hq, hx, hql, hxm, hqs, epq⟩ := last_split (em := emptyT wd) hpm
    obtain ⟨ad, eA, l1, l2, cx⟩ := HR.out.at_ (k := m) (by rw [length_strs]; omega)
    rw [strs_get] at cx
    have ex : ps[m]'(by omega) = x := by
      subst hql
      simp [epq]
    rw [ex] at cx
    have hxs2 : x.size = wd := hm x hxm
    have ps5 : m + 1 ≤ 512 := by have := stepsIn_le n a; omega
    unfold maxLen at hc2
    rw [hpm] at hc hps hxs ⊢
    obtain ⟨k, hkk⟩ : ∃ k, halfOf n = k := ⟨_, rfl⟩
    have gm : (m : Int) + 1 - 1 = (m : Int) := by omega
    have gw : IntKind.i64.wrap (m : Int) = (m : Int) := IntWalk.i64_in _ (by omega)
    have g1 : ¬ c < m := by omega
    clear hxm ex hpm
    by_cases hlt : a < halfOf n
    · rw [hkk] at hk k0 k1 k2
      obtain ⟨y, hy⟩ : ∃ y, foldW wd k a l q = y := ⟨_, rfl⟩
      have hys : y.size = wd := hy ▸ foldW_size h32 _ _ _ _ hls
      have hlr : y.size + x.size ≤ 4000 := by omega
      have eF : foldW wd n a l ps = nodeT wd y x := by
        have := foldT_left (nodeT wd) (emptyT wd) (l := l) (ps := ps) hl2 hlt
        rw [hkk, hq, hx] at this
        rw [← hy]; exact this
      have hst : stepsIn n a = stepsIn k a + 1 := by have := stepsIn_left hl2 hlt; rwa [hkk] at this
      have CI := hide (show ∀ W, Rd W L H A (strs ps) → Arr W F 72 [.int .i64 (wd : Int), .slice T xs.length ct] → Own W (F + 1) W.heap.size 9 (.slice T xs.length ct) (strs xs) → Calls Try.prog 51 #[.pointer (some ⟨F, 0, none⟩), .int .i64 (k : Int), .int .i64 (a : Int), .string l, .slice A m c] W fun e w' => e = .returned (.string y) ∧ Below F W w' ∧ ∃ T' c' ys, Arr w' F 72 [.int .i64 (wd : Int), .slice T' ys.length c'] ∧ Own w' (F + 1) w'.heap.size 9 (.slice T' ys.length c') (strs ys) ∧ ys.length ≤ xs.length + m from fun W hW hAW hOW => by
        have := IH k a l q A c L H T ct xs W (by omega) (by omega) (by omega) (by omega) hls (fun s hs => hm s (hqs s hs)) (by omega) hc2 (by have := hW.take m; rwa [epq, strs, ← List.map_take, List.take_left' hql] at this) hHF (by omega) hAW hOW
        rw [hql, hy] at this
        exact this)
      rw [hkk] at hlt
      rw [eF]
      clear IH eF hst hy hq hx hkk hqs hm hls hql epq hps
      subst eA
      go_enter Try.func51, Try.ntmps51
      go_wp2_with (first
        | (go_at_call 26; refine (i_HalfOf _ _).mono ?_; rintro e w1 ⟨rfl, rfl⟩)
        | (go_at_call 51; refine (CI.out _ HR.out HA.out HO.out).mono ?_; rintro e w1 ⟨rfl, hb1, T1, c1, ys, hA1, hO1, hy1⟩; have B1 := hide hb1; have A1 := hide hA1; have O1 := hide hO1; have Y1 := hide hy1; have cx1 : w1.cell? (ad.add m) = some (.string x) := (hb1.cell (p := ad.add m) (by rw [block_add]; omega)).trans cx; clear hb1 hA1 hO1 hy1 cx)
        | (go_at_call 58; refine (i_fnode wd F h1 h32 y x hlr T1 c1 ys (by have := Y1.out; omega) _ A1.out O1.out).mono ?_; rintro e w2 ⟨rfl, hb2, T2, c2, hA2, hO2⟩; have B2 := hide hb2; have A2 := hide hA2; have O2 := hide hO2; clear hb2 hA2 hO2))
      all_goals
        go_ret
        refine ⟨rfl, B1.out.trans B2.out, T2, c2, ys ++ [y ++ x], ?_, ?_, ?_⟩
        · rw [List.length_append]; exact A2.out
        · rw [List.length_append]; exact O2.out
        · have := Y1.out
          rw [List.length_append]
          simp; omega
    · rw [hkk] at hk k0 k1 k2
      obtain ⟨y, hy⟩ : ∃ y, foldW wd (n - k) (a - k) l q = y := ⟨_, rfl⟩
      have hys : y.size = wd := hy ▸ foldW_size h32 _ _ _ _ hls
      have hlr : x.size + y.size ≤ 4000 := by omega
      have eF : foldW wd n a l ps = nodeT wd x y := by
        have := foldT_right (nodeT wd) (emptyT wd) (l := l) (ps := ps) hl2 hlt
        rw [hkk, hq, hx] at this
        rw [← hy]; exact this
      have hst : stepsIn n a = stepsIn (n - k) (a - k) + 1 := by have := stepsIn_right hl2 hlt; rwa [hkk] at this
      have ea : ((a - k : Nat) : Int) = (a : Int) - k := by omega
      have en : ((n - k : Nat) : Int) = (n : Int) - k := by omega
      have g3 : IntKind.i64.wrap ((a : Int) - k) = (a : Int) - k := IntWalk.i64_in _ (by omega)
      have g4 : IntKind.i64.wrap ((n : Int) - k) = (n : Int) - k := IntWalk.i64_in _ (by omega)
      have g5 : (k : Int) ≤ a := by omega
      have CI := hide (show ∀ W, Rd W L H A (strs ps) → Arr W F 72 [.int .i64 (wd : Int), .slice T xs.length ct] → Own W (F + 1) W.heap.size 9 (.slice T xs.length ct) (strs xs) → Calls Try.prog 51 #[.pointer (some ⟨F, 0, none⟩), .int .i64 ((n : Int) - k), .int .i64 ((a : Int) - k), .string l, .slice A m c] W fun e w' => e = .returned (.string y) ∧ Below F W w' ∧ ∃ T' c' ys, Arr w' F 72 [.int .i64 (wd : Int), .slice T' ys.length c'] ∧ Own w' (F + 1) w'.heap.size 9 (.slice T' ys.length c') (strs ys) ∧ ys.length ≤ xs.length + m from fun W hW hAW hOW => by
        have := IH (n - k) (a - k) l q A c L H T ct xs W (by omega) (by omega) (by omega) (by omega) hls (fun s hs => hm s (hqs s hs)) (by omega) hc2 (by have := hW.take m; rwa [epq, strs, ← List.map_take, List.take_left' hql] at this) hHF (by omega) hAW hOW
        rw [hql, hy] at this
        rw [ea, en] at this
        exact this)
      rw [hkk] at hlt
      rw [eF]
      clear IH eF hst hy hq hx hkk hqs hm hls hql epq hps
      subst eA
      go_enter Try.func51, Try.ntmps51
      go_wp2_with (first
        | (go_at_call 26; refine (i_HalfOf _ _).mono ?_; rintro e w1 ⟨rfl, rfl⟩)
        | (go_at_call 51; refine (CI.out _ HR.out HA.out HO.out).mono ?_; rintro e w1 ⟨rfl, hb1, T1, c1, ys, hA1, hO1, hy1⟩; have B1 := hide hb1; have A1 := hide hA1; have O1 := hide hO1; have Y1 := hide hy1; have cx1 : w1.cell? (ad.add m) = some (.string x) := (hb1.cell (p := ad.add m) (by rw [block_add]; omega)).trans cx; clear hb1 hA1 hO1 hy1 cx)
        | (go_at_call 58; refine (i_fnode wd F h1 h32 x y hlr T1 c1 ys (by have := Y1.out; omega) _ A1.out O1.out).mono ?_; rintro e w2 ⟨rfl, hb2, T2, c2, hA2, hO2⟩; have B2 := hide hb2; have A2 := hide hA2; have O2 := hide hO2; clear hb2 hA2 hO2))
      all_goals
        go_ret
        refine ⟨rfl, B1.out.trans B2.out, T2, c2, ys ++ [x ++ y], ?_, ?_, ?_⟩
        · rw [List.length_append]; exact A2.out
        · rw [List.length_append]; exact O2.out
        · have := Y1.out
          rw [List.length_append]
          simp; omega
end Go.Proofs.Ytjjkpieokknhiaa

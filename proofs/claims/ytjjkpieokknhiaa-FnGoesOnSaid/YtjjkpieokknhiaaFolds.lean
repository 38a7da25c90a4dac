/-
  The walk of the folder's two roots: by induction on the size; RootsBy and CheckBetween where they take.
-/
import Derived.Test.YtjjkpieokknhiaaFoldRoot
import Derived.Test.YtjjkpieokknhiaaCons
namespace Go.Proofs.Ytjjkpieokknhiaa
set_option linter.unusedVariables false
open Go.RowKit

def foldsW (wd m : Nat) (r : ByteArray) (n : Nat) (ps : List ByteArray) (q : Bool) : ByteArray × ByteArray := foldsT (nodeT wd) (emptyT wd) m r n ps q
theorem last_size {em : ByteArray} {wd : Nat} (he : em.size = wd) {ps : List ByteArray} (h : ∀ s ∈ ps, s.size = wd) : (ps.getLastD em).size = wd := by
  rcases List.eq_nil_or_concat ps with rfl | ⟨u, x, rfl⟩
  · exact he
  · simp only [List.concat_eq_append, List.getLastD_concat]; exact h x (by simp)
theorem foldsA_size {nd : ByteArray → ByteArray → ByteArray} {em : ByteArray} {wd : Nat} (hn : ∀ l r, (nd l r).size = wd) (he : em.size = wd) : ∀ (f m : Nat) (r : ByteArray) (n : Nat) (ps : List ByteArray) (q : Bool), r.size = wd → (∀ s ∈ ps, s.size = wd) → (foldsA nd em f m r n ps q).1.size = wd ∧ (foldsA nd em f m r n ps q).2.size = wd
  | 0, m, r, n, ps, q, h, hp => by
    unfold foldsA
    split
    · exact ⟨h, h⟩
    · exact ⟨last_size he hp, last_size he hp⟩
  | f + 1, m, r, n, ps, q, h, hp => by
    unfold foldsA
    split
    · split
      · exact ⟨h, h⟩
      · exact ⟨last_size he hp, last_size he hp⟩
    · split
      · exact ⟨(foldsA_size hn he f m r (halfOf n) ps.dropLast q h (fun s hs => hp s ((List.dropLast_sublist _).mem hs))).1, hn _ _⟩
      · exact ⟨hn _ _, hn _ _⟩
theorem foldsW_size {wd : Nat} (h32 : wd ≤ 32) (m : Nat) (r : ByteArray) (n : Nat) (ps : List ByteArray) (q : Bool) (h : r.size = wd) (hp : ∀ s ∈ ps, s.size = wd) : (foldsW wd m r n ps q).1.size = wd ∧ (foldsW wd m r n ps q).2.size = wd := foldsA_size (fun l r => nodeT_size wd l r h32) (emptyT_size wd h32) _ _ _ _ _ _ h hp
set_option maxRecDepth 100000 in
set_option maxHeartbeats 2000000 in
theorem i_froots (wd F : Nat) (h1 : 1 ≤ wd) (h32 : wd ≤ 32) : ∀ (N n m : Nat) (q : Bool) (r : ByteArray) (ps : List ByteArray) (A : Option Addr) (c L H : Nat) (T : Option Addr) (ct : Nat) (xs : List ByteArray) (w : World),
    n ≤ N → 0 < m → m ≤ n → n ≤ 512 → ps.length = between m n q → r.size = wd → (∀ s ∈ ps, s.size = wd) → ps.length ≤ c → c ≤ maxLen → Rd w L H A (strs ps) → H ≤ F → xs.length + 2 * ps.length ≤ 1000000 →
    Arr w F 72 [.int .i64 (wd : Int), .slice T xs.length ct] → Own w (F + 1) w.heap.size 9 (.slice T xs.length ct) (strs xs) →
    Calls Try.prog 52 #[.pointer (some ⟨F, 0, none⟩), .int .i64 (m : Int), .string r, .int .i64 (n : Int), .slice A ps.length c, .bool q] w fun e w' => e = .returned (.tuple #[.string (foldsW wd m r n ps q).1, .string (foldsW wd m r n ps q).2]) ∧ Below F w w' ∧ ∃ T' c' ys, Arr w' F 72 [.int .i64 (wd : Int), .slice T' ys.length c'] ∧ Own w' (F + 1) w'.heap.size 9 (.slice T' ys.length c') (strs ys) ∧ ys.length ≤ xs.length + 2 * ps.length := by
  intro N
  induction N with
  | zero => intro n m q r ps A c L H T ct xs w hN h0 hmn; omega
  | succ N IH =>
    intro n m q r ps A c L H T ct xs w hN h0 hmn h512 hps hrs hm hc hc2 hR hHF hxs hA hO
    have HR := hide hR
    have HA := hide hA
    have HO := hide hO
    clear hR hA hO
    by_cases hsm : m = n
    · subst hsm
      have e0 := foldsT_same (nodeT wd) (emptyT wd) (r := r) (ps := ps) (q := q) h0
      have hps2 := hps
      rw [between_same h0] at hps2
      have e1 : foldsW wd m r m ps q = if q then (r, r) else (ps.getLastD (emptyT wd), ps.getLastD (emptyT wd)) := e0
      rw [e1]
      clear IH e0 e1 hps
      cases q
      · obtain ⟨x, rfl⟩ : ∃ x, ps = [x] := List.length_eq_one_iff.1 hps2
        obtain ⟨ad, eA, -, -, hx⟩ := HR.out.at_ (k := 0) (by simp [strs])
        subst eA
        have hx1 : w.cell? (ad.add 0) = some (.string x) := by simpa [strs] using hx
        have hx0 : w.cell? ad = some (.string x) := hx1
        clear hx hps2 hx1 hm hc
        show Calls _ _ #[.pointer (some ⟨F, 0, none⟩), .int .i64 (m : Int), .string r, .int .i64 (m : Int), .slice (some ad) 1 c, .bool false] w fun e w' => e = .returned (.tuple #[.string x, .string x]) ∧ _
        go_enter Try.func52, Try.ntmps52
        go_wp2
        go_quiet (fail)
        go_wp2
        go_ret2
        exact ⟨rfl, bel_drewN (Below.refl _ _) _, T, ct, xs, HA.out.drewN _, HO.out.drewN _, by omega⟩
      · have gl : IntKind.i64.wrap ((ps.length : Int) - 1) = (ps.length : Int) - 1 := IntWalk.i64_in _ (by simp at hps2; omega)
        clear hps2 hm hc
        show Calls _ _ _ w fun e w' => e = .returned (.tuple #[.string r, .string r]) ∧ _
        go_enter Try.func52, Try.ntmps52
        go_wp2
        go_ret2
        exact ⟨rfl, Below.refl _ _, T, ct, xs, HA.out, HO.out, by omega⟩
    have hlm : m < n := by omega
    have hl2 : 2 ≤ n := by omega
    obtain ⟨k0, k1, k2⟩ := half_spec hl2
    have hk : halfI (n : Int) = (halfOf n : Int) := by simp [halfI]; omega
    have q1 : ((m : Int) == (n : Int)) = false := by simp only [beq_eq_false_iff_ne]; omega
    have hpos : 1 ≤ ps.length := by
      rw [hps]
      by_cases hle : m ≤ halfOf n
      · rw [between_left h0 hlm hle]; omega
      · rw [between_right h0 hlm hle]; omega
    obtain ⟨p, hpm⟩ : ∃ p, ps.length = p + 1 := ⟨ps.length - 1, by omega⟩
    obtain ⟨u, x, hq, hx, hql, hxm, hqs, epq⟩ := last_split (em := emptyT wd) hpm
    obtain ⟨ad, eA, l1, l2, cx⟩ := HR.out.at_ (k := p) (by rw [length_strs]; omega)
    rw [strs_get] at cx
    have ex : ps[p]'(by omega) = x := by
      subst hql
      simp [epq]
    rw [ex] at cx
    have hxs2 : x.size = wd := hm x hxm
    have ps5 : p + 1 ≤ 513 := by have := between_le n m q h0 hmn; omega
    unfold maxLen at hc2
    rw [hpm] at hc hps hxs ⊢
    obtain ⟨k, hkk⟩ : ∃ k, halfOf n = k := ⟨_, rfl⟩
    have gm : (p : Int) + 1 - 1 = (p : Int) := by omega
    have gw : IntKind.i64.wrap (p : Int) = (p : Int) := IntWalk.i64_in _ (by omega)
    have g1 : ¬ c < p := by omega
    clear hxm ex hpm
    by_cases hle : m ≤ halfOf n
    · rw [hkk] at hk k0 k1 k2
      obtain ⟨y1, hy1⟩ : ∃ y, (foldsW wd m r k u q).1 = y := ⟨_, rfl⟩
      obtain ⟨y2, hy2⟩ : ∃ y, (foldsW wd m r k u q).2 = y := ⟨_, rfl⟩
      have hsz := foldsW_size h32 m r k u q hrs (fun s hs => hm s (hqs s hs))
      rw [hy1, hy2] at hsz
      obtain ⟨sy1, sy2⟩ := hsz
      have eF : foldsW wd m r n ps q = (y1, nodeT wd y2 x) := by
        have := foldsT_left (nodeT wd) (emptyT wd) (r := r) (ps := ps) (q := q) h0 hlm hle
        rw [hkk, hq, hx] at this
        rw [← hy1, ← hy2]; exact this
      have hst : between m n q = between m k q + 1 := by have := between_left (q := q) h0 hlm hle; rwa [hkk] at this
      have CI := hide (show ∀ W, Rd W L H A (strs ps) → Arr W F 72 [.int .i64 (wd : Int), .slice T xs.length ct] → Own W (F + 1) W.heap.size 9 (.slice T xs.length ct) (strs xs) → Calls Try.prog 52 #[.pointer (some ⟨F, 0, none⟩), .int .i64 (m : Int), .string r, .int .i64 (k : Int), .slice A p c, .bool q] W fun e w' => e = .returned (.tuple #[.string y1, .string y2]) ∧ Below F W w' ∧ ∃ T' c' ys, Arr w' F 72 [.int .i64 (wd : Int), .slice T' ys.length c'] ∧ Own w' (F + 1) w'.heap.size 9 (.slice T' ys.length c') (strs ys) ∧ ys.length ≤ xs.length + 2 * p from fun W hW hAW hOW => by
        have := IH k m q r u A c L H T ct xs W (by omega) (by omega) (by omega) (by omega) (by omega) hrs (fun s hs => hm s (hqs s hs)) (by omega) hc2 (by have := hW.take p; rwa [epq, strs, ← List.map_take, List.take_left' hql] at this) hHF (by omega) hAW hOW
        rw [hql, hy1, hy2] at this
        exact this)
      rw [hkk] at hle
      rw [eF]
      clear IH eF hst hy1 hy2 hq hx hkk hqs hm hrs hql epq hps
      subst eA
      have g5 : (m : Int) ≤ k := by omega
      have hlr : y2.size + x.size ≤ 4000 := by omega
      have hl1 : x.size + y1.size ≤ 4000 := by omega
      have hl2' : x.size + y2.size ≤ 4000 := by omega
      clear sy1 sy2
      go_enter Try.func52, Try.ntmps52
      go_wp2_with (go_at_call 26; refine (i_HalfOf _ _).mono ?_; rintro e w1 ⟨rfl, rfl⟩)
      refine (CI.out _ HR.out HA.out HO.out).mono ?_
      rintro e w1 ⟨rfl, hb1, T1, c1, ys, hA1, hO1, hy1⟩
      have B1 := hide hb1
      have A1 := hide hA1
      have O1 := hide hO1
      have Y1 := hide hy1
      have cx1 : w1.cell? (ad.add p) = some (.string x) := (hb1.cell (p := ad.add p) (by rw [block_add]; omega)).trans cx
      clear hb1 hA1 hO1 hy1 cx
      go_wp2_with fail
      refine (i_fnode wd F h1 h32 y2 x hlr T1 c1 ys (by have := Y1.out; omega) _ A1.out O1.out).mono ?_
      rintro e w2 ⟨rfl, hb2, T2, c2, hA2, hO2⟩
      have B2 := hide (B1.out.trans hb2)
      have A2 := hide hA2
      have O2 := hide hO2
      clear hb2 hA2 hO2
      go_wp2
      all_goals
        go_ret2
        refine ⟨rfl, B2.out, T2, c2, ys ++ [y2 ++ x], ?_, ?_, ?_⟩
        · rw [List.length_append]; exact A2.out
        · rw [List.length_append]; exact O2.out
        · have := Y1.out
          simp only [List.length_append, List.length_singleton]
          omega
    · rw [hkk] at hk k0 k1 k2
      obtain ⟨y1, hy1⟩ : ∃ y, (foldsW wd (m - k) r (n - k) u false).1 = y := ⟨_, rfl⟩
      obtain ⟨y2, hy2⟩ : ∃ y, (foldsW wd (m - k) r (n - k) u false).2 = y := ⟨_, rfl⟩
      have hsz := foldsW_size h32 (m - k) r (n - k) u false hrs (fun s hs => hm s (hqs s hs))
      rw [hy1, hy2] at hsz
      obtain ⟨sy1, sy2⟩ := hsz
      have eF : foldsW wd m r n ps q = (nodeT wd x y1, nodeT wd x y2) := by
        have := foldsT_right (nodeT wd) (emptyT wd) (r := r) (ps := ps) (q := q) h0 hlm hle
        rw [hkk, hq, hx] at this
        rw [← hy1, ← hy2]; exact this
      have hst : between m n q = between (m - k) (n - k) false + 1 := by have := between_right (q := q) h0 hlm hle; rwa [hkk] at this
      have ea : ((m - k : Nat) : Int) = (m : Int) - k := by omega
      have en : ((n - k : Nat) : Int) = (n : Int) - k := by omega
      have g3 : IntKind.i64.wrap ((m : Int) - k) = (m : Int) - k := IntWalk.i64_in _ (by omega)
      have g4 : IntKind.i64.wrap ((n : Int) - k) = (n : Int) - k := IntWalk.i64_in _ (by omega)
      have CI := hide (show ∀ W, Rd W L H A (strs ps) → Arr W F 72 [.int .i64 (wd : Int), .slice T xs.length ct] → Own W (F + 1) W.heap.size 9 (.slice T xs.length ct) (strs xs) → Calls Try.prog 52 #[.pointer (some ⟨F, 0, none⟩), .int .i64 ((m : Int) - k), .string r, .int .i64 ((n : Int) - k), .slice A p c, .bool false] W fun e w' => e = .returned (.tuple #[.string y1, .string y2]) ∧ Below F W w' ∧ ∃ T' c' ys, Arr w' F 72 [.int .i64 (wd : Int), .slice T' ys.length c'] ∧ Own w' (F + 1) w'.heap.size 9 (.slice T' ys.length c') (strs ys) ∧ ys.length ≤ xs.length + 2 * p from fun W hW hAW hOW => by
        have := IH (n - k) (m - k) false r u A c L H T ct xs W (by omega) (by omega) (by omega) (by omega) (by omega) hrs (fun s hs => hm s (hqs s hs)) (by omega) hc2 (by have := hW.take p; rwa [epq, strs, ← List.map_take, List.take_left' hql] at this) hHF (by omega) hAW hOW
        rw [hql, hy1, hy2] at this
        rw [ea, en] at this
        exact this)
      rw [hkk] at hle
      rw [eF]
      clear IH eF hst hy1 hy2 hq hx hkk hqs hm hrs hql epq hps
      subst eA
      have g5 : (k : Int) < m := by omega
      have hlr : y2.size + x.size ≤ 4000 := by omega
      have hl1 : x.size + y1.size ≤ 4000 := by omega
      have hl2' : x.size + y2.size ≤ 4000 := by omega
      clear sy1 sy2
      go_enter Try.func52, Try.ntmps52
      go_wp2_with (go_at_call 26; refine (i_HalfOf _ _).mono ?_; rintro e w1 ⟨rfl, rfl⟩)
      refine (CI.out _ HR.out HA.out HO.out).mono ?_
      rintro e w1 ⟨rfl, hb1, T1, c1, ys, hA1, hO1, hy1⟩
      have B1 := hide hb1
      have A1 := hide hA1
      have O1 := hide hO1
      have Y1 := hide hy1
      have cx1 : w1.cell? (ad.add p) = some (.string x) := (hb1.cell (p := ad.add p) (by rw [block_add]; omega)).trans cx
      clear hb1 hA1 hO1 hy1 cx
      go_wp2_with fail
      refine (i_fnode wd F h1 h32 x y1 hl1 T1 c1 ys (by have := Y1.out; omega) _ A1.out O1.out).mono ?_
      rintro e w2 ⟨rfl, hb2, T2, c2, hA2, hO2⟩
      have B2 := hide (B1.out.trans hb2)
      have A2 := hide hA2
      have O2 := hide hO2
      have cx2 : w2.cell? (ad.add p) = some (.string x) := (hb2.cell (p := ad.add p) (by rw [block_add]; omega)).trans cx1
      clear cx1 hb2 hA2 hO2
      go_wp2_with fail
      have A2' := hide (show Arr w2 F 72 [.int .i64 (wd : Int), .slice T2 (ys ++ [x ++ y1]).length c2] from by rw [List.length_append]; exact A2.out)
      have O2' := hide (show Own w2 (F + 1) w2.heap.size 9 (.slice T2 (ys ++ [x ++ y1]).length c2) (strs (ys ++ [x ++ y1])) from by have := O2.out; rw [List.length_append]; exact this)
      refine (i_fnode wd F h1 h32 x y2 hl2' T2 c2 (ys ++ [x ++ y1]) (by have := Y1.out; rw [List.length_append]; simp; omega) _ A2'.out O2'.out).mono ?_
      rintro e w3 ⟨rfl, hb3, T3, c3, hA3, hO3⟩
      have B3 := hide (B2.out.trans hb3)
      have A3 := hide hA3
      have O3 := hide hO3
      clear hb3 hA3 hO3
      go_wp2
      all_goals
        go_ret2
        refine ⟨rfl, B3.out, T3, c3, ys ++ [x ++ y1] ++ [x ++ y2], ?_, ?_, ?_⟩
        · rw [List.length_append]; exact A3.out
        · rw [List.length_append]; exact O3.out
        · have := Y1.out
          simp only [List.length_append, List.length_singleton]
          omega
end Go.Proofs.Ytjjkpieokknhiaa

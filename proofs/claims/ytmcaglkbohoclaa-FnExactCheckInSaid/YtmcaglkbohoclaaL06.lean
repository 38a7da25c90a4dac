/-
  The walk of the reference's way from a leaf to the root, by induction on the size.
-/
import Derived.Test.YtmcaglkbohoclaaFoldRoot
namespace Go.Proofs.Ytmcaglkbohoclaa
set_option linter.unusedVariables false
open Go.RowKit

theorem infoStrL : (Try.prog.info? 9).map (fun i => (i.zero, i.size, i.bytes)) = some (some (.string ⟨#[]⟩), 1, 16) := by kernel_rfl
set_option maxRecDepth 100000 in
set_option maxHeartbeats 1000000 in
theorem s_l06In (wd : Nat) (h1 : 1 ≤ wd) (h32 : wd ≤ 32) : ∀ (N n a : Nat) (l : ByteArray) (ps : List ByteArray) (A : Option Addr) (c L H : Nat) (w : World),
    n ≤ N → a < n → n ≤ 512 → ps.length = stepsIn n a → l.size = wd → (∀ s ∈ ps, s.size = wd) → ps.length ≤ c → c ≤ maxLen → Rd w L H A (strs ps) →
    Calls Try.prog 30 #[.int .i64 (wd : Int), .int .i64 (n : Int), .int .i64 (a : Int), .string l, .slice A ps.length c] w fun e w' => ∃ T' c' ys, e = .returned (.agg #[.string ⟨#[]⟩, .string (foldW wd n a l ps), .slice T' ys.length c']) ∧ Below w.heap.size w w' ∧ Own w' w.heap.size w'.heap.size 9 (.slice T' ys.length c') (strs ys) ∧ ys.length ≤ ps.length := by
  intro N
  induction N with
  | zero => intro n a l ps A c L H w hN ha; omega
  | succ N IH =>
    intro n a l ps A c L H w hN ha h512 hps hls hm hc hc2 hR
    have HR := hide hR
    clear hR
    by_cases hn1 : n = 1
    · subst hn1
      have e0 : foldW wd 1 a l ps = l := foldT_small _ _ (Nat.le_refl _)
      rw [e0]
      clear IH hm e0
      show Calls _ _ #[.int .i64 (wd : Int), .int .i64 1, .int .i64 (a : Int), .string l, .slice A ps.length c] w _
      go_enter Try.func30, Try.ntmps30
      go_wp2_with fail
      refine bodyPost_ret (v := .agg #[.string ⟨#[]⟩, .string l, .slice none 0 0]) (by simp [results, Try.results30, go_sem]) rfl ⟨none, 0, [], rfl, ?_, Own.nil _ _ _ _, Nat.zero_le _⟩
      repeat (first | with_reducible exact Below.refl _ _ | with_reducible refine Below.setCell ?_ (by (try simp); (try omega)) _ | with_reducible refine Below.alloc ?_ (by (try simp); (try omega)) _)
    have hl2 : 2 ≤ n := by omega
    obtain ⟨k0, k1, k2⟩ := half_spec hl2
    have hk : halfI (n : Int) = (halfOf n : Int) := by simp [halfI]; omega
    have q1 : ¬ (n : Int) ≤ 1 := by omega
    have hpos : 1 ≤ ps.length := by
      rw [hps]
      by_cases hlt : a < halfOf n
      · rw [stepsIn_left hl2 hlt]; omega
      · rw [stepsIn_right hl2 hlt]; omega
    obtain ⟨m, hpm⟩ : ∃ m, ps.length = m + 1 := ⟨ps.length - 1, by omega⟩
    obtain ⟨q, x, hq, hx, hql, hxm, hqs, epq⟩ := last_split (em := emptyT wd) hpm
    obtain ⟨ad, eA, l1, l2, cx⟩ := HR.out.at_ (k := m) (by rw [length_strs]; omega)
    rw [strs_get] at cx
    have ex : ps[m]'(by omega) = x := by
      subst hql
      simp [epq]
    rw [ex] at cx
    have lad : ad.block < w.heap.size := by have := cell_lt cx; rwa [block_add] at this
    have hxs2 : x.size = wd := hm x hxm
    have ps5 : m + 1 ≤ 512 := by have := stepsIn_le n a; omega
    unfold maxLen at hc2
    rw [hpm] at hc hps ⊢
    obtain ⟨k, hkk⟩ : ∃ k, halfOf n = k := ⟨_, rfl⟩
    have gm : (m : Int) + 1 - 1 = (m : Int) := by omega
    have gw : IntKind.i64.wrap (m : Int) = (m : Int) := IntWalk.i64_in _ (by omega)
    have g0 : ((m : Int) + 1 == 0) = false := by simp only [beq_eq_false_iff_ne]; omega
    have g1 : ¬ c < m := by omega
    clear hxm ex hpm
    by_cases hlt : a < halfOf n
    · rw [hkk] at hk k0 k1 k2
      obtain ⟨y, hy⟩ : ∃ y, foldW wd k a l q = y := ⟨_, rfl⟩
      have hys : y.size = wd := hy ▸ foldW_size h32 _ _ _ _ hls
      have hlr : y.size + x.size ≤ 4000 := by omega
      have gs : ¬ 9223372036854775807 < y.size + x.size := by omega
      have eF : foldW wd n a l ps = nodeT wd y x := by
        have := foldT_left (nodeT wd) (emptyT wd) (l := l) (ps := ps) hl2 hlt
        rw [hkk, hq, hx] at this
        rw [← hy]; exact this
      have hst : stepsIn n a = stepsIn k a + 1 := by have := stepsIn_left hl2 hlt; rwa [hkk] at this
      have CI := hide (show ∀ W, Rd W L H A (strs ps) → Calls Try.prog 30 #[.int .i64 (wd : Int), .int .i64 (k : Int), .int .i64 (a : Int), .string l, .slice A m c] W fun e w' => ∃ T' c' ys, e = .returned (.agg #[.string ⟨#[]⟩, .string y, .slice T' ys.length c']) ∧ Below W.heap.size W w' ∧ Own w' W.heap.size w'.heap.size 9 (.slice T' ys.length c') (strs ys) ∧ ys.length ≤ m from fun W hW => by
        have := IH k a l q A c L H W (by omega) (by omega) (by omega) (by omega) hls (fun s hs => hm s (hqs s hs)) (by omega) hc2 (by have := hW.take m; rwa [epq, strs, ← List.map_take, List.take_left' hql] at this)
        rw [hql, hy] at this
        exact this)
      have CD := hide (show ∀ W, Calls Try.prog 49 #[.int .i64 (wd : Int), .int .i64 1, .string (y ++ x)] W fun e w' => e = .returned (.tuple #[.string (nodeT wd y x), .bool true]) ∧ Below W.heap.size W w' from s_Digest_in wd h1 h32 1 (by omega) (by omega) (y ++ x) (by simp; omega))
      rw [hkk] at hlt
      rw [eF]
      clear IH eF hst hy hq hx hkk hqs hm hls hql epq hps
      subst eA
      go_enter Try.func30, Try.ntmps30
      go_wp2_with (first
        | (go_at_call 48; refine (s_HalfOf _ _).mono ?_; rintro e w1 ⟨rfl, rfl⟩)
        | (go_at_call 30; refine (CI.out _ ((HR.out.alloc _).alloc _)).mono ?_; rintro e w1 ⟨T1, c1, ys, rfl, hb1, hO1, hy1⟩; have B1 := hide (bel_new (((Below.refl w.heap.size w).alloc (Nat.le_refl _) _).alloc (by simp) _) hb1 (by simp; omega)); have AR1 := hide (show Arr w1 (w.heap.size) 47 [.string ⟨#[]⟩, .string ⟨#[]⟩, .slice none 0 0] from ((Arr.new w [.string ⟨#[]⟩, .string ⟨#[]⟩, .slice none 0 0] _).alloc _).below hb1); have AV1 := hide (show Arr w1 (w.heap.size + 1) 47 [.string ⟨#[]⟩, .string ⟨#[]⟩, .slice none 0 0] from (Arr.new_ (by simp) [.string ⟨#[]⟩, .string ⟨#[]⟩, .slice none 0 0] _).below hb1); have O1 := hide hO1; have Y1 := hide hy1; have S1 := hide hb1.size; clear hb1 hO1 hy1; have Vw10 : w1.cell? ⟨w.heap.size + 1, 0, none⟩ = some (.string ⟨#[]⟩) := AV1.out.cell (k := 0) (by simp); have Vw1t0 : w1.frozen? ⟨w.heap.size + 1, 0, none⟩ = false := AV1.out.free 0; have Vw11 : w1.cell? ⟨w.heap.size + 1, 1, none⟩ = some (.string ⟨#[]⟩) := AV1.out.cell (k := 1) (by simp); have Vw1t1 : w1.frozen? ⟨w.heap.size + 1, 1, none⟩ = false := AV1.out.free 1; have Vw12 : w1.cell? ⟨w.heap.size + 1, 2, none⟩ = some (.slice none 0 0) := AV1.out.cell (k := 2) (by simp); have Vw1t2 : w1.frozen? ⟨w.heap.size + 1, 2, none⟩ = false := AV1.out.free 2))
      obtain ⟨w2, hw2⟩ : ∃ w2, ((w1.setCell ⟨w.heap.size + 1, 0, none⟩ (.string ⟨#[]⟩)).setCell ⟨w.heap.size + 1, 1, none⟩ (.string y)).setCell ⟨w.heap.size + 1, 2, none⟩ (.slice T1 ys.length c1) = w2 := ⟨_, rfl⟩
      have AR2 := hide (show Arr w2 (w.heap.size) 47 [.string ⟨#[]⟩, .string ⟨#[]⟩, .slice none 0 0] from hw2 ▸ ((AR1.out.setCell (by simp) _).setCell (by simp) _).setCell (by simp) _)
      have AV2 := hide (show Arr w2 (w.heap.size + 1) 47 [.string ⟨#[]⟩, .string y, .slice T1 ys.length c1] from hw2 ▸ ((AV1.out.set_ 0 _).set_ 1 _).set_ 2 _)
      have B2 := hide (show Below (w.heap.size) w w2 from hw2 ▸ ((B1.out.setCell (by simp) _).setCell (by simp) _).setCell (by simp) _)
      have O2 := hide (show Own w2 (w.heap.size + 2) w2.heap.size 9 (.slice T1 ys.length c1) (strs ys) from hw2 ▸ ((((O1.out.wide (B' := w.heap.size + 2) (by simp) (Nat.le_refl _)).setCell (.inl (by simp)) _).setCell (.inl (by simp)) _).setCell (.inl (by simp)) _).top)
      have S2 : w.heap.size + 2 ≤ w2.heap.size := by have := S1.out; rw [← hw2]; simp at this ⊢; omega
      rw [hw2]
      clear B1 AR1 AV1 O1 S1 hw2 Vw10 Vw11 Vw12 Vw1t0 Vw1t1 Vw1t2
      have cx2 : w2.cell? (ad.add m) = some (.string x) := (B2.out.cell (p := ad.add m) (by rw [block_add]; exact lad)).trans cx
      have f1 : w2.cell? ⟨w.heap.size + 1, 1, none⟩ = some (.string y) := AV2.out.cell (k := 1) (by simp)
      have f2 : w2.cell? ⟨w.heap.size + 1, 2, none⟩ = some (.slice T1 ys.length c1) := AV2.out.cell (k := 2) (by simp)
      go_quiet (fail)
      go_wp2_with (first
        | (at_builtin; refine wpList_app rfl _ _ _ rfl 9 (.string ⟨#[]⟩) 16 Try.underlying22 infoStrL rfl (w.heap.size + 2) _ (strs ys) rfl (((O2.out.drewN _).alloc _).top) ⟨w2.heap.size, 0, none⟩ 1 1 [.string (y ++ x)] rfl rfl ((Rd.made #[.string (y ++ x)] 9 _ rfl).cells) (by simp [Value.oneCell']) (by rw [length_strs]; have := Y1.out; omega) (by omega) (by simp; omega) ?_; intro v' w3 ho3 hb3 _; obtain ⟨T3, c3, rfl, ho4⟩ := ho3.shape; clear ho3; rw [show (strs ys ++ [Value.string (y ++ x)]).length = ys.length + 1 by rw [List.length_append, length_strs]; rfl] at ho4 ⊢; have B3 := hide (((bel_drewN B2.out _).alloc B2.out.size (.cells #[.string (y ++ x)] 9)).trans (hb3.mono (show w.heap.size ≤ w.heap.size + 2 by omega))); have AR3 := hide (((AR2.out.drewN _).alloc (.cells #[.string (y ++ x)] 9)).keep (hb3.block (w.heap.size) (by omega))); have AV3 := hide (((AV2.out.drewN _).alloc (.cells #[.string (y ++ x)] 9)).keep (hb3.block (w.heap.size + 1) (by omega))); have O3 := hide ho4; have S3 := hide hb3.size; clear ho4 hb3 f1 f2; have Vw30 : w3.cell? ⟨w.heap.size + 1, 0, none⟩ = some (.string ⟨#[]⟩) := AV3.out.cell (k := 0) (by simp); have Vw3t0 : w3.frozen? ⟨w.heap.size + 1, 0, none⟩ = false := AV3.out.free 0; have Vw31 : w3.cell? ⟨w.heap.size + 1, 1, none⟩ = some (.string y) := AV3.out.cell (k := 1) (by simp); have Vw3t1 : w3.frozen? ⟨w.heap.size + 1, 1, none⟩ = false := AV3.out.free 1; have Vw32 : w3.cell? ⟨w.heap.size + 1, 2, none⟩ = some (.slice T1 ys.length c1) := AV3.out.cell (k := 2) (by simp); have Vw3t2 : w3.frozen? ⟨w.heap.size + 1, 2, none⟩ = false := AV3.out.free 2)
        | (go_at_call 49; refine (CD.out _).mono ?_; rintro e w4 ⟨rfl, hb4⟩; have AR4 := hide ((AR3.out.setCell (p := ⟨w.heap.size + 1, 2, none⟩) (by simp) (.slice T3 (ys.length + 1) c3)).below hb4); have AV4 := hide (show Arr w4 (w.heap.size + 1) 47 [.string ⟨#[]⟩, .string y, .slice T3 (ys.length + 1) c3] from (AV3.out.set_ 2 (.slice T3 (ys.length + 1) c3)).below hb4); have B4 := hide (bel_new (B3.out.setCell (p := ⟨w.heap.size + 1, 2, none⟩) (by simp) (.slice T3 (ys.length + 1) c3)) hb4 (B3.out.setCell (p := ⟨w.heap.size + 1, 2, none⟩) (by simp) (.slice T3 (ys.length + 1) c3)).size); have O4 := hide ((O3.out.setCell (p := ⟨w.heap.size + 1, 2, none⟩) (.inl (by simp)) (.slice T3 (ys.length + 1) c3)).below hb4).top; clear hb4 Vw30 Vw31 Vw32 Vw3t0 Vw3t1 Vw3t2; have Vw40 : w4.cell? ⟨w.heap.size + 1, 0, none⟩ = some (.string ⟨#[]⟩) := AV4.out.cell (k := 0) (by simp); have Vw4t0 : w4.frozen? ⟨w.heap.size + 1, 0, none⟩ = false := AV4.out.free 0; have Vw41 : w4.cell? ⟨w.heap.size + 1, 1, none⟩ = some (.string y) := AV4.out.cell (k := 1) (by simp); have Vw4t1 : w4.frozen? ⟨w.heap.size + 1, 1, none⟩ = false := AV4.out.free 1; have Vw42 : w4.cell? ⟨w.heap.size + 1, 2, none⟩ = some (.slice T3 (ys.length + 1) c3) := AV4.out.cell (k := 2) (by simp); have Vw4t2 : w4.frozen? ⟨w.heap.size + 1, 2, none⟩ = false := AV4.out.free 2; have Rw40 : w4.cell? ⟨w.heap.size, 0, none⟩ = some (.string ⟨#[]⟩) := AR4.out.cell (k := 0) (by simp); have Rw4t0 : w4.frozen? ⟨w.heap.size, 0, none⟩ = false := AR4.out.free 0; have Rw41 : w4.cell? ⟨w.heap.size, 1, none⟩ = some (.string ⟨#[]⟩) := AR4.out.cell (k := 1) (by simp); have Rw4t1 : w4.frozen? ⟨w.heap.size, 1, none⟩ = false := AR4.out.free 1; have Rw42 : w4.cell? ⟨w.heap.size, 2, none⟩ = some (.slice none 0 0) := AR4.out.cell (k := 2) (by simp); have Rw4t2 : w4.frozen? ⟨w.heap.size, 2, none⟩ = false := AR4.out.free 2))
      obtain ⟨w5, hw5⟩ : ∃ w5, (((w4.setCell ⟨w.heap.size + 1, 1, none⟩ (.string (nodeT wd y x))).setCell ⟨w.heap.size, 0, none⟩ (.string ⟨#[]⟩)).setCell ⟨w.heap.size, 1, none⟩ (.string (nodeT wd y x))).setCell ⟨w.heap.size, 2, none⟩ (.slice T3 (ys.length + 1) c3) = w5 := ⟨_, rfl⟩
      have AR5 : Arr w5 (w.heap.size) 47 [.string ⟨#[]⟩, .string (nodeT wd y x), .slice T3 (ys.length + 1) c3] := hw5 ▸ (((AR4.out.setCell (by simp) _).set_ 0 _).set_ 1 _).set_ 2 _
      have B5 : Below (w.heap.size) w w5 := hw5 ▸ (((B4.out.setCell (by simp) _).setCell (by simp) _).setCell (by simp) _).setCell (by simp) _
      have O5 : Own w5 (w.heap.size) w5.heap.size 9 (.slice T3 (ys.length + 1) c3) (strs ys ++ [.string (y ++ x)]) := hw5 ▸ ((((((O4.out.setCell (.inl (by simp)) _).setCell (.inl (by simp)) _).setCell (.inl (by simp)) _).setCell (.inl (by simp)) _).wide (by omega) (Nat.le_refl _)).top)
      rw [hw5]
      clear hw5
      have u0 := AR5.cell (k := 0) (by simp)
      have u1 := AR5.cell (k := 1) (by simp)
      have u2 := AR5.cell (k := 2) (by simp)
      simp only [List.getElem_cons_zero, List.getElem_cons_succ] at u0 u1 u2
      have es : strs (ys ++ [(y ++ x)]) = strs ys ++ [.string (y ++ x)] := by simp [strs]
      have el : (ys ++ [(y ++ x)]).length = ys.length + 1 := by simp
      refine bodyPost_ret (v := .agg #[.string ⟨#[]⟩, .string (nodeT wd y x), .slice T3 (ys.length + 1) c3]) (by simp [results, Try.results30, go_sem, u0, u1, u2]) rfl ⟨T3, c3, ys ++ [(y ++ x)], ?_, B5, ?_, ?_⟩
      · rw [el]
      · rw [el, es]; exact O5
      · rw [el]; have := Y1.out; omega
    · rw [hkk] at hk k0 k1 k2
      obtain ⟨y, hy⟩ : ∃ y, foldW wd (n - k) (a - k) l q = y := ⟨_, rfl⟩
      have hys : y.size = wd := hy ▸ foldW_size h32 _ _ _ _ hls
      have hlr : x.size + y.size ≤ 4000 := by omega
      have gs : ¬ 9223372036854775807 < x.size + y.size := by omega
      have eF : foldW wd n a l ps = nodeT wd x y := by
        have := foldT_right (nodeT wd) (emptyT wd) (l := l) (ps := ps) hl2 hlt
        rw [hkk, hq, hx] at this
        rw [← hy]; exact this
      have hst : stepsIn n a = stepsIn (n - k) (a - k) + 1 := by have := stepsIn_right hl2 hlt; rwa [hkk] at this
      have ea : ((a - k : Nat) : Int) = (a : Int) - k := by omega
      have en : ((n - k : Nat) : Int) = (n : Int) - k := by omega
      have g3 : IntKind.i64.wrap ((a : Int) - k) = (a : Int) - k := IntWalk.i64_in _ (by omega)
      have g4 : IntKind.i64.wrap ((n : Int) - k) = (n : Int) - k := IntWalk.i64_in _ (by omega)
      have g5 : (k : Int) ≤ a := by omega
      have CI := hide (show ∀ W, Rd W L H A (strs ps) → Calls Try.prog 30 #[.int .i64 (wd : Int), .int .i64 ((n : Int) - k), .int .i64 ((a : Int) - k), .string l, .slice A m c] W fun e w' => ∃ T' c' ys, e = .returned (.agg #[.string ⟨#[]⟩, .string y, .slice T' ys.length c']) ∧ Below W.heap.size W w' ∧ Own w' W.heap.size w'.heap.size 9 (.slice T' ys.length c') (strs ys) ∧ ys.length ≤ m from fun W hW => by
        have := IH (n - k) (a - k) l q A c L H W (by omega) (by omega) (by omega) (by omega) hls (fun s hs => hm s (hqs s hs)) (by omega) hc2 (by have := hW.take m; rwa [epq, strs, ← List.map_take, List.take_left' hql] at this)
        rw [hql, hy] at this
        rw [ea, en] at this
        exact this)
      have CD := hide (show ∀ W, Calls Try.prog 49 #[.int .i64 (wd : Int), .int .i64 1, .string (x ++ y)] W fun e w' => e = .returned (.tuple #[.string (nodeT wd x y), .bool true]) ∧ Below W.heap.size W w' from s_Digest_in wd h1 h32 1 (by omega) (by omega) (x ++ y) (by simp; omega))
      rw [hkk] at hlt
      rw [eF]
      clear IH eF hst hy hq hx hkk hqs hm hls hql epq hps
      subst eA
      go_enter Try.func30, Try.ntmps30
      go_wp2_with (first
        | (go_at_call 48; refine (s_HalfOf _ _).mono ?_; rintro e w1 ⟨rfl, rfl⟩)
        | (go_at_call 30; refine (CI.out _ ((HR.out.alloc _).alloc _)).mono ?_; rintro e w1 ⟨T1, c1, ys, rfl, hb1, hO1, hy1⟩; have B1 := hide (bel_new (((Below.refl w.heap.size w).alloc (Nat.le_refl _) _).alloc (by simp) _) hb1 (by simp; omega)); have AR1 := hide (show Arr w1 (w.heap.size) 47 [.string ⟨#[]⟩, .string ⟨#[]⟩, .slice none 0 0] from ((Arr.new w [.string ⟨#[]⟩, .string ⟨#[]⟩, .slice none 0 0] _).alloc _).below hb1); have AV1 := hide (show Arr w1 (w.heap.size + 1) 47 [.string ⟨#[]⟩, .string ⟨#[]⟩, .slice none 0 0] from (Arr.new_ (by simp) [.string ⟨#[]⟩, .string ⟨#[]⟩, .slice none 0 0] _).below hb1); have O1 := hide hO1; have Y1 := hide hy1; have S1 := hide hb1.size; clear hb1 hO1 hy1; have Vw10 : w1.cell? ⟨w.heap.size + 1, 0, none⟩ = some (.string ⟨#[]⟩) := AV1.out.cell (k := 0) (by simp); have Vw1t0 : w1.frozen? ⟨w.heap.size + 1, 0, none⟩ = false := AV1.out.free 0; have Vw11 : w1.cell? ⟨w.heap.size + 1, 1, none⟩ = some (.string ⟨#[]⟩) := AV1.out.cell (k := 1) (by simp); have Vw1t1 : w1.frozen? ⟨w.heap.size + 1, 1, none⟩ = false := AV1.out.free 1; have Vw12 : w1.cell? ⟨w.heap.size + 1, 2, none⟩ = some (.slice none 0 0) := AV1.out.cell (k := 2) (by simp); have Vw1t2 : w1.frozen? ⟨w.heap.size + 1, 2, none⟩ = false := AV1.out.free 2))
      obtain ⟨w2, hw2⟩ : ∃ w2, ((w1.setCell ⟨w.heap.size + 1, 0, none⟩ (.string ⟨#[]⟩)).setCell ⟨w.heap.size + 1, 1, none⟩ (.string y)).setCell ⟨w.heap.size + 1, 2, none⟩ (.slice T1 ys.length c1) = w2 := ⟨_, rfl⟩
      have AR2 := hide (show Arr w2 (w.heap.size) 47 [.string ⟨#[]⟩, .string ⟨#[]⟩, .slice none 0 0] from hw2 ▸ ((AR1.out.setCell (by simp) _).setCell (by simp) _).setCell (by simp) _)
      have AV2 := hide (show Arr w2 (w.heap.size + 1) 47 [.string ⟨#[]⟩, .string y, .slice T1 ys.length c1] from hw2 ▸ ((AV1.out.set_ 0 _).set_ 1 _).set_ 2 _)
      have B2 := hide (show Below (w.heap.size) w w2 from hw2 ▸ ((B1.out.setCell (by simp) _).setCell (by simp) _).setCell (by simp) _)
      have O2 := hide (show Own w2 (w.heap.size + 2) w2.heap.size 9 (.slice T1 ys.length c1) (strs ys) from hw2 ▸ ((((O1.out.wide (B' := w.heap.size + 2) (by simp) (Nat.le_refl _)).setCell (.inl (by simp)) _).setCell (.inl (by simp)) _).setCell (.inl (by simp)) _).top)
      have S2 : w.heap.size + 2 ≤ w2.heap.size := by have := S1.out; rw [← hw2]; simp at this ⊢; omega
      rw [hw2]
      clear B1 AR1 AV1 O1 S1 hw2 Vw10 Vw11 Vw12 Vw1t0 Vw1t1 Vw1t2
      have cx2 : w2.cell? (ad.add m) = some (.string x) := (B2.out.cell (p := ad.add m) (by rw [block_add]; exact lad)).trans cx
      have f1 : w2.cell? ⟨w.heap.size + 1, 1, none⟩ = some (.string y) := AV2.out.cell (k := 1) (by simp)
      have f2 : w2.cell? ⟨w.heap.size + 1, 2, none⟩ = some (.slice T1 ys.length c1) := AV2.out.cell (k := 2) (by simp)
      go_quiet (fail)
      go_wp2_with (first
        | (at_builtin; refine wpList_app rfl _ _ _ rfl 9 (.string ⟨#[]⟩) 16 Try.underlying22 infoStrL rfl (w.heap.size + 2) _ (strs ys) rfl (((O2.out.drewN _).alloc _).top) ⟨w2.heap.size, 0, none⟩ 1 1 [.string (x ++ y)] rfl rfl ((Rd.made #[.string (x ++ y)] 9 _ rfl).cells) (by simp [Value.oneCell']) (by rw [length_strs]; have := Y1.out; omega) (by omega) (by simp; omega) ?_; intro v' w3 ho3 hb3 _; obtain ⟨T3, c3, rfl, ho4⟩ := ho3.shape; clear ho3; rw [show (strs ys ++ [Value.string (x ++ y)]).length = ys.length + 1 by rw [List.length_append, length_strs]; rfl] at ho4 ⊢; have B3 := hide (((bel_drewN B2.out _).alloc B2.out.size (.cells #[.string (x ++ y)] 9)).trans (hb3.mono (show w.heap.size ≤ w.heap.size + 2 by omega))); have AR3 := hide (((AR2.out.drewN _).alloc (.cells #[.string (x ++ y)] 9)).keep (hb3.block (w.heap.size) (by omega))); have AV3 := hide (((AV2.out.drewN _).alloc (.cells #[.string (x ++ y)] 9)).keep (hb3.block (w.heap.size + 1) (by omega))); have O3 := hide ho4; have S3 := hide hb3.size; clear ho4 hb3 f1 f2; have Vw30 : w3.cell? ⟨w.heap.size + 1, 0, none⟩ = some (.string ⟨#[]⟩) := AV3.out.cell (k := 0) (by simp); have Vw3t0 : w3.frozen? ⟨w.heap.size + 1, 0, none⟩ = false := AV3.out.free 0; have Vw31 : w3.cell? ⟨w.heap.size + 1, 1, none⟩ = some (.string y) := AV3.out.cell (k := 1) (by simp); have Vw3t1 : w3.frozen? ⟨w.heap.size + 1, 1, none⟩ = false := AV3.out.free 1; have Vw32 : w3.cell? ⟨w.heap.size + 1, 2, none⟩ = some (.slice T1 ys.length c1) := AV3.out.cell (k := 2) (by simp); have Vw3t2 : w3.frozen? ⟨w.heap.size + 1, 2, none⟩ = false := AV3.out.free 2)
        | (go_at_call 49; refine (CD.out _).mono ?_; rintro e w4 ⟨rfl, hb4⟩; have AR4 := hide ((AR3.out.setCell (p := ⟨w.heap.size + 1, 2, none⟩) (by simp) (.slice T3 (ys.length + 1) c3)).below hb4); have AV4 := hide (show Arr w4 (w.heap.size + 1) 47 [.string ⟨#[]⟩, .string y, .slice T3 (ys.length + 1) c3] from (AV3.out.set_ 2 (.slice T3 (ys.length + 1) c3)).below hb4); have B4 := hide (bel_new (B3.out.setCell (p := ⟨w.heap.size + 1, 2, none⟩) (by simp) (.slice T3 (ys.length + 1) c3)) hb4 (B3.out.setCell (p := ⟨w.heap.size + 1, 2, none⟩) (by simp) (.slice T3 (ys.length + 1) c3)).size); have O4 := hide ((O3.out.setCell (p := ⟨w.heap.size + 1, 2, none⟩) (.inl (by simp)) (.slice T3 (ys.length + 1) c3)).below hb4).top; clear hb4 Vw30 Vw31 Vw32 Vw3t0 Vw3t1 Vw3t2; have Vw40 : w4.cell? ⟨w.heap.size + 1, 0, none⟩ = some (.string ⟨#[]⟩) := AV4.out.cell (k := 0) (by simp); have Vw4t0 : w4.frozen? ⟨w.heap.size + 1, 0, none⟩ = false := AV4.out.free 0; have Vw41 : w4.cell? ⟨w.heap.size + 1, 1, none⟩ = some (.string y) := AV4.out.cell (k := 1) (by simp); have Vw4t1 : w4.frozen? ⟨w.heap.size + 1, 1, none⟩ = false := AV4.out.free 1; have Vw42 : w4.cell? ⟨w.heap.size + 1, 2, none⟩ = some (.slice T3 (ys.length + 1) c3) := AV4.out.cell (k := 2) (by simp); have Vw4t2 : w4.frozen? ⟨w.heap.size + 1, 2, none⟩ = false := AV4.out.free 2; have Rw40 : w4.cell? ⟨w.heap.size, 0, none⟩ = some (.string ⟨#[]⟩) := AR4.out.cell (k := 0) (by simp); have Rw4t0 : w4.frozen? ⟨w.heap.size, 0, none⟩ = false := AR4.out.free 0; have Rw41 : w4.cell? ⟨w.heap.size, 1, none⟩ = some (.string ⟨#[]⟩) := AR4.out.cell (k := 1) (by simp); have Rw4t1 : w4.frozen? ⟨w.heap.size, 1, none⟩ = false := AR4.out.free 1; have Rw42 : w4.cell? ⟨w.heap.size, 2, none⟩ = some (.slice none 0 0) := AR4.out.cell (k := 2) (by simp); have Rw4t2 : w4.frozen? ⟨w.heap.size, 2, none⟩ = false := AR4.out.free 2))
      obtain ⟨w5, hw5⟩ : ∃ w5, (((w4.setCell ⟨w.heap.size + 1, 1, none⟩ (.string (nodeT wd x y))).setCell ⟨w.heap.size, 0, none⟩ (.string ⟨#[]⟩)).setCell ⟨w.heap.size, 1, none⟩ (.string (nodeT wd x y))).setCell ⟨w.heap.size, 2, none⟩ (.slice T3 (ys.length + 1) c3) = w5 := ⟨_, rfl⟩
      have AR5 : Arr w5 (w.heap.size) 47 [.string ⟨#[]⟩, .string (nodeT wd x y), .slice T3 (ys.length + 1) c3] := hw5 ▸ (((AR4.out.setCell (by simp) _).set_ 0 _).set_ 1 _).set_ 2 _
      have B5 : Below (w.heap.size) w w5 := hw5 ▸ (((B4.out.setCell (by simp) _).setCell (by simp) _).setCell (by simp) _).setCell (by simp) _
      have O5 : Own w5 (w.heap.size) w5.heap.size 9 (.slice T3 (ys.length + 1) c3) (strs ys ++ [.string (x ++ y)]) := hw5 ▸ ((((((O4.out.setCell (.inl (by simp)) _).setCell (.inl (by simp)) _).setCell (.inl (by simp)) _).setCell (.inl (by simp)) _).wide (by omega) (Nat.le_refl _)).top)
      rw [hw5]
      clear hw5
      have u0 := AR5.cell (k := 0) (by simp)
      have u1 := AR5.cell (k := 1) (by simp)
      have u2 := AR5.cell (k := 2) (by simp)
      simp only [List.getElem_cons_zero, List.getElem_cons_succ] at u0 u1 u2
      have es : strs (ys ++ [(x ++ y)]) = strs ys ++ [.string (x ++ y)] := by simp [strs]
      have el : (ys ++ [(x ++ y)]).length = ys.length + 1 := by simp
      refine bodyPost_ret (v := .agg #[.string ⟨#[]⟩, .string (nodeT wd x y), .slice T3 (ys.length + 1) c3]) (by simp [results, Try.results30, go_sem, u0, u1, u2]) rfl ⟨T3, c3, ys ++ [(x ++ y)], ?_, B5, ?_, ?_⟩
      · rw [el]
      · rw [el, es]; exact O5
      · rw [el]; have := Y1.out; omega
end Go.Proofs.Ytmcaglkbohoclaa

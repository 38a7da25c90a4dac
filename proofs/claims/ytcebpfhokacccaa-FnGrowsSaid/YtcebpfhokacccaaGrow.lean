/-
  The walks of a range that grows.
-/
import Derived.Test.YtcebpfhokacccaaRootsR
import Derived.Test.YtcebpfhokacccaaGrowPlain
import Derived.Deep.Cut
import Derived.Deep.CutRange
namespace Go.Proofs.Ytcebpfhokacccaa
set_option linter.unusedVariables false
open Go.RowKit

theorem infoStrG : (Try.prog.info? 9).map (fun i => (i.zero, i.size, i.bytes)) = some (some (.string ⟨#[]⟩), 1, 16) := by kernel_rfl
theorem Own.take_ {w : World} {B C : Nat} {e : TypeId} {A : Option Addr} {n c : Nat} {xs : List Value} (h : Own w B C e (.slice A n c) xs) (k : Nat) (hk : k ≤ xs.length) : Own w B C e (.slice A k c) (xs.take k) := by
  rcases h.cases with ⟨h1, rfl⟩ | ⟨g, cap, cur, h1, h2, h3, h4, h5, h6, h7, h8, h9⟩
  · simp only [Value.slice.injEq] at h1
    obtain ⟨rfl, -, rfl⟩ := h1
    obtain rfl : k = 0 := by simpa using hk
    exact Own.nil _ _ _ _
  · simp only [Value.slice.injEq] at h1
    obtain ⟨rfl, -, rfl⟩ := h1
    have hl : (xs.take k).length = k := by rw [List.length_take]; omega
    have := Own.mk' (w := w) (B := B) (C := C) (e := e) (xs := xs.take k) (g := g) (cap := c) (cur := cur) h2 h3 h5 (by omega) h7 h8 (by rw [hl, ← h9, List.take_take]; congr 1; omega)
    rwa [hl] at this
theorem Own.cap_ {w : World} {B C : Nat} {e : TypeId} {A : Option Addr} {n c : Nat} {xs : List Value} (h : Own w B C e (.slice A n c) xs) : xs.length ≤ c ∧ c ≤ maxLen := by
  rcases h.cases with ⟨h1, rfl⟩ | ⟨g, cap, cur, h1, -, -, -, -, h2, h3, -, -⟩
  · simp only [Value.slice.injEq] at h1
    simp [h1.2.2]
  · simp only [Value.slice.injEq] at h1
    rw [h1.2.2]
    exact ⟨h2, h3⟩
theorem Own.ne_arr {w : World} {B C F : Nat} {e t : TypeId} {v : Value} {xs cs : List Value} (h : Own w B C e v xs) (ha : Arr w F t cs) (hte : e ≠ t) : some F ≠ v.ownBlock := by
  rcases h.cases with ⟨rfl, -⟩ | ⟨g, cap, cur, rfl, -, -, -, hh, -⟩
  · simp [Value.ownBlock]
  · intro e1
    simp [Value.ownBlock] at e1
    subst e1
    unfold Arr at ha
    rw [hh] at ha
    simp at ha
    exact hte ha.2
theorem Own.setF {w : World} {B C F : Nat} {e t : TypeId} {v : Value} {xs cs : List Value} (h : Own w B C e v xs) (ha : Arr w F t cs) (hte : e ≠ t) (k : Nat) (u : Value) : Own (w.setCell ⟨F, k, none⟩ u) B C e v xs := by
  have hne := h.ne_arr ha hte
  rcases h.cases with ⟨rfl, rfl⟩ | ⟨g, cap, cur, rfl, h1, h2, h3, h4, h5, h6, h7, h8⟩
  · exact Own.nil _ _ _ _
  · have hg : g ≠ F := fun e1 => hne (by simp [Value.ownBlock, e1])
    exact Own.mk' h1 h2 ((Below.heap_setCell _ _ _ _ (by intro e1; first | exact hg e1 | exact hg e1.symm)).trans h4) h5 h6 h7 h8
theorem strs_one_moreG (Q : List ByteArray) (x : ByteArray) : strs Q ++ [Value.string x] = strs (Q ++ [x]) := by simp [strs]
theorem strs_take (P : List ByteArray) (k : Nat) : (strs P).take k = strs (P.take k) := by simp [strs, List.map_take]
def growW (wd n : Nat) (P : List ByteArray) (x : ByteArray) : List ByteArray := growP (nodeT wd) (emptyT wd) n P x
def grownW (wd n : Nat) (P zs : List ByteArray) : List ByteArray := grown (nodeT wd) (emptyT wd) n P zs
set_option maxRecDepth 100000 in
set_option maxHeartbeats 4000000 in
theorem i_grow (wd F n B : Nat) (h1 : 1 ≤ wd) (h32 : wd ≤ 32) (P : List ByteArray) (x : ByteArray) (T : Option Addr) (c : Nat) (w : World) (hn : n + 1 ≤ 512) (hP : P.length = pl n) (hm : ∀ s ∈ P, s.size = wd) (hx : x.size = wd)
    (hB : B ≤ F) (hA : Arr w F 31 [.int .i64 (n : Int), .slice T P.length c]) (hO : Own w B w.heap.size 9 (.slice T P.length c) (strs P)) :
    Calls Try.prog 28 #[.pointer (some ⟨F, 0, none⟩), .int .i64 (wd : Int), .string x] w fun e w' => e = .returned (.int .i64 (ones 10 n : Int)) ∧ Below B w w' ∧ ∃ T' c', Arr w' F 31 [.int .i64 ((n + 1 : Nat) : Int), .slice T' (growW wd n P x).length c'] ∧ Own w' B w'.heap.size 9 (.slice T' (growW wd n P x).length c') (strs (growW wd n P x)) := by
  have hle := ones_pl hn
  have hob := ones_bound 10 n
  have hp10 : P.length ≤ 10 := by have := peaksI_len (n : Int); unfold peaksI at this; rw [if_pos ⟨by omega, by omega⟩, List.length_map, Int.toNat_natCast] at this; rw [hP]; exact this
  have HG := hide (show growW wd n P x = joins (nodeT wd) (emptyT wd) (ones 10 n) (P ++ [x]) from rfl)
  have R0 := hide (show Rem n (ones 10 n) from ⟨10, by omega, rfl⟩)
  have hm2 : ∀ s ∈ P ++ [x], s.size = wd := fun s hs => by
    rcases List.mem_append.1 hs with hs | hs
    · exact hm s hs
    · rw [List.mem_singleton.1 hs]; exact hx
  obtain ⟨t0, ht0⟩ : ∃ t, ones 10 n = t := ⟨_, rfl⟩
  obtain ⟨G, hG⟩ : ∃ G, growW wd n P x = G := ⟨_, rfl⟩
  have L0 := hide (show t0 + 1 ≤ (P ++ [x]).length by rw [← ht0]; simp; omega)
  rw [ht0] at R0 HG hob ⊢
  rw [hG] at HG ⊢
  have AH := hide hA
  have OH := hide hO
  have lF := hA.lt
  have f0 : w.cell? ⟨F, 0, none⟩ = some (.int .i64 (n : Int)) := hA.cell (k := 0) (by simp)
  have f1 : w.cell? ⟨F, 1, none⟩ = some (.slice T P.length c) := hA.cell (k := 1) (by simp)
  have z1 := hA.free 1
  have M0 := hide hm2
  have el := hide (show (strs P ++ [Value.string x]).length = P.length + 1 by rw [List.length_append, length_strs]; rfl)
  have es := hide (show strs P ++ [Value.string x] = strs (P ++ [x]) by simp [strs])
  clear hA hO ht0 hG hle hP hm hm2 hx
  go_enter Try.func28, Try.ntmps28
  go_wp2_with (at_builtin; refine wpList_app rfl _ _ _ rfl 9 (.string ⟨#[]⟩) 16 Try.underlying24 infoStrG rfl B _ (strs P) rfl ((OH.out.alloc _).top) ⟨w.heap.size, 0, none⟩ 1 1 [.string x] rfl rfl ((Rd.made #[.string x] 9 _ rfl).cells) (by simp [Value.oneCell']) (by rw [length_strs]; omega) (by omega) (by simp; omega) ?_; intro v' w3 ho3 hb3 hg3; obtain ⟨T3, c3, rfl, ho4⟩ := ho3.shape; clear ho3; rw [el.out, es.out] at ho4; rw [el.out]; have A3 := hide ((AH.out.alloc (.cells #[.string x] 9)).keep (hg3.block F (by simp; omega) (OH.out.ne_arr AH.out (by decide)))); have O3 := hide ho4; have B3 := hide (((Below.refl B w).alloc (by omega) (.cells #[.string x] 9)).trans hb3); clear ho4 hb3 hg3 f0 f1; have f0 : w3.cell? ⟨F, 0, none⟩ = some (.int .i64 (n : Int)) := A3.out.cell (k := 0) (by simp); have f1 : w3.cell? ⟨F, 1, none⟩ = some (.slice T P.length c) := A3.out.cell (k := 1) (by simp); have f2 := A3.out.free 1)
  have hlp := hide (show P.length + 1 = (P ++ [x]).length by simp)
  go_loopw [7, 8, 9, 10] (fun made size u9 u10 wr => ∃ (t s : Nat) (Q : List ByteArray) (T : Option Addr) (c : Nat), made = .int .i64 ((t0 : Int) - t) ∧ size = .int .i64 (s : Int) ∧ t ≤ t0 ∧ s ≤ 512 ∧ Hid (Rem s t) ∧ Hid (joins (nodeT wd) (emptyT wd) t Q = G) ∧ Hid (∀ s ∈ Q, s.size = wd) ∧ t + 1 ≤ Q.length ∧ Q.length ≤ 11 ∧ Below B w wr ∧ Arr wr F 31 [.int .i64 (n : Int), .slice T Q.length c] ∧ Own wr B wr.heap.size 9 (.slice T Q.length c) (strs Q)) (fun _ size _ _ _ => (intOf size).toNat)
  case atStart =>
    refine ⟨t0, n, P ++ [x], T3, c3, by congr 1; omega, rfl, Nat.le_refl _, by omega, R0, hide HG.out.symm, M0, L0.out, by rw [← hlp.out]; omega, B3.out.setCell hB _, ?_, ?_⟩
    · rw [← hlp.out]; exact A3.out.set_ 1 _
    · rw [← hlp.out]; exact (O3.out.setF A3.out (by decide) 1 _).top
  case round =>
    obtain ⟨t, s, Q, T, c, rfl, rfl, ht, hs5, hr, hj, hq, hl1, hl2, hb, ha, ho⟩ := hrel
    have BR := hide hb
    have AR := hide ha
    have OR := hide ho
    clear hb ha ho f0 f1 f2 z1
    have lF' := AR.out.lt
    have f0 : wr.cell? ⟨F, 0, none⟩ = some (.int .i64 (n : Int)) := AR.out.cell (k := 0) (by simp)
    have f1 : wr.cell? ⟨F, 1, none⟩ = some (.slice T Q.length c) := AR.out.cell (k := 1) (by simp)
    by_cases hodd : s % 2 = 1
    · obtain ⟨t', rfl, hr'⟩ := hr.out.odd hodd
      obtain ⟨q, hq2⟩ : ∃ q, Q.length = q + 2 := ⟨Q.length - 2, by omega⟩
      obtain ⟨U, a, b, rfl, hU⟩ := two_last hq2
      have hsa : a.size = wd := hq.out a (by simp)
      have hsb : b.size = wd := hq.out b (by simp)
      have hab : a.size + b.size ≤ 4000 := by omega
      have J' := hide (show joins (nodeT wd) (emptyT wd) t' (U ++ [nodeT wd a b]) = G from by rw [← hj.out]; show _ = joins _ _ t' (join1 _ _ _); rw [join1_two])
      have M' := hide (show ∀ s ∈ U ++ [nodeT wd a b], s.size = wd from fun s hs => by
        rcases List.mem_append.1 hs with hs | hs
        · exact hq.out s (List.mem_append_left _ hs)
        · rw [List.mem_singleton.1 hs]; exact nodeT_size wd _ _ h32)
      have LU := hide (show (U ++ [nodeT wd a b]).length = q + 1 by simp [hU])
      have HR' := hide hr'
      rw [hq2] at hl1 hl2 AR OR f1
      have hgl : (strs (U ++ [a, b])).length = q + 2 := by rw [length_strs, hq2]
      obtain ⟨g, rfl, gl, -, glt, ca, -⟩ := OR.out.at2 (k := q) (by omega)
      obtain ⟨-, -, -, cb, -⟩ := OR.out.at3 (k := q + 1) (by omega)
      rw [strs_get] at ca cb
      have ea : (U ++ [a, b])[q]'(by simp [hU]) = a := by subst hU; simp
      have eb : (U ++ [a, b])[q + 1]'(by simp [hU]) = b := by subst hU; simp
      rw [ea] at ca
      rw [eb] at cb
      have OT := hide (show Own wr B wr.heap.size 9 (.slice (some ⟨g, 0, none⟩) q c) (strs U) from by
        have := OR.out.take_ q (by omega)
        rwa [strs_take, List.take_left' hU] at this)
      have capq : q ≤ c := by have := OR.out.cap_.1; omega
      have OU := hide (show (strs U).length = q by rw [length_strs, hU])
      clear hq hj hr hr' hsa hsb hq2 hU hgl ea eb OR
      have w1 : (q : Int) + 2 - 2 = (q : Int) := by omega
      have w2 : IntKind.i64.wrap (q : Int) = (q : Int) := IntWalk.i64_in _ (by omega)
      have w3' : (q : Int) + 2 - 1 = (q : Int) + 1 := by omega
      have w4 : IntKind.i64.wrap ((q : Int) + 1) = (q : Int) + 1 := IntWalk.i64_in _ (by omega)
      have so : (s : Int) % 2 = 1 := by omega
      have sq := hide (show (s : Int) / 2 = ((s / 2 : Nat) : Int) by omega)
      have gcq : ¬ c < q := by omega
      go_wp2_with fail
      refine wp_region_held_drew (S := fun w' => Below wr.heap.size wr w') (by kernel_rfl) (below_drew (Below.refl _ _)) (fun hHeld => ?_)
      refine take_first 0 35 (.int .i64 (wd : Int)) rfl (by kernel_rfl) (by kernel_rfl) (by kernel_rfl) (fun _ _ _ h => h) rfl (yieldsIf_move rfl _ rfl rfl) hHeld ?_
      simp only [Act.put, List.setIfInBounds_toArray, List.set_cons_zero, List.set_cons_succ]
      refine take_first 1 36 (.pointer (some ⟨F, 0, none⟩)) rfl (by kernel_rfl) (by kernel_rfl) (by kernel_rfl) (fun _ _ _ h => h) rfl (yieldsIf_move rfl _ rfl rfl) hHeld ?_
      simp only [Act.put, List.setIfInBounds_toArray, List.set_cons_zero, List.set_cons_succ]
      refine take_first 2 37 (.pointer (some ⟨F, 0, none⟩)) rfl (by kernel_rfl) (by kernel_rfl) (by kernel_rfl) (fun _ _ _ h => h) rfl (.inl ⟨by rfl, fun w' hw' => by go_simp⟩) hHeld ?_
      simp only [Act.put, List.setIfInBounds_toArray, List.set_cons_zero, List.set_cons_succ]
      refine take_first 3 38 (.pointer (some ⟨F, 1, none⟩)) rfl (by kernel_rfl) (by kernel_rfl) (by kernel_rfl) (fun _ _ _ h => h) rfl (.inl ⟨by rfl, fun w' hw' => by go_simp⟩) hHeld ?_
      simp only [Act.put, List.setIfInBounds_toArray, List.set_cons_zero, List.set_cons_succ]
      refine take_first 4 39 (.slice (some ⟨g, 0, none⟩) (q + 2) c) rfl (by kernel_rfl) (by kernel_rfl) (by kernel_rfl) (fun _ _ _ h => h) rfl (.inl ⟨by rfl, fun w' hw' => by have cc := (Below.cell hw' lF').trans f1; go_simp⟩) hHeld ?_
      simp only [Act.put, List.setIfInBounds_toArray, List.set_cons_zero, List.set_cons_succ]
      refine take_first 5 40 (.int .i64 ((q : Int) + 2)) rfl (by kernel_rfl) (by kernel_rfl) (by kernel_rfl) (fun _ _ _ h => h) rfl (yieldsIf_move rfl _ rfl rfl) hHeld ?_
      simp only [Act.put, List.setIfInBounds_toArray, List.set_cons_zero, List.set_cons_succ]
      refine take_first 6 41 (.int .i64 (q : Int)) rfl (by kernel_rfl) (by kernel_rfl) (by kernel_rfl) (fun _ _ _ h => h) rfl (.inl ⟨by rfl, fun w' hw' => by go_simp⟩) hHeld ?_
      simp only [Act.put, List.setIfInBounds_toArray, List.set_cons_zero, List.set_cons_succ]
      refine take_first 7 42 (.pointer (some ⟨g, q, none⟩)) rfl (by kernel_rfl) (by kernel_rfl) (by kernel_rfl) (fun _ _ _ h => h) rfl (.inl ⟨by rfl, fun w' hw' => by go_simp; intro hh; exfalso; omega⟩) hHeld ?_
      simp only [Act.put, List.setIfInBounds_toArray, List.set_cons_zero, List.set_cons_succ]
      refine take_first 8 43 (.string a) rfl (by kernel_rfl) (by kernel_rfl) (by kernel_rfl) (fun _ _ _ h => h) rfl (.inl ⟨by rfl, fun w' hw' => by have cc := (Below.cell hw' glt).trans ca; go_simp⟩) hHeld ?_
      simp only [Act.put, List.setIfInBounds_toArray, List.set_cons_zero, List.set_cons_succ]
      refine take_first 9 44 (.pointer (some ⟨F, 0, none⟩)) rfl (by kernel_rfl) (by kernel_rfl) (by kernel_rfl) (fun _ _ _ h => h) rfl (yieldsIf_move rfl _ rfl rfl) hHeld ?_
      simp only [Act.put, List.setIfInBounds_toArray, List.set_cons_zero, List.set_cons_succ]
      refine take_first 10 45 (.pointer (some ⟨F, 0, none⟩)) rfl (by kernel_rfl) (by kernel_rfl) (by kernel_rfl) (fun _ _ _ h => h) rfl (.inl ⟨by rfl, fun w' hw' => by go_simp⟩) hHeld ?_
      simp only [Act.put, List.setIfInBounds_toArray, List.set_cons_zero, List.set_cons_succ]
      refine take_first 11 46 (.pointer (some ⟨F, 1, none⟩)) rfl (by kernel_rfl) (by kernel_rfl) (by kernel_rfl) (fun _ _ _ h => h) rfl (.inl ⟨by rfl, fun w' hw' => by go_simp⟩) hHeld ?_
      simp only [Act.put, List.setIfInBounds_toArray, List.set_cons_zero, List.set_cons_succ]
      refine take_first 12 47 (.slice (some ⟨g, 0, none⟩) (q + 2) c) rfl (by kernel_rfl) (by kernel_rfl) (by kernel_rfl) (fun _ _ _ h => h) rfl (.inl ⟨by rfl, fun w' hw' => by have cc := (Below.cell hw' lF').trans f1; go_simp⟩) hHeld ?_
      simp only [Act.put, List.setIfInBounds_toArray, List.set_cons_zero, List.set_cons_succ]
      refine take_first 13 48 (.int .i64 ((q : Int) + 2)) rfl (by kernel_rfl) (by kernel_rfl) (by kernel_rfl) (fun _ _ _ h => h) rfl (yieldsIf_move rfl _ rfl rfl) hHeld ?_
      simp only [Act.put, List.setIfInBounds_toArray, List.set_cons_zero, List.set_cons_succ]
      refine take_first 14 49 (.int .i64 ((q : Int) + 1)) rfl (by kernel_rfl) (by kernel_rfl) (by kernel_rfl) (fun _ _ _ h => h) rfl (.inl ⟨by rfl, fun w' hw' => by go_simp⟩) hHeld ?_
      simp only [Act.put, List.setIfInBounds_toArray, List.set_cons_zero, List.set_cons_succ]
      refine take_first 15 50 (.pointer (some ⟨g, q + 1, none⟩)) rfl (by kernel_rfl) (by kernel_rfl) (by kernel_rfl) (fun _ _ _ h => h) rfl (.inl ⟨by rfl, fun w' hw' => by go_simp; intro hh; exfalso; omega⟩) hHeld ?_
      simp only [Act.put, List.setIfInBounds_toArray, List.set_cons_zero, List.set_cons_succ]
      refine take_first 16 51 (.string b) rfl (by kernel_rfl) (by kernel_rfl) (by kernel_rfl) (fun _ _ _ h => h) rfl (.inl ⟨by rfl, fun w' hw' => by have cc := (Below.cell hw' glt).trans cb; go_simp⟩) hHeld ?_
      simp only [Act.put, List.setIfInBounds_toArray, List.set_cons_zero, List.set_cons_succ]
      refine wpAnyH_ready (rs := [17]) (by kernel_rfl) (by simp) (AllReadyH.cons rfl (fun K hK => ?_) AllReadyH.nil)
      go_simp
      refine (i_node wd h1 h32 a b hab _).mono ?_
      rintro e w5 ⟨rfl, hb5⟩
      dsimp only
      have S5 := hide (bel_new hHeld hb5 hHeld.size)
      clear hb5 hHeld
      refine hK.out _ _ (S5.out) (fun hHeld => ?_)
      clear hK K
      refine take_first 18 10 (.string (nodeT wd a b)) rfl (by kernel_rfl) (by kernel_rfl) (by kernel_rfl) (fun _ _ _ h => h) rfl (.inl ⟨by rfl, fun w' hw' => by go_simp⟩) hHeld ?_
      simp only [Act.put, List.setIfInBounds_toArray, List.set_cons_zero, List.set_cons_succ]
      refine wpAnyH_done (by kernel_rfl) ?_ _
      obtain ⟨y, hy⟩ : ∃ y, nodeT wd a b = y := ⟨_, rfl⟩
      rw [hy] at J' M' LU ⊢
      have A5 := hide (AR.out.below S5.out)
      have lF5 := A5.out.lt
      have O5 := hide ((OT.out.below S5.out).top)
      have B5 := hide (BR.out.trans (S5.out.mono (show B ≤ wr.heap.size by omega)))
      clear f0 f1 ca cb AR OT BR
      have g0 : w5.cell? ⟨F, 0, none⟩ = some (.int .i64 (n : Int)) := A5.out.cell (k := 0) (by simp)
      have g1 : w5.cell? ⟨F, 1, none⟩ = some (.slice (some ⟨g, 0, none⟩) (q + 2) c) := A5.out.cell (k := 1) (by simp)
      go_wp2_with (at_builtin; refine wpList_app rfl _ _ _ rfl 9 (.string ⟨#[]⟩) 16 Try.underlying24 infoStrG rfl B _ (strs U) rfl ((O5.out.alloc _).top) ⟨w5.heap.size, 0, none⟩ 1 1 [.string y] rfl rfl ((Rd.made #[.string y] 9 _ rfl).cells) (by simp [Value.oneCell']) (by rw [OU.out]; omega) (by omega) (by simp; omega) ?_; intro v' w6 ho6 hb6 hg6; obtain ⟨T6, c6, rfl, ho7⟩ := ho6.shape; clear ho6; rw [strs_one_moreG, length_strs] at ho7; rw [strs_one_moreG, length_strs]; have A6 := hide ((A5.out.alloc (.cells #[.string y] 9)).keep (hg6.block F (by simp; omega) (O5.out.ne_arr A5.out (by decide)))); have O6 := hide ho7; have B6 := hide (((B5.out).alloc (by omega) (.cells #[.string y] 9)).trans hb6); clear ho7 hb6 hg6 g0 g1; have f0 : w6.cell? ⟨F, 0, none⟩ = some (.int .i64 (n : Int)) := A6.out.cell (k := 0) (by simp); have f1 : w6.cell? ⟨F, 1, none⟩ = some (.slice (some ⟨g, 0, none⟩) (q + 2) c) := A6.out.cell (k := 1) (by simp); have f2 := A6.out.free 1)
      go_roundw
      case rel =>
        have ls := LU.out
        have lU : U.length + 1 = q + 1 := by rw [List.length_append] at ls; simpa using ls
        refine ⟨t', s / 2, U ++ [y], T6, c6, by congr 1; omega, by first | rfl | (congr 1; exact sq.out), by omega, by omega, HR', J', M', by omega, by omega, B6.out.setCell hB _, ?_, ?_⟩
        · have e : (U ++ [y]).length = U.length + 1 := by simp
          rw [e]
          exact A6.out.set_ 1 _
        · have e : (U ++ [y]).length = U.length + 1 := by simp
          have o := O6.out
          rw [e] at o ⊢
          exact (o.setF A6.out (by decide) 1 _).top
      case measure => simp [intOf]; omega
    · obtain rfl := hr.out.even hodd
      have so : ((s : Int) % 2 == 1) = false := by simp only [beq_eq_false_iff_ne]; omega
      have z0 := AR.out.free 0
      have gn : IntKind.i64.wrap ((n : Int) + 1) = (n : Int) + 1 := IntWalk.i64_in _ (by omega)
      obtain rfl : Q = G := hj.out
      go_wp2
      go_ret
      refine ⟨ret_int (by omega), BR.out.setCell hB _, T, c, ?_, (OR.out.setF AR.out (by decide) 0 _).top⟩
      have := AR.out.set_ 0 (.int .i64 ((n : Int) + 1))
      simpa using this
end Go.Proofs.Ytcebpfhokacccaa

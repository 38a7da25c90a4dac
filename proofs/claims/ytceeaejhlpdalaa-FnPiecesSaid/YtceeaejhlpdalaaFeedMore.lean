/-
  The walks of FeedMore, the program's and the reference's.
-/
import Derived.Test.YtceeaejhlpdalaaFeedEnd
namespace Go.Proofs.Ytceeaejhlpdalaa
set_option linter.unusedVariables false
open Go.RowKit

/-- FeedMore. -/
def moreOk (a b : Int) (n : Nat) (r : ByteArray) (d : Int) (x : ByteArray) : Bool := feedOk a b n r d && decide ((x.size : Int) ≤ 4000 - d)
def moreSt (ok : Bool) (zs : List Int) (t : ByteArray) : List Int := if ok then mixT zs t else []
def moreR (ok : Bool) (t : ByteArray) : ByteArray := if ok then t.extract (t.size / 64 * 64) t.size else ⟨#[]⟩
def moreN (ok : Bool) (x : Int) : Int := if ok then x else 0
theorem wpList_array {P : Program} {ops : Array Oper} {rest : List Oper} {o : Oper} {a : Act} {w : World} {Q : Exit → Act → World → Prop} (hgd : o.guard = none) (ty : TypeId) (x : Operand) (ho : o.op = .sliceToArrayPointer ty x)
    (p : Option Addr) (len cap n : Nat) (e : TypeId) (hx : a.eval x = .slice p len cap) (hu : P.underlying ty = some (.array n e)) (hl : n ≤ len) (hp : 0 < n)
    (h : wpList P ops Q rest (a.put o.dst (.pointer p)) w) : wpList P ops Q (o :: rest) a w :=
  wpList_plain hgd fun _ hK => by
    unfold Oper.wp execOp
    simp only [ho, hx, Sem.run_bind, Sem.run_pure, Result.andThen_ok, run_arrayAt hu p len cap hl hp w]
    exact hK _ _ h
set_option maxRecDepth 100000 in
set_option maxHeartbeats 2000000 in
theorem i_FeedMore_in (a b : Int) (zs : List Int) (A : Option Addr) (c B C : Nat) (r : ByteArray) (d : Int) (x : ByteArray) (hz : zs.length = 8) (hd0 : 0 ≤ d) (hd : d ≤ 4000) (hr : r.size ≤ 64) (hx : (x.size : Int) ≤ 4000 - d) (hok : feedOk a b 8 r d = true) (w : World) (h : Own w B C 47 (.slice A 8 c) (ints .u32 zs)) :
    Calls Try.prog 13 #[.agg #[.int .i64 a, .int .i64 b, .slice A 8 c, .string r, .int .i64 d], .string x] w fun e w' => ∃ A' c', e = .returned (.tuple #[.agg #[.int .i64 a, .int .i64 b, .slice A' 8 c', .string ((r ++ x).extract ((r ++ x).size / 64 * 64) (r ++ x).size), .int .i64 (d + x.size)], .bool true]) ∧ Below w.heap.size w w' ∧ Own w' w.heap.size w'.heap.size 47 (.slice A' 8 c') (ints .u32 (mixT zs (r ++ x))) := by
  obtain ⟨g, rfl, -⟩ := h.at2 (k := 0) (by rw [length_ints, hz]; decide)
  have lg0 := (h.at3 (k := 0) (by rw [length_ints, hz]; decide)).2.2.1
  have R0 := hide h.range
  have i1 := hide (show (Try.prog.info? 49).map (·.size) = some (ints .u32 zs).length by rw [length_ints, hz]; exact info_chain)
  have gs : ¬ 9223372036854775807 < r.size + x.size := by omega
  have g2 : (r ++ x).size ≤ 1099511627776 := by simp; omega
  obtain ⟨T, hT⟩ : ∃ T, r ++ x = T := ⟨_, rfl⟩
  rw [hT] at g2 ⊢
  have CM := hide (i_mixAll zs hz T g2)
  obtain ⟨M, hM⟩ : ∃ M, mixT zs T = M := ⟨_, rfl⟩
  have HM := hide (show M.length = 8 by rw [← hM]; exact length_mixT _ _ hz)
  rw [hM] at CM ⊢
  clear hM h hz
  obtain ⟨q, hq⟩ : ∃ q, T.size / 64 * 64 = q := ⟨_, rfl⟩
  have e1 : ((T.size : Int) - (T.size : Int) % 64).toNat = q := by omega
  have q0 : 0 ≤ (T.size : Int) - (T.size : Int) % 64 := by omega
  have q1 : (T.size : Int) - (T.size : Int) % 64 ≤ T.size := by omega
  rw [hq]
  clear hq
  have dx : decide (4000 - d < (x.size : Int)) = false := by simp; omega
  have i3 := hide (show (Try.prog.info? 49).map (·.size) = some (ints .u32 M).length by rw [length_ints, HM.out]; exact info_chain)
  have i4 := hide (show ([.int .u32 0, .int .u32 0, .int .u32 0, .int .u32 0, .int .u32 0, .int .u32 0, .int .u32 0, .int .u32 0] : List Value).length = (ints .u32 M).length by rw [length_ints, HM.out]; rfl)
  go_enter Try.func13, Try.ntmps13
  go_wp2_with fail
  refine (i_FeedOk a b _ 8 c r d _).mono ?_
  rintro e w1 ⟨rfl, hw1⟩
  have A1 := hide (show Arr w1 w.heap.size 35 [.int .i64 a, .int .i64 b, .slice (some ⟨g, 0, none⟩) 8 c, .string r, .int .i64 d] from hw1 ▸ ((Arr.new w _ _).alloc _).alloc _)
  have Z1 := hide (show Arr w1 (w.heap.size + 1) 35 [.int .i64 0, .int .i64 0, .slice none 0 0, .string ⟨#[]⟩, .int .i64 0] from hw1 ▸ (Arr.new_ (by simp) _ _).alloc _)
  have B1 := hide (show Below w.heap.size w w1 from hw1 ▸ (((Below.refl _ _).alloc (Nat.le_refl _) _).alloc (by simp) _).alloc (by simp; omega) _)
  clear hw1
  have c2 := A1.out.cell (k := 2) (by simp)
  have c3 := A1.out.cell (k := 3) (by simp)
  have c4 := A1.out.cell (k := 4) (by simp)
  simp only [List.getElem_cons_zero, List.getElem_cons_succ] at c2 c3 c4
  have R1 := hide (range_below R0.out lg0 B1.out)
  go_wp2_with (first
    | (refine wpList_array rfl 49 (.tmp 25) rfl (some ⟨g, 0, none⟩) 8 c 8 47 rfl Try.underlying49 (by omega) (by omega) ?_)
    | (refine wpList_load_mid rfl 49 (.tmp 26) rfl g 0 rfl (ints .u32 zs) _ R1.out Try.underlying49 rfl i1.out ?_)
    | (go_at_call 23; refine (CM.out _).mono ?_; rintro e w2 ⟨rfl, hb2⟩; have A2 := hide (A1.out.below hb2); have Z2 := hide (Z1.out.below hb2); have B2 := hide (bel_new B1.out hb2 B1.out.size); clear hb2 c2 c3 c4)
    | (refine wpList_store_arr rfl 49 (.tmp 7) (.tmp 29) rfl w2.heap.size (ints .u32 M) rfl rfl 49 _ (Arr.new w2 [.int .u32 0, .int .u32 0, .int .u32 0, .int .u32 0, .int .u32 0, .int .u32 0, .int .u32 0, .int .u32 0] 49) i3.out i4.out (ints_one .u32 M) ?_; have A3 := hide ((A2.out.alloc (.cells #[.int .u32 0, .int .u32 0, .int .u32 0, .int .u32 0, .int .u32 0, .int .u32 0, .int .u32 0, .int .u32 0] 49)).setRow_other (M := w2.heap.size) (Nat.ne_of_lt A2.out.lt) (ints .u32 M).toArray); have Z3 := hide ((Z2.out.alloc (.cells #[.int .u32 0, .int .u32 0, .int .u32 0, .int .u32 0, .int .u32 0, .int .u32 0, .int .u32 0, .int .u32 0] 49)).setRow_other (M := w2.heap.size) (Nat.ne_of_lt Z2.out.lt) (ints .u32 M).toArray); have S3 := hide (Arr.setRow (Arr.new w2 [.int .u32 0, .int .u32 0, .int .u32 0, .int .u32 0, .int .u32 0, .int .u32 0, .int .u32 0, .int .u32 0] 49) (ints .u32 M)); have B3 := hide (below_setRow (B2.out.alloc B2.out.size (.cells #[.int .u32 0, .int .u32 0, .int .u32 0, .int .u32 0, .int .u32 0, .int .u32 0, .int .u32 0, .int .u32 0] 49)) B2.out.size (ints .u32 M).toArray); obtain ⟨w3, hw3⟩ : ∃ w3, (w2.alloc (.cells #[.int .u32 0, .int .u32 0, .int .u32 0, .int .u32 0, .int .u32 0, .int .u32 0, .int .u32 0, .int .u32 0] 49)).setRow w2.heap.size (ints .u32 M).toArray = w3 := ⟨_, rfl⟩; rw [hw3] at B3 ⊢; replace A3 := hide (show Arr w3 w.heap.size 35 [.int .i64 a, .int .i64 b, .slice (some ⟨g, 0, none⟩) 8 c, .string r, .int .i64 d] by rw [← hw3]; exact A3.out); replace Z3 := hide (show Arr w3 (w.heap.size + 1) 35 [.int .i64 0, .int .i64 0, .slice none 0 0, .string ⟨#[]⟩, .int .i64 0] by rw [← hw3]; exact Z3.out); replace S3 := hide (show Arr w3 w2.heap.size 49 (ints .u32 M) by rw [← hw3]; exact S3.out); clear hw3; have c3 : w3.cell? ⟨w.heap.size, 3, none⟩ = some (.string r) := A3.out.cell (k := 3) (by simp); have f3 := A3.out.free 3)
    | (go_at_call 30; refine (c_Clone8 M HM.out _ _ _ (S3.out.setCell (p := ⟨w.heap.size, 3, none⟩) (Nat.ne_of_lt A2.out.lt) _)).mono ?_; rintro e w4 ⟨v, rfl, hb4, ho4⟩; obtain ⟨A', c', rfl, ho5⟩ := ho4.shape; rw [show (ints .u32 M).length = 8 by rw [length_ints, HM.out]] at ho5 ⊢; have O4 := hide ho5; have S4 := hide hb4.size; have A4 := hide ((A3.out.set_ 3 (.string (T.extract q T.size))).below hb4); have Z4 := hide ((Z3.out.setCell (p := ⟨w.heap.size, 3, none⟩) (by simp) (.string (T.extract q T.size))).below hb4); have B4 := hide (bel_new (B3.out.setCell (p := ⟨w.heap.size, 3, none⟩) (Nat.le_refl _) (.string (T.extract q T.size))) hb4 (by have := B3.out.size; simpa [World.setCell] using this)); clear hb4 ho4 ho5 c3 f3; have d0 : w4.cell? ⟨w.heap.size, 0, none⟩ = some (.int .i64 a) := A4.out.cell (k := 0) (by simp); have d1 : w4.cell? ⟨w.heap.size, 1, none⟩ = some (.int .i64 b) := A4.out.cell (k := 1) (by simp); have d2 : w4.cell? ⟨w.heap.size, 2, none⟩ = some (.slice (some ⟨g, 0, none⟩) 8 c) := A4.out.cell (k := 2) (by simp); have d3 : w4.cell? ⟨w.heap.size, 3, none⟩ = some (.string (T.extract q T.size)) := A4.out.cell (k := 3) (by simp); have d4 : w4.cell? ⟨w.heap.size, 4, none⟩ = some (.int .i64 d) := A4.out.cell (k := 4) (by simp); have g2' := A4.out.free 2; have g4' := A4.out.free 4; have r0 : w4.cell? ⟨w.heap.size + 1, 0, none⟩ = some (.int .i64 0) := Z4.out.cell (k := 0) (by simp); have r1 : w4.cell? ⟨w.heap.size + 1, 1, none⟩ = some (.int .i64 0) := Z4.out.cell (k := 1) (by simp); have r2 : w4.cell? ⟨w.heap.size + 1, 2, none⟩ = some (.slice none 0 0) := Z4.out.cell (k := 2) (by simp); have r3 : w4.cell? ⟨w.heap.size + 1, 3, none⟩ = some (.string ⟨#[]⟩) := Z4.out.cell (k := 3) (by simp); have r4 : w4.cell? ⟨w.heap.size + 1, 4, none⟩ = some (.int .i64 0) := Z4.out.cell (k := 4) (by simp); have t0 := Z4.out.free 0; have t1 := Z4.out.free 1; have t2 := Z4.out.free 2; have t3 := Z4.out.free 3; have t4 := Z4.out.free 4))
  have Z5 := hide (((((((Z4.out.setCell (p := ⟨w.heap.size, 2, none⟩) (by simp) (.slice A' 8 c')).setCell (p := ⟨w.heap.size, 4, none⟩) (by simp) (.int .i64 (d + x.size))).set_ 0 (.int .i64 a)).set_ 1 (.int .i64 b)).set_ 2 (.slice A' 8 c')).set_ 3 (.string (T.extract q T.size))).set_ 4 (.int .i64 (d + x.size)))
  have B5 : Below w.heap.size w (((((((w4.setCell ⟨w.heap.size, 2, none⟩ (.slice A' 8 c')).setCell ⟨w.heap.size, 4, none⟩ (.int .i64 (d + x.size))).setCell ⟨w.heap.size + 1, 0, none⟩ (.int .i64 a)).setCell ⟨w.heap.size + 1, 1, none⟩ (.int .i64 b)).setCell ⟨w.heap.size + 1, 2, none⟩ (.slice A' 8 c')).setCell ⟨w.heap.size + 1, 3, none⟩ (.string (T.extract q T.size))).setCell ⟨w.heap.size + 1, 4, none⟩ (.int .i64 (d + x.size))) := by
    repeat (first | with_reducible exact B4.out | with_reducible refine Below.setCell ?_ (by (try simp); (try omega)) _)
  have O5 : Own (((((((w4.setCell ⟨w.heap.size, 2, none⟩ (.slice A' 8 c')).setCell ⟨w.heap.size, 4, none⟩ (.int .i64 (d + x.size))).setCell ⟨w.heap.size + 1, 0, none⟩ (.int .i64 a)).setCell ⟨w.heap.size + 1, 1, none⟩ (.int .i64 b)).setCell ⟨w.heap.size + 1, 2, none⟩ (.slice A' 8 c')).setCell ⟨w.heap.size + 1, 3, none⟩ (.string (T.extract q T.size))).setCell ⟨w.heap.size + 1, 4, none⟩ (.int .i64 (d + x.size))) (w3.setCell ⟨w.heap.size, 3, none⟩ (.string (T.extract q T.size))).heap.size w4.heap.size 47 (.slice A' 8 c') (ints .u32 M) := by
    have l0 := A3.out.lt
    have l1 := Z3.out.lt
    repeat (first | with_reducible exact O4.out | with_reducible refine Own.setCell ?_ (.inl (by (try simp); (try omega))) _)
  have s5 : w4.heap.size = (((((((w4.setCell ⟨w.heap.size, 2, none⟩ (.slice A' 8 c')).setCell ⟨w.heap.size, 4, none⟩ (.int .i64 (d + x.size))).setCell ⟨w.heap.size + 1, 0, none⟩ (.int .i64 a)).setCell ⟨w.heap.size + 1, 1, none⟩ (.int .i64 b)).setCell ⟨w.heap.size + 1, 2, none⟩ (.slice A' 8 c')).setCell ⟨w.heap.size + 1, 3, none⟩ (.string (T.extract q T.size))).setCell ⟨w.heap.size + 1, 4, none⟩ (.int .i64 (d + x.size))).heap.size := by simp
  obtain ⟨w5, hw5⟩ : ∃ w5, (((((((w4.setCell ⟨w.heap.size, 2, none⟩ (.slice A' 8 c')).setCell ⟨w.heap.size, 4, none⟩ (.int .i64 (d + x.size))).setCell ⟨w.heap.size + 1, 0, none⟩ (.int .i64 a)).setCell ⟨w.heap.size + 1, 1, none⟩ (.int .i64 b)).setCell ⟨w.heap.size + 1, 2, none⟩ (.slice A' 8 c')).setCell ⟨w.heap.size + 1, 3, none⟩ (.string (T.extract q T.size))).setCell ⟨w.heap.size + 1, 4, none⟩ (.int .i64 (d + x.size))) = w5 := ⟨_, rfl⟩
  rw [hw5] at Z5 B5 O5 s5 ⊢
  clear hw5
  have u0 : w5.cell? ⟨w.heap.size + 1, 0, none⟩ = some (.int .i64 a) := Z5.out.cell (k := 0) (by simp)
  have u1 : w5.cell? ⟨w.heap.size + 1, 1, none⟩ = some (.int .i64 b) := Z5.out.cell (k := 1) (by simp)
  have u2 : w5.cell? ⟨w.heap.size + 1, 2, none⟩ = some (.slice A' 8 c') := Z5.out.cell (k := 2) (by simp)
  have u3 : w5.cell? ⟨w.heap.size + 1, 3, none⟩ = some (.string (T.extract q T.size)) := Z5.out.cell (k := 3) (by simp)
  have u4 : w5.cell? ⟨w.heap.size + 1, 4, none⟩ = some (.int .i64 (d + x.size)) := Z5.out.cell (k := 4) (by simp)
  refine bodyPost_ret (v := .tuple #[.agg #[.int .i64 a, .int .i64 b, .slice A' 8 c', .string (T.extract q T.size), .int .i64 (d + x.size)], .bool true]) (by simp [results, Try.results13, go_sem, u0, u1, u2, u3, u4]) rfl ⟨A', c', rfl, ?_, ?_⟩
  · exact B5
  · have l0 := B3.out.size
    refine Own.wide O5 ?_ (by omega)
    simpa using l0
set_option maxRecDepth 100000 in
theorem i_FeedMore (a b : Int) (zs : List Int) (A : Option Addr) (c B C : Nat) (r : ByteArray) (d : Int) (x : ByteArray) (w : World) (h : Own w B C 47 (.slice A zs.length c) (ints .u32 zs)) :
    Calls Try.prog 13 #[.agg #[.int .i64 a, .int .i64 b, .slice A zs.length c, .string r, .int .i64 d], .string x] w fun e w' => ∃ A' c', e = .returned (.tuple #[.agg #[.int .i64 (moreN (moreOk a b zs.length r d x) a), .int .i64 (moreN (moreOk a b zs.length r d x) b), .slice A' (moreSt (moreOk a b zs.length r d x) zs (r ++ x)).length c', .string (moreR (moreOk a b zs.length r d x) (r ++ x)), .int .i64 (moreN (moreOk a b zs.length r d x) (d + x.size))], .bool (moreOk a b zs.length r d x)]) ∧ Below w.heap.size w w' ∧ Own w' w.heap.size w'.heap.size 47 (.slice A' (moreSt (moreOk a b zs.length r d x) zs (r ++ x)).length c') (ints .u32 (moreSt (moreOk a b zs.length r d x) zs (r ++ x))) := by
  cases hk : feedOk a b zs.length r d
  · have e0 : moreOk a b zs.length r d x = false := by simp [moreOk, hk]
    rw [e0]
    clear e0 h
    show Calls _ _ _ _ fun e w' => ∃ A' c', e = .returned (.tuple #[.agg #[.int .i64 0, .int .i64 0, .slice A' 0 c', .string ⟨#[]⟩, .int .i64 0], .bool false]) ∧ _ ∧ Own w' w.heap.size w'.heap.size 47 (.slice A' 0 c') (ints .u32 [])
    go_enter Try.func13, Try.ntmps13
    go_wp2_with (go_at_call 15; refine (i_FeedOk a b _ zs.length c r d _).mono ?_; rintro e w1 ⟨rfl, rfl⟩)
    refine bodyPost_ret (v := .tuple #[.agg #[.int .i64 0, .int .i64 0, .slice none 0 0, .string ⟨#[]⟩, .int .i64 0], .bool false]) (by simp [results, Try.results13, go_sem]) rfl ⟨none, 0, rfl, ?_, Own.nil _ _ _ _⟩
    repeat (first | with_reducible exact Below.refl _ _ | with_reducible refine Below.setCell ?_ (by (try simp); (try omega)) _ | with_reducible refine Below.alloc ?_ (by (try simp); (try omega)) _)
  · obtain ⟨-, -, h3, h4, h5⟩ := feedOk_spec hk
    by_cases hx : (x.size : Int) ≤ 4000 - d
    · have e0 : moreOk a b zs.length r d x = true := by simp [moreOk, hk, hx]
      rw [e0]
      have L : (mixT zs (r ++ x)).length = 8 := length_mixT _ _ h3
      rw [h3] at h hk ⊢
      show Calls _ _ _ _ fun e w' => ∃ A' c', e = .returned (.tuple #[.agg #[.int .i64 a, .int .i64 b, .slice A' (mixT zs (r ++ x)).length c', .string ((r ++ x).extract ((r ++ x).size / 64 * 64) (r ++ x).size), .int .i64 (d + x.size)], .bool true]) ∧ _ ∧ Own w' w.heap.size w'.heap.size 47 (.slice A' (mixT zs (r ++ x)).length c') (ints .u32 (mixT zs (r ++ x)))
      rw [L]
      exact i_FeedMore_in a b zs A c B C r d x h3 h4.1 h4.2 (by omega) hx hk w h
    · have e0 : moreOk a b zs.length r d x = false := by simp [moreOk, hk, hx]
      rw [e0]
      clear e0 h
      show Calls _ _ _ _ fun e w' => ∃ A' c', e = .returned (.tuple #[.agg #[.int .i64 0, .int .i64 0, .slice A' 0 c', .string ⟨#[]⟩, .int .i64 0], .bool false]) ∧ _ ∧ Own w' w.heap.size w'.heap.size 47 (.slice A' 0 c') (ints .u32 [])
      obtain ⟨g1, g2⟩ := h4
      clear h3 h5
      have dx : decide (4000 - d < (x.size : Int)) = true := by simp; omega
      go_enter Try.func13, Try.ntmps13
      go_wp2_with (go_at_call 15; refine (i_FeedOk a b _ zs.length c r d _).mono ?_; rintro e w1 ⟨rfl, rfl⟩)
      refine bodyPost_ret (v := .tuple #[.agg #[.int .i64 0, .int .i64 0, .slice none 0 0, .string ⟨#[]⟩, .int .i64 0], .bool false]) (by simp [results, Try.results13, go_sem]) rfl ⟨none, 0, rfl, ?_, Own.nil _ _ _ _⟩
      repeat (first | with_reducible exact Below.refl _ _ | with_reducible refine Below.setCell ?_ (by (try simp); (try omega)) _ | with_reducible refine Below.alloc ?_ (by (try simp); (try omega)) _)
end Go.Proofs.Ytceeaejhlpdalaa

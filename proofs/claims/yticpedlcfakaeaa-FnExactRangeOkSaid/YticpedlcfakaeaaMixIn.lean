/-
  The walks of MixIn, the program's and the reference's.
-/
import Derived.Test.YticpedlcfakaeaaMix
import Derived.Deep.MidRow
import Derived.Deep.RegionHeld3
namespace Go.Proofs.Yticpedlcfakaeaa
set_option linter.unusedVariables false
open Go.RowKit

theorem Own.range {w : World} {B C : Nat} {e : TypeId} {g n c : Nat} {xs : List Value} (h : Own w B C e (.slice (some ⟨g, 0, none⟩) n c) xs) : w.rangeAt g 0 xs := fun j v hv => by
  obtain ⟨hj, rfl⟩ := List.getElem?_eq_some_iff.1 hv
  rw [Nat.zero_add]
  exact (h.at3 hj).2.2.2.1
theorem wpStill_load_mid {P : Program} {ops : Array Oper} {rest : List Oper} {o : Oper} {a : Act} {w : World} {Q : Act → Prop} (hgd : o.guard = none) (ty : TypeId) (x : Operand) (ho : o.op = .load ty x)
    (b off : Nat) (cs : List Value) (d : TypeDesc) (hx : a.eval x = .pointer (some ⟨b, off, none⟩)) (hc : w.rangeAt b off cs) (hu : P.underlying ty = some d) (hd : d.isRow = true)
    (hi : (P.info? ty).map (·.size) = some cs.length) (h : wpStill P ops w Q rest (a.put o.dst (.agg cs.toArray))) : wpStill P ops w Q (o :: rest) a := by
  refine wpStill_step fun K hK => ?_
  have hw : Region.wanted o (yielded ops a.tmps) = true := by simp [Region.wanted, hgd]
  rw [if_pos hw]
  unfold Oper.still execOp
  simp only [ho, hx, Instr.loadAt, Instr.sureAddr, Sem.run_bind, Sem.run_pure, Result.andThen_ok, run_loadVar_mid w b off ty cs d hc hu hd hi]
  exact ⟨rfl, hK _ h⟩
theorem run_arrayAt {P : Program} {T : TypeId} {n : Nat} {e : TypeId} (hu : P.underlying T = some (.array n e)) (a : Option Addr) (len cap : Nat) (h : n ≤ len) (hp : 0 < n) (w : World) : (Instr.arrayAt T (.slice a len cap)).run P w = .ok (.pointer a) w := by
  unfold Instr.arrayAt
  simp [Sem.run_bind, run_underlying hu w]
  exact fun h' => absurd h' (by omega)
theorem wpStill_arrayAt {P : Program} {ops : Array Oper} {rest : List Oper} {o : Oper} {a : Act} {w : World} {Q : Act → Prop} (hgd : o.guard = none) (ty : TypeId) (x : Operand) (ho : o.op = .sliceToArrayPointer ty x)
    (p : Option Addr) (len cap n : Nat) (e : TypeId) (hx : a.eval x = .slice p len cap) (hu : P.underlying ty = some (.array n e)) (hl : n ≤ len) (hp : 0 < n)
    (h : wpStill P ops w Q rest (a.put o.dst (.pointer p))) : wpStill P ops w Q (o :: rest) a := by
  refine wpStill_step fun K hK => ?_
  have hw : Region.wanted o (yielded ops a.tmps) = true := by simp [Region.wanted, hgd]
  rw [if_pos hw]
  unfold Oper.still execOp
  simp only [ho, hx, Sem.run_bind, Sem.run_pure, Result.andThen_ok, run_arrayAt hu p len cap hl hp w]
  exact ⟨rfl, hK _ h⟩
/-! A region that draws its order, taken by hand: what yields in every world that keeps the old blocks. -/
section
variable {P : Program} {ops : Array Oper} {S : World → Prop} {o : Oper} {a : Act}
theorem yieldsIf_move (hgd : o.guard = none) (x : Operand) (ho : o.op = .move x) {v : Value} (hx : a.eval x = v) : YieldsIf P ops S o v a :=
  .inl ⟨by simp [Region.wanted, hgd], fun w _ => by unfold execOp; simp only [ho, hx]; rfl⟩
theorem yieldsIf_array (hgd : o.guard = none) (ty : TypeId) (x : Operand) (ho : o.op = .sliceToArrayPointer ty x) {p : Option Addr} {len cap n : Nat} {e : TypeId} (hx : a.eval x = .slice p len cap) (hu : P.underlying ty = some (.array n e)) (hl : n ≤ len) (hp : 0 < n) : YieldsIf P ops S o (.pointer p) a :=
  .inl ⟨by simp [Region.wanted, hgd], fun w _ => by unfold execOp; simp only [ho, hx, Sem.run_bind, Sem.run_pure, Result.andThen_ok, run_arrayAt hu p len cap hl hp w]⟩
end
theorem take_first {P : Program} {ops : Array Oper} {Q : Exit → Act → World → Prop} {md : Region.Mode} {S : World → Prop} (i d : Nat) (v : Value) {oi : Oper} {fuel : Nat} {listed : Array Bool} {a : Act} {w : World} (hi : ops[i]? = some oi)
    (hs : Region.noSelect ops = true) (hf : Region.free md ops listed i = true) (hr : (Region.ready md ops listed).contains i = true)
    (hQ : ∀ c a w, Q (.panic c) (a.put oi.dst v) w → Q (.panic c) a w) (hd : oi.dst = some d) (hy : YieldsIf P ops S oi v a) (hS : S w)
    (h : wpAnyH P md ops Q S fuel (listed.setIfInBounds i true) (a.put (some d) v) w) : wpAnyH P md ops Q S (fuel + 1) listed a w :=
  wpAnyH_take hi hs hf hr hQ hy hS (by rw [hd]; exact h)
theorem range_below {w w1 : World} {b o B : Nat} {cs : List Value} (h : w.rangeAt b o cs) (hB : b < B) (hb : Below B w w1) : w1.rangeAt b o cs := fun j v hv => by
  have hc := h j v hv
  rw [hb.cell (p := ⟨b, o + j, none⟩) hB]
  exact hc
theorem c_Clone8 (zs : List Int) (hz : zs.length = 8) (N : Nat) (t : TypeId) (w : World) (h : Arr w N t (ints .u32 zs)) :
    Calls Try.prog 74 #[.slice (some ⟨N, 0, none⟩) 8 8] w fun e w' => ∃ v, e = .returned v ∧ Below w.heap.size w w' ∧ Own w' w.heap.size w'.heap.size 51 v (ints .u32 zs) := by
  have := c_Clone zs ⟨N, 0, none⟩ 8 _ _ w h.rd (by omega) (by omega)
  rw [hz] at this
  exact this
theorem info_block : (Try.prog.info? 93).map (·.size) = some 16 := by kernel_rfl
set_option maxHeartbeats 1000000 in
set_option maxRecDepth 100000 in
theorem i_MixIn_in (s b : List Int) (hs : s.length = 8) (hb : b.length = 16) (A A' : Option Addr) (c c' B C B' C' : Nat) (w : World) (h : Own w B C 51 (.slice A 8 c) (ints .u32 s)) (h' : Own w B' C' 51 (.slice A' 16 c') (ints .u32 b)) :
    Calls Try.prog 31 #[.slice A 8 c, .slice A' 16 c'] w fun e w' => ∃ v, e = .returned (.tuple #[v, .bool true]) ∧ Below w.heap.size w w' ∧ Own w' w.heap.size w'.heap.size 51 v (ints .u32 (mixL s b)) := by
  obtain ⟨g, rfl, -⟩ := h.at2 (k := 0) (by rw [length_ints, hs]; decide)
  obtain ⟨g', rfl, -⟩ := h'.at2 (k := 0) (by rw [length_ints, hb]; decide)
  obtain ⟨M, hM⟩ : ∃ M, mixL s b = M := ⟨_, rfl⟩
  have HM := hide (length_mixL s b)
  have CM : ∀ w, Calls Try.prog 73 #[.agg (ints .u32 s).toArray, .agg (ints .u32 b).toArray] w fun e w' => e = .returned (.agg (ints .u32 (mixL s b)).toArray) ∧ Below w.heap.size w w' := i_mixed s b hs hb
  rw [hM] at HM CM ⊢
  clear hM
  replace CM := hide CM
  have i3 := hide (show (Try.prog.info? 91).map (·.size) = some (ints .u32 M).toArray.size by rw [List.size_toArray, length_ints, HM.out]; exact info_chain)
  have i4 := hide (show (#[.int .u32 0, .int .u32 0, .int .u32 0, .int .u32 0, .int .u32 0, .int .u32 0, .int .u32 0, .int .u32 0] : Array Value).size = (ints .u32 M).toArray.size by have := HM.out; simp [length_ints, this])
  have i5 := hide (show (ints .u32 M).toArray.all (·.oneCell') = true from all_oneCell_toArray (ints_one .u32 M))
  have l1 := (h.at3 (k := 0) (by rw [length_ints, hs]; decide)).2.2.1
  have l2 := (h'.at3 (k := 0) (by rw [length_ints, hb]; decide)).2.2.1
  have R1 := hide h.range
  have R2 := hide h'.range
  have i1 : (Try.prog.info? 91).map (·.size) = some (ints .u32 s).length := by rw [length_ints, hs]; exact info_chain
  have i2 : (Try.prog.info? 93).map (·.size) = some (ints .u32 b).length := by rw [length_ints, hb]; exact info_block
  clear h h' hs hb
  replace i1 := hide i1
  replace i2 := hide i2
  go_enter Try.func31, Try.ntmps31
  go_wp2
  refine wp_region_held_drew (S := fun w' => Below w.heap.size w w') (by kernel_rfl) (below_drew (Below.refl _ _)) (fun hHeld => ?_)
  refine take_first 0 15 (.slice (some ⟨g, 0, none⟩) 8 c) rfl (by kernel_rfl) (by kernel_rfl) (by kernel_rfl) (fun _ _ _ h => h) rfl (yieldsIf_move rfl _ rfl rfl) hHeld ?_
  simp only [Act.put, List.setIfInBounds_toArray, List.set_cons_zero, List.set_cons_succ]
  refine take_first 1 16 (.pointer (some ⟨g, 0, none⟩)) rfl (by kernel_rfl) (by kernel_rfl) (by kernel_rfl) (fun _ _ _ h => h) rfl (yieldsIf_array rfl 91 _ rfl rfl Try.underlying91 (by omega) (by omega)) hHeld ?_
  simp only [Act.put, List.setIfInBounds_toArray, List.set_cons_zero, List.set_cons_succ]
  refine take_first 2 17 (.agg (ints .u32 s).toArray) rfl (by kernel_rfl) (by kernel_rfl) (by kernel_rfl) (fun _ _ _ h => h) rfl (yieldsIf_load_mid rfl 91 _ rfl g 0 rfl (ints .u32 s) _ (fun w' hw' => range_below R1.out l1 hw') Try.underlying91 rfl i1.out) hHeld ?_
  simp only [Act.put, List.setIfInBounds_toArray, List.set_cons_zero, List.set_cons_succ]
  refine take_first 3 18 (.slice (some ⟨g', 0, none⟩) 16 c') rfl (by kernel_rfl) (by kernel_rfl) (by kernel_rfl) (fun _ _ _ h => h) rfl (yieldsIf_move rfl _ rfl rfl) hHeld ?_
  simp only [Act.put, List.setIfInBounds_toArray, List.set_cons_zero, List.set_cons_succ]
  refine take_first 4 19 (.pointer (some ⟨g', 0, none⟩)) rfl (by kernel_rfl) (by kernel_rfl) (by kernel_rfl) (fun _ _ _ h => h) rfl (yieldsIf_array rfl 93 _ rfl rfl Try.underlying93 (by omega) (by omega)) hHeld ?_
  simp only [Act.put, List.setIfInBounds_toArray, List.set_cons_zero, List.set_cons_succ]
  refine take_first 5 20 (.agg (ints .u32 b).toArray) rfl (by kernel_rfl) (by kernel_rfl) (by kernel_rfl) (fun _ _ _ h => h) rfl (yieldsIf_load_mid rfl 93 _ rfl g' 0 rfl (ints .u32 b) _ (fun w' hw' => range_below R2.out l2 hw') Try.underlying93 rfl i2.out) hHeld ?_
  simp only [Act.put, List.setIfInBounds_toArray, List.set_cons_zero, List.set_cons_succ]
  refine wpAnyH_ready (rs := [6, 7]) (by kernel_rfl) (by simp) (AllReadyH.cons rfl (fun K hK => ?_) (AllReadyH.cons rfl (fun K hK => ?_) AllReadyH.nil))
  · go_simp
    refine (CM.out _).mono ?_
    rintro e w1 ⟨rfl, hb1⟩
    dsimp only
    have B1 := hide (bel_new hHeld hb1 (Nat.le_refl _))
    clear hb1 hHeld
    refine hK.out _ _ B1.out (fun _ => ?_)
    clear hK K
    refine wpAnyH_ready (rs := [7]) (by kernel_rfl) (by simp) (AllReadyH.cons rfl (fun K hK => ?_) AllReadyH.nil)
    go_simp
    refine hK.out _ _ (B1.out.alloc B1.out.size _) (fun _ => ?_)
    clear hK K
    refine wpAnyH_ready (rs := [8]) (by kernel_rfl) (by simp) (AllReadyH.cons rfl (fun K hK => ?_) AllReadyH.nil)
    rw [if_pos (by rfl)]
    refine wp_store_row 91 (.tmp 6) (.tmp 21) rfl w1.heap.size (ints .u32 M).toArray rfl rfl 91 _ (heap_alloc_new _ _) i3.out i4.out i5.out ?_
    refine hK.out _ _ (below_setRow (B1.out.alloc B1.out.size _) B1.out.size _) (fun hHeld => ?_)
    clear hK K
    refine wpAnyH_done (by kernel_rfl) ?_ _
    have A1 := hide (Arr.setRow (Arr.new w1 [.int .u32 0, .int .u32 0, .int .u32 0, .int .u32 0, .int .u32 0, .int .u32 0, .int .u32 0, .int .u32 0] 91) (ints .u32 M))
    have A2 := hide hHeld
    clear hHeld
    obtain ⟨w2, hw2⟩ : ∃ w2, (w1.alloc (.cells #[.int .u32 0, .int .u32 0, .int .u32 0, .int .u32 0, .int .u32 0, .int .u32 0, .int .u32 0, .int .u32 0] 91)).setRow w1.heap.size (ints .u32 M).toArray = w2 := ⟨_, rfl⟩
    rw [hw2] at A2 ⊢
    replace A1 := hide (show Arr w2 w1.heap.size 91 (ints .u32 M) by rw [← hw2]; exact A1.out)
    have B1' := hide B1.out.size
    clear hw2 B1
    go_wp2_with (go_at_call 74; refine (c_Clone8 M HM.out _ _ _ A1.out).mono ?_; rintro e w3 ⟨v, rfl, hb3, ho3⟩; have B3 := hide (bel_new A2.out hb3 A2.out.size); have O3 := hide ho3; clear hb3 ho3)
    go_ret2
    exact ⟨_, rfl, B3.out, O3.out.wide A2.out.size (Nat.le_refl _)⟩
  · go_simp
    have A0 := hide ((Arr.new w [.int .u32 0, .int .u32 0, .int .u32 0, .int .u32 0, .int .u32 0, .int .u32 0, .int .u32 0, .int .u32 0] 91).drew)
    have B0 := hide (below_drew ((Below.refl w.heap.size w).alloc (Nat.le_refl _) (.cells #[.int .u32 0, .int .u32 0, .int .u32 0, .int .u32 0, .int .u32 0, .int .u32 0, .int .u32 0, .int .u32 0] 91)))
    refine hK.out _ _ B0.out (fun _ => ?_)
    clear hK K hHeld
    refine wpAnyH_ready (rs := [6]) (by kernel_rfl) (by simp) (AllReadyH.cons rfl (fun K hK => ?_) AllReadyH.nil)
    go_simp
    refine (CM.out _).mono ?_
    rintro e w1 ⟨rfl, hb1⟩
    dsimp only
    have A1 := hide (A0.out.below hb1)
    have B1 := hide (bel_new B0.out hb1 B0.out.size)
    clear hb1 A0 B0
    refine hK.out _ _ B1.out (fun _ => ?_)
    clear hK K
    refine wpAnyH_ready (rs := [8]) (by kernel_rfl) (by simp) (AllReadyH.cons rfl (fun K hK => ?_) AllReadyH.nil)
    rw [if_pos (by rfl)]
    refine wp_store_row 91 (.tmp 6) (.tmp 21) rfl w.heap.size (ints .u32 M).toArray rfl rfl 91 _ A1.out i3.out i4.out i5.out ?_
    refine hK.out _ _ (below_setRow B1.out (Nat.le_refl _) _) (fun hHeld => ?_)
    clear hK K
    refine wpAnyH_done (by kernel_rfl) ?_ _
    have A1' := hide (A1.out.setRow (ints .u32 M))
    have A2 := hide hHeld
    clear hHeld
    obtain ⟨w2, hw2⟩ : ∃ w2, w1.setRow w.heap.size (ints .u32 M).toArray = w2 := ⟨_, rfl⟩
    rw [hw2] at A2 A1' ⊢
    clear hw2 B1 A1
    go_wp2_with (go_at_call 74; refine (c_Clone8 M HM.out _ _ _ A1'.out).mono ?_; rintro e w3 ⟨v, rfl, hb3, ho3⟩; have B3 := hide (bel_new A2.out hb3 A2.out.size); have O3 := hide ho3; clear hb3 ho3)
    go_ret2
    exact ⟨_, rfl, B3.out, O3.out.wide A2.out.size (Nat.le_refl _)⟩
def mixOk (s b : List Int) : Bool := decide (s.length = 8) && decide (b.length = 16)
def mixI (s b : List Int) : List Int := if mixOk s b then mixL s b else []
theorem mixI_len (s b : List Int) : (mixI s b).length ≤ 8 := by
  unfold mixI
  split
  · rw [length_mixL]; decide
  · simp
theorem mixOk_cases (s b : List Int) : (mixOk s b = true ∧ s.length = 8 ∧ b.length = 16 ∧ mixI s b = mixL s b) ∨ (mixOk s b = false ∧ mixI s b = [] ∧ (((s.length : Int) != 8) = true ∨ (((s.length : Int) != 8) = false ∧ ((b.length : Int) != 16) = true))) := by
  by_cases h1 : s.length = 8
  · by_cases h2 : b.length = 16
    · exact .inl ⟨by simp [mixOk, h1, h2], h1, h2, by simp [mixI, mixOk, h1, h2]⟩
    · exact .inr ⟨by simp [mixOk, h2], by simp [mixI, mixOk, h2], .inr ⟨by simp [h1], by simp; omega⟩⟩
  · exact .inr ⟨by simp [mixOk, h1], by simp [mixI, mixOk, h1], .inl (by simp; omega)⟩
theorem i_MixIn (s b : List Int) (A A' : Option Addr) (c c' B C B' C' : Nat) (w : World) (h : Own w B C 51 (.slice A s.length c) (ints .u32 s)) (h' : Own w B' C' 51 (.slice A' b.length c') (ints .u32 b)) :
    Calls Try.prog 31 #[.slice A s.length c, .slice A' b.length c'] w fun e w' => ∃ A1 c1, e = .returned (.tuple #[.slice A1 (mixI s b).length c1, .bool (mixOk s b)]) ∧ Below w.heap.size w w' ∧ Own w' w.heap.size w'.heap.size 51 (.slice A1 (mixI s b).length c1) (ints .u32 (mixI s b)) := by
  rcases mixOk_cases s b with ⟨h1, h2, h3, h4⟩ | ⟨h1, h4, d1 | ⟨d1, d2⟩⟩
  · rw [h4, h1]
    rw [h2] at h ⊢
    rw [h3] at h' ⊢
    refine (i_MixIn_in s b h2 h3 A A' c c' B C B' C' w h h').mono ?_
    rintro e w' ⟨v, rfl, hb, ho⟩
    obtain ⟨A1, c1, rfl, ho'⟩ := ho.shape
    rw [length_ints] at ho' ⊢
    exact ⟨A1, c1, rfl, hb, ho'⟩
  all_goals
    rw [h4, h1]
    clear h h' h1 h4
    go_enter Try.func31, Try.ntmps31
    go_wp2
    go_ret2
    exact ⟨none, 0, rfl, Below.refl _ _, Own.nil _ _ _ _⟩
end Go.Proofs.Yticpedlcfakaeaa
